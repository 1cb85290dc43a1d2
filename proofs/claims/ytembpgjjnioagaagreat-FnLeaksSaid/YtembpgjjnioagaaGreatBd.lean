/- A function's contract out of the abstract run of its body, where something is lent to it. No condition. -/
import Derived.Test.YtembpgjjnioagaaGreatBc
set_option linter.unusedVariables false
set_option linter.unusedSimpArgs false
set_option linter.constructorNameAsVariable false
namespace Go.Proofs.YtembpgjjnioagaaGreat.Ab
open Go.RowKit
def Na:C->Value->C
 | .s .own rows,v=>.s (.tag v) rows
 | c,_=>c
def xd(u:Nat->Value):Nat->List C->List C
 | _,[]=>[]
 | j,c::cs=>Na c (u j)::xd u (j+1) cs
def wo(u:Nat->Nat->Value):Nat->List MA->List (Nat × AV)
 | _,[]=>[]
 | i,.val a cs::A=>(i,.hold (kn a) cs)::wo u (i+1) A
 | i,.mut a cs::A=>(i,.hold (kn a) (xd (u i) 0 cs))::wo u (i+1) A
 | i,.ptr cs::A=>(i,.hold .box cs)::wo u (i+1) A
def FU(p:Nat->Value):Nat->List MA->List (Nat × Value)
 | _,[]=>[]
 | i,.ptr _::A=>(i,p i)::FU p (i+1) A
 | i,_::A=>FU p (i+1) A
def DG:Nat->List MA->List (Nat × Nat)->List (Option Nat)
 | i,.val _ _::A,_::pl=>none::DG (i+1) A pl
 | i,.mut _ _::A,p::pl=>some p.1::DG (i+1) A pl
 | i,.ptr _::A,_::pl=>some i::DG (i+1) A pl
 | _,_,_=>[]
def EI:List (Option Nat)->Bool
 | []=>true
 | none::l=>EI l
 | some t::l=>l.all (λx=>match x with|some a=>!Nat.beq t a|none=>true)&&EI l
def sles:List (Option Nat)->List Nat
 | []=>[]
 | none::l=>sles l
 | some t::l=>t::sles l
def Pp(v:Value)(c y o:C):Prop:=
 match c with
 | .s .own _=>(match y with|.s (.tag v') rows=>v'=v/\o=.s .own rows|_=>False)
 | .s (.tag _) _=>False
 | .m _=>False
 | .it _ _=>False
 | c=>o=c
def MJ(u:Nat->Value):Nat->List C->List C->List C->Prop
 | _,[],_,o=>o=[]
 | j,c::cs,y::xs,o::os=>Pp (u j) c y o/\MJ u (j+1) cs xs os
 | _,_,_,_=>False
def gS(u:Nat->Nat->Value)(F:Nat->AV):Nat->List MA->List (Nat × Nat)->List MA->Prop
 | _,[],_,[]=>True
 | i,.val _ _::A,_::pl,.val _ _::B=>gS u F (i+1) A pl B
 | i,.mut ag cs::A,p::pl,.mut a out::B=>(a=ag/\match F p.1 with|.hold _ xs=>MJ (u i) 0 cs (xs.drop p.2) out|_=>False)/\gS u F (i+1) A pl B
 | i,.ptr _::A,_::pl,.ptr out::B=>(match F i with|.hold .box xs=>xs=out|_=>False)/\gS u F (i+1) A pl B
 | _,_,_,_=>False
inductive aP(k k':Kd)(cs cs':List C)(Q:Prop):Prop
 |mk_ (h:k=k'/\cs=cs'/\Q)
theorem aP.mk{k b:Kd}{cs a:List C}{Q:Prop}(h1:k=b)(c:cs=a)(d:Q):aP k b cs a Q:=by refine .mk_ ?_;exact⟨h1,c,d⟩
theorem CE:type_of% @aP.mk:=@aP.mk
theorem aP.out{k b:Kd}{cs a:List C}{Q:Prop}(h:aP k b cs a Q):k=b/\cs=a/\Q:=by obtain⟨h⟩:=h;exact h
def N3(TE:Nat->Option TI)(d:List ResultVar)(k:Kd)(rcs:List C)(u:Nat->Nat->Value)(A B:List MA)(a:List (Nat × Nat)):Exit->(Nat->AV)->Prop:=λe F=>
 match e with
 | .normal=>resA TE F d (sles (DG 0 A a)) λb c=>aP (jp b) k c rcs (gS u F 0 A a B)
 | .ret=>resA TE F d (sles (DG 0 A a)) λb c=>aP (jp b) k c rcs (gS u F 0 A a B)
 | _=>False
section
variable{P:Program}{w0 w w1:World}{M S0 S:ac}{N:eL}{φ:Nat->ac}{F:Nat->AV}{a:Act}{TE:Nat->Option TI}
theorem dZ.tag{Y:ac}{c:C}{v:Value}(h:dZ w S Y c v):dZ w S Y (Na c v) v:=by
 cases h with
 | nil _ o a B=>cases o with
  | own=>exact .nil _ _ _ rfl
  | _=>exact .nil _ _ _ B
 | own _ o g k n l e u f B D E i p t K L M y=>cases o with
  | own=>exact .own _ _ g k n l e u f rfl D E i p t K L M y
  | imm=>exact B.elim
  | tag z=>exact .own _ _ g k n l e u f B D E i p t K L M y
 | v _ x F=>exact .v _ _ F
 | x _ u F=>exact .x _ _ F
 | z _ a=>exact .z _ _
 | imm _ g G k n l e u D E i N y=>exact .imm _ g G k n l e u D E i N y
 | m _ b d O j t H P J q=>exact .m _ b d O j t H P J q
 | it _ r b since Q d seen j cur left t R H q y J T A=>exact .it _ r b since Q d seen j cur left t R H q y J T A
theorem dZ.untag{Y:ac}{z v:Value}{rows:List (List C)}(h:dZ w S Y (.s (.tag z) rows) v):v=z/\dZ w S Y (.s .own rows) v:=by
 cases h with
 | nil _ o a d=>exact⟨Eq.symm d,.nil _ _ _ trivial⟩
 | own _ o g k n e rows u f d i j b c l p q r t=>exact⟨Eq.symm d,.own _ _ g k n e rows u f trivial i j b c l p q r t⟩
theorem nS(u:Nat->Value):∀(j:Nat)(cs:List C),(xd u j cs).length=cs.length
 | _,[]=>rfl
 | j,c::cs=>by simp[xd,nS u (j+1) cs]
theorem D9(u:Nat->Value):∀(a:Nat)(cs:List C)(j:Nat),(xd u a cs)[j]? = (cs[j]?).map λc=>Na c (u (a+j))
 | _,[],j=>by simp[xd]
 | a,c::cs,0=>by simp[xd]
 | a,c::cs,j+1=>by simp only[xd,List.getElem?_cons_succ];rw[D9 u (a+1) cs j,show a+1+j=a+(j+1) by omega]
theorem cQ.tag{Y:ac}{cs:List C}{u:Nat->Value}(h:cQ w S Y cs u):cQ w S Y (xd u 0 cs) u:=by
 obtain⟨f,e,g,i⟩:=h;refine⟨f,λj c a=>?_,λj a=>g j (by rwa [nS]at a),λj k a b=>i j k (by rwa [nS]at a) (by rwa [nS]at b)⟩;rw[D9,C5]at a;cases d:cs[j]? with
 | none=>rw[d]at a;cases a
 | some l=>
  rw[d]at a;simp only[z4,U0]at a;subst a;exact(e j l d).tag
def celF(v:Value)(j:Nat):Value:=v.cells.toList.getD j undef
theorem bT.celF{Y:ac}{ag:Option Nat}{cs:List C}{v:Value}(h:bT w S Y ag cs v):cs.length=ag.getD 1/\v=mkv ag (celF v)/\cQ w S Y cs (celF v):=by
 obtain⟨b,u,c,d⟩:=h;have g:=ot (ag:=ag) (u:=u) (λe=>by subst e;exact d.one (by simp at b;omega));have f:∀j,j<ag.getD 1->Ab.celF v j=u j:=λj a=>by
  unfold Ab.celF;rw[c,g];simp[List.getD,a]
 exact⟨b,c.trans (gQ λj a=>(f j a).symm),d.congr λj a=>f j ω⟩
def ME(u:Nat->Nat->Value)(i:Nat):MA->AV
 | .val a cs=>.hold (kn a) cs
 | .mut a cs=>.hold (kn a) (xd (u i) 0 cs)
 | .ptr cs=>.hold .box cs
theorem xU{u:Nat->Nat->Value} : ∀{A:List MA}{vs:List Value}{V:Nat->ac}(i:Nat),KW w S V A vs->∀t,(lay (wo u i A) t=.dead)\/(∃m v,i<=t/\vs[t - i]? = some v/\A[t - i]? = some m/\lay (wo u i A) t=ME u t m/\oT w S (V (t - i)) m v)
 | [],_,_,i,_,t=>.inl rfl
 | m::A,[],_,i,h,t=>h.elim
 | m::A,v::vs,V,i,h,t=>by
  have c:lay (wo u i (m::A)) t=bif Nat.beq t i then ME u i m else lay (wo u (i+1) A) t:=by cases m<;>rfl
  rw[c];cases a:Nat.beq t i with
  | true=>
   have:=R1 a;subst this;exact .inr ⟨m,v,Q2 _,by simp,by simp,rfl,by rw[Nat.sub_self];exact h.1⟩
  | false=>
   have d:t≠i:=λe=>by subst e;rw[Nat.beq_refl]at a;cases a
   rcases xU (i+1) h.2 t with b|⟨f,g,b,j,k,l,n⟩
   ·exact .inl b
   ·refine .inr ⟨f,g,ω,?_,?_,l,?_⟩
    ·rw[show t - i=(t - (i+1))+1 by omega];simpa using j
    ·rw[show t - i=(t - (i+1))+1 by omega];simpa using k
    ·rw[show t - i=(t - (i+1))+1 by omega];exact n
theorem Fn:∀{A:List MA}{vs:List Value}{V:Nat->ac},KW w S V A vs->A.length=vs.length
 | [],[],_,_=>rfl
 | _::_,_::_,_,h=>by simp[Fn h.2]
 | [],_::_,_,h=>h.elim
 | _::_,[],_,h=>h.elim
theorem Gn{p:Nat->Value} : ∀{A:List MA}{i:Nat}{q:Nat × Value},q∈FU p i A->i<=q.1/\q.1<i+A.length/\q.2=p q.1
 | [],_,_,h=>by simp[FU]at h
 | m::A,i,q,h=>by
  have a:q∈FU p (i+1) A->i<=q.1/\q.1<i+(m::A).length/\q.2=p q.1:=λh=>by
   obtain⟨c,d,b⟩:=Gn h;exact⟨ω,by simp;omega,b⟩
  cases m with
  | ptr e=>
   rcases List.mem_cons.1 h with rfl|h
   ·exact⟨Q2 _,by simp,rfl⟩
   ·exact a h
  | val=>exact a h
  | «mut»=>exact a h
theorem FD{p:Nat->Value} : ∀{A:List MA}{i n:Nat}{cs:List C},A[n]? = some (.ptr cs)->(i+n,p (i+n))∈FU p i A
 | [],_,n,_,h=>by simp at h
 | m::A,i,0,cs,h=>by simp at h;subst h;simp[FU]
 | m::A,i,n+1,cs,h=>by
  have a:=FD (p:=p) (i:=i+1) (show A[n]? = some (.ptr cs) by simpa using h);rw[show i+1+n=i+(n+1) by omega]at a;cases m with
  | ptr cs=>exact C4 _ a
  | val=>exact a
  | «mut»=>exact a
def Nr(φ:Nat->ac):Option (Option Nat)->ac
 | some (some t)=>φ t
 | _=>NO
theorem zU{u:Nat->Value} : ∀{a:Nat}{cs xs b:List C},MJ u a cs xs b->cs.length=b.length/\∀(j:Nat)(c o:C),cs[j]? = some c->b[j]? = some o->∃y,(d4 c=true->xs[j]? = some y)/\Pp (u (a+j)) c y o
 | _,[],xs,b,h=>by simp only[MJ]at h;subst h;exact⟨rfl,λj c o h=>by simp at h⟩
 | _,_::_,[],_,h=>by simp only[MJ]at h
 | _,_::_,_::_,[],h=>by simp only[MJ]at h
 | a,p::cs,f::xs,q::b,h=>by
  simp only[MJ]at h;obtain⟨g,i⟩:=zU h.2;refine⟨by simp[g],λj c o d e=>?_⟩;cases j with
  | zero=>simp at d e;subst d e;exact⟨f,λ_=>rfl,h.1⟩
  | succ j=>
   obtain⟨y,k,l⟩:=i j c o (by simpa using d) (by simpa using e);exact⟨y,λn=>by simpa using k n,by rw[show a+(j+1)=a+1+j by omega];exact l⟩
theorem KE{S' Y F:ac}{u L:Nat->Value}{cs xs G:List C}{off:Nat}(g:bj S w w1)(n:∀b o,S b o->S' b o)(h:cQ w S Y cs u)(h':cQ w1 S' F xs L)(i:MJ u 0 cs (xs.drop off) G):cQ w1 S' F G u:=by
 obtain⟨f,M,U,V⟩:=h;obtain⟨H,r,t,A⟩:=h';obtain⟨W,N⟩:=zU i;refine⟨λj b o=>off+j<xs.length/\H (off+j) b o,λj c q=>?_,λj q b o i=>t _ i.1 b o i.2,λj X q O P b o i p=>A _ _ i.1 p.1 ω b o i.2 p.2⟩;have Q:=(V1.1 q).1;have k:cs[j]? = some cs[j]:=U1 ω;obtain⟨y,l,a⟩:=N j _ c k q;rw[C5]at a;have d:=M j _ k;generalize cs[j]=B at k a d l;have keep:d4 B=false->c=B->dZ w1 S' (λb o=>off+j<xs.length/\H (off+j) b o) c (u j):=λR e=>by
  subst e;exact((d.bare (F':=NO) R).keep g (λ_ _ h=>h.elim)).mono n (λ_ _ h=>h.elim)
 cases B with
 | v Z=>exact keep rfl a
 | x=>exact keep rfl a
 | z=>exact keep rfl a
 | m es=>exact a.elim
 | it=>exact a.elim
 | s o J=>
  cases o with
  | imm=>exact keep rfl a
  | tag z=>exact a.elim
  | own=>
   have l:=l rfl;rw[List.getElem?_drop]at l;have D:=(V1.1 l).1;simp only[Pp]at a;split at a
   case h_2=>exact a.elim
   rename_i v' E;obtain⟨rfl,rfl⟩:=a;obtain⟨T,K⟩:=(r _ _ l).untag;rw[T]at K;exact K.mono (λ_ _ h=>h) (λb o h=>⟨D,h⟩)
theorem bi.backs{E:World}{S':ac}{u:Nat->Nat->Value}(h:bi w0 M S0 N S' φ F a E)(e:bj S w E)(f:∀b o,S b o->S' b o):∀{A:List MA}{g:List (Nat × Nat)}{B:List MA}{vs:List Value}{V:Nat->ac}{i:Nat},KW w S V A vs->
  (∀j v,vs[j]? = some v->u (i+j)=celF v)->(∀j v cs,vs[j]? = some v->A[j]? = some (.ptr cs)->tvs a (i+j)=v)->gS u F i A g B->Dp E S' (λn=>Nr φ (DG i A g)[n]?) B vs
 | [],g,B,vs,V,i,l,q,r,c=>by
  cases vs with
  | cons _ _=>exact l.elim
  | nil=>cases B with
   | nil=>trivial
   | cons _ _=>simp only[gS]at c
 | m::A,[],B,vs,V,i,l,q,r,c=>by cases m<;>simp only[gS]at c
 | m::A,p::g,[],vs,V,i,l,q,r,c=>by cases m<;>simp only[gS]at c
 | m::A,p::g,G::B,[],V,i,l,q,r,c=>l.elim
 | m::A,p::g,G::B,v::vs,V,i,l,q,r,c=>by
  have next:gS u F (i+1) A g B->Dp E S' (λn=>Nr φ (DG (i+1) A g)[n]?) B vs:=λc=>
   bi.backs h e f l.2 (λj v H=>by rw[show i+1+j=i+(j+1) by omega];exact q (j+1) v (by simpa using H))
    (λj v cs H U=>by rw[show i+1+j=i+(j+1) by omega];exact r (j+1) v cs (by simpa using H) (by simpa using U)) c
  cases m with
  | val W cs=>
   cases G with
   | val C X=>simp only[gS]at c;exact⟨trivial,next c⟩
   | ptr=>simp only[gS]at c
   | «mut»=>simp only[gS]at c
  | «mut» W cs=>
   cases G with
   | val=>simp only[gS]at c
   | ptr=>simp only[gS]at c
   | «mut» C out=>
    simp only[gS]at c;obtain⟨⟨rfl,d⟩,J⟩:=c;refine⟨?_,next J⟩;have D:=bT.celF (show bT w S (V 0) C cs v from l.1);have K:u i=celF v:=q 0 v (by simp);have t:=h.slot p.1;cases y:F p.1 with
    | hold k xs=>
     rw[y]at d t;simp only at d;rw[K]at d;obtain⟨P,Y,Q,L,R,T,O⟩:=t;refine⟨by rw[<-(zU d).1];exact D.1,celF v,D.2.1,?_⟩;exact(KE e f D.2.2 O d).mono (λ_ _ h=>h) (λb o c=>by simpa[DG,Nr] using L b o c)
    | _=>rw[y]at d;exact d.elim
  | ptr cs=>
   cases G with
   | val=>simp only[gS]at c
   | «mut»=>simp only[gS]at c
   | ptr out=>
    simp only[gS]at c;refine⟨?_,next c.2⟩;have D:tvs a i=v:=r 0 v cs (by simp) (by simp);have t:=h.slot i;cases y:F i with
    | hold k xs=>
     cases k with
     | box=>
      rw[y]at c t;have:=c.1;simp only at this;subst this;rw[D]at t;obtain⟨P,Y,Q,L,R,T,O⟩:=t;exact⟨P,Y,λb o c=>by simpa[DG,Nr] using Q b o c,λb o c=>by simpa[DG,Nr] using L b o c,R,T,O⟩
     | _=>rw[y]at c;exact c.1.elim
    | _=>rw[y]at c;exact c.1.elim
theorem sr:∀{l:List (Option Nat)},EI l=true->∀(i a t c:Nat),i≠a->l[i]? = some (some t)->l[a]? = some (some c)->t≠c
 | [],_,i,a,t,c,_,h,_=>by simp at h
 | none::l,b,i,a,t,c,f,h,d=>by
  cases i with
  | zero=>simp at h
  | succ i=>cases a with
   | zero=>simp at d
   | succ a=>exact sr (l:=l) b i a t c ω (by simpa using h) (by simpa using d)
 | some j::l,b,i,a,t,c,f,h,d=>by
  simp only[EI,I0]at b;have g:∀(n s:Nat),l[n]? = some (some s)->j≠s:=λn s k e=>by
   have:=I3.1 b.1 _ (Q1 k);simp only[Bool.not_eq_true']at this;rw[e,Nat.beq_refl]at this;cases this
  cases i with
  | zero=>
   simp at h;subst h;cases a with
   | zero=>exact absurd rfl f
   | succ a=>exact g a c (by simpa using d)
  | succ i=>cases a with
   | zero=>simp at d;subst d;exact λe=>g i t (by simpa using h) e.symm
   | succ a=>exact sr b.2 i a t c ω (by simpa using h) (by simpa using d)
theorem wa:∀{l:List (Option Nat)}{i t:Nat},l[i]? = some (some t)->t∈sles l
 | [],i,t,h=>by simp at h
 | none::l,i,t,h=>by
  cases i with
  | zero=>simp at h
  | succ i=>exact wa (l:=l) (i:=i) (by simpa using h)
 | some a::l,i,t,h=>by
  cases i with
  | zero=>simp at h;subst h;simp[sles]
  | succ i=>exact C4 _ (wa (l:=l) (i:=i) (by simpa using h))
theorem uO{φ:Nat->ac}{x:Option (Option Nat)}{b o:Nat}(h:Nr φ x b o):∃t,x=some (some t)/\φ t b o:=by
 match x,h with
 | some (some t),h=>exact⟨t,rfl,h⟩
 | some none,h=>exact h.elim
 | none,h=>exact h.elim
theorem Hb{f : Nat}{E : Func}{c : Code}{sh : Bool}{A B : List MA}{k : Kd}{rcs : List C}{mo : List (Nat × List Nat)}{n : Nat}(Q : List (Nat × Nat))(hTE : ∀t i, TE t = some i -> ce P t i)(hf : P.funcs[f]? = some E)(hn : (E.name == "runtime.NumGoroutine") = false)(a:E.body=some c){ck:Nat->Array Oper->Bool}{D:eL->Nat->Array Oper->((Nat->AV)->Prop)->(Nat->AV)->Prop}(hD:∀N,wF P N ck (D N))(hc:fB ck c=true)(hN:A.length+(E.ntmps - A.length)=n)(hok:EI (DG 0 A Q)=true)(hsh:sh=true\/gE rcs)(hp:∀(u:Nat->Nat->Value)(p:Nat->Value),aw P TE ⟨n,FU p 0 A,mo⟩ (D ⟨n,FU p 0 A,mo⟩) c (N3 TE E.results.toList k rcs u A B Q) (lay (wo u 0 A))):aQ P f sh A B k rcs:=by
 refine⟨⟨E,hf,hn,by rw[a];rfl⟩,λw S V r hS hV hVd hA=>?_⟩;have hlen:=Fn hA;refine calls_of_wp hf a ?_
 let u:Nat->Nat->Value:=λi=>celF (r.getD i undef)
 let p:Nat->Value:=λi=>r.getD i undef
 have htv:∀t v,r[t]? = some v->tvs {tmps:=r.toArray++Array.replicate (E.ntmps - r.toArray.size) undef,defers:=[]} t=v:=λt v l=>by
  have H:=(V1.1 l).1;simp only[tvs,t5];rw[Array.getElem?_append_left (by simpa using H)];simp only[List.getElem?_toArray];rw[l];rfl
 have hst:St w (λb o=>∃i,V i b o) S ⟨n,FU p 0 A,mo⟩ (lay (wo u 0 A)) {tmps:=r.toArray++Array.replicate (E.ntmps - r.toArray.size) undef,defers:=[]} w:=by
  refine⟨S,V,λt=>?_,hVd,λt b o h=>(hV t b o h).2,λt b o h=>⟨(hV t b o h).1,.inr ⟨t,h⟩⟩,λ_ _ h=>h,λb o h=>⟨hS b o h,.inl h⟩,CU _ _,by simp;omega,rfl,λq hq=>?_⟩
  ·rcases xU (u:=u) 0 hA t with J|⟨m,v,-,l,h2',G,U⟩
   ·rw[J];trivial
   ·rw[G]
    rw[Nat.sub_zero]at l U;rw[htv t v l];have hu:u t=celF v:=by show celF (r.getD t undef)=_;rw[List.getD,l];rfl
    cases m with
    | val O K=>exact(bT.mono (show bT w S NO O K v from U) (λ_ _ h=>h) (λ_ _ h=>h.elim)).slot
    | «mut» O K=>
     obtain⟨e1,e2,e3⟩:=bT.celF (show bT w S (V t) O K v from U);refine bT.slot ⟨by rw[nS];exact e1,celF v,e2,?_⟩;rw[hu];exact e3.tag
    | ptr K=>exact U
  ·obtain⟨-,J,l⟩:=Gn hq
   rw[l];have H:q.1<r.length:=ω
   refine htv _ _ ?_;show r[q.1]? = some (r.getD q.1 undef);rw[List.getD,U1 H];rfl
 refine ia hTE (hD _) c hc _ _ _ _ w (hp u p) hst λe F' W y he hs'=>?_
 obtain⟨S',φ',h⟩:=hs';have fin:resA TE F' E.results.toList (sles (DG 0 A Q)) (λsh K=>aP (jp sh) k K rcs (gS u F' 0 A Q B))->W.defers=[]/\∃v,(results E W.tmps).run P y=.ok v y/\(∃v',Ending.returned v=.returned v'/\bJ (λb o=>∃i,V i b o) w y/\∃(X:ac)(Z:Nat->ac)(S1:ac),
     (∀b o,X b o->(∃i,V i b o)\/(b<y.heap.size/\w.heap.size<=b))/\(∀i b o,Z i b o->(∃i,V i b o)\/(b<y.heap.size/\w.heap.size<=b))/\
     (∀b o,S1 b o->(sh=true/\S b o)\/(∃i,V i b o)\/(b<y.heap.size/\w.heap.size<=b))/\
     (∀i i',i≠i'->∀b o,Z i b o->¬Z i' b o)/\(∀i b o,X b o->¬Z i b o)/\(∀b o,X b o->¬S1 b o)/\(∀i b o,Z i b o->¬S1 b o)/\
     fA y NO k rcs.length v'/\cQ y S1 X rcs (bV y k v')/\Dp y (λb o=>S b o\/S1 b o) Z B r):=by
  intro hr;obtain⟨shs,K,d,u',hfin,hrun,M,hln,hL,hcells,L,hrow⟩:=h.resA hTE hr;obtain⟨rfl,rfl,R⟩:=hfin.out;refine⟨h.defers,?_⟩;have T:(results E W.tmps).run P y=.ok (if h:d.toArray.size=1 then d.toArray[0] else .tuple d.toArray) y:=by
   have e:results E W.tmps=(do let r <-E.results.mapM (BN W.tmps);pure (if h:r.size=1 then r[0] else .tuple r)):=by
    unfold results
    congr 1
   rw[e,<-Array.toArray_toList (xs:=E.results),List.mapM_toArray];simp only[Sem.run_bind,Sem.run_map,hrun,Result.andThen_ok,Sem.run_pure]
  have hex:∀t b o,φ' t b o->(∃i,V i b o)\/(b<y.heap.size/\w.heap.size<=b):=λt b o a=>(h.ex t b o a).2.elim (λh'=>.inr ⟨(h.ex t b o a).1,h'⟩) .inl
  have hsameS:bj S w y:=λb o a=>by
   have H:=hS b o a;exact⟨h.old.cel b o H (λ⟨i,hi⟩=>(hV i b o hi).2 a),h.old.fro b o H (λ⟨i,hi⟩=>(hV i b o hi).2 a)⟩
  have hm:=h.backs (u:=u) hsameS h.sub hA (λj v hj=>by show celF (r.getD (0+j) undef)=_;rw[C5,List.getD,hj];rfl) (λj v K hj hc=>by
    have:=h.par _ (FD (p:=p) (i:=0) hc);rw[this];show r.getD (0+j) undef=v;rw[C5,List.getD,hj];rfl) R
  refine⟨_,T,_,rfl,h.old,λb o=>∃t,t∉sles (DG 0 A Q)/\φ' t b o,λi=>Nr φ' (DG 0 A Q)[i]?,λb o=>(sh=true/\S' b o)\/(S' b o/\((∃i,V i b o)\/w.heap.size<=b)),λb o ⟨t,_,a⟩=>hex t b o a,λi b o a=>?_,λb o a=>?_,λi i' hne b o a g=>?_,λi b o ⟨t,ht,a⟩ g=>?_,λb o ⟨t,_,a⟩ g=>h.disS t b o a (g.elim (·.2) (·.1)),λi b o a g=>?_,?_⟩
  ·obtain⟨t,-,a⟩:=uO a
   exact hex t b o a
  ·rcases a with⟨J,l⟩|⟨J,l⟩
   ·rcases(h.sup b o l).2 with G|G|G
    ·exact .inl ⟨J,G⟩
    ·exact .inr (.inr ⟨(h.sup b o l).1,G⟩)
    ·exact .inr (.inl G)
   ·rcases l with l|l
    ·exact .inr (.inl l)
    ·exact .inr (.inr ⟨(h.sup b o J).1,l⟩)
  ·obtain⟨t,e1,a⟩:=uO a
   obtain⟨t',e2,g⟩:=uO g;exact h.dis t t' (sr hok i i' t t' hne e1 e2) b o a g
  ·obtain⟨t',e2,g⟩:=uO g
   exact h.dis t t' (λe=>ht (by rw[e];exact wa e2)) b o a g
  ·obtain⟨t,-,a⟩:=uO a
   exact h.disS t b o a (g.elim (·.2) (·.1))
  ·have hk:fA y NO (jp shs) K.length (if h:d.toArray.size=1 then d.toArray[0] else .tuple d.toArray)/\cQ y S' (λb o=>∃t,t∉sles (DG 0 A Q)/\φ' t b o) K (bV y (jp shs) (if h:d.toArray.size=1 then d.toArray[0] else .tuple d.toArray)):=by
    match shs,M,L,hL with
    | [],M,_,hL=>
     cases d with
     | cons _ _=>exact M.elim
     | nil=>
      have:K=[]:=R5 (by simpa[pd] using hL.symm);subst this;exact⟨⟨_,rfl,trivial,rfl⟩,cQ.nil _ _ _ _⟩
    | [O],_,L,_=>
     obtain⟨v,rfl,hv⟩:=L O rfl;have:=hv.slot (F:=F') (tv:=tvs W);obtain⟨X1,Y,J,l,G,U,h5⟩:=this;refine⟨?_,h5.mono (λ_ _ h=>h) l⟩;cases O<;>exact U
    | O::ag2::sh,M,_,hL=>
     have hsz:¬d.toArray.size=1:=by
      match d,M with
      | [],M=>simp
      | [v],M=>cases O<;>cases ag2<;>exact M.2.elim
      | _::_::_,_=>simp
     rw[dif_neg hsz];refine⟨⟨_,rfl,M,hL⟩,hrow.congr λj hj=>?_⟩;simp only[bV,jp,l8,hcells];simp[List.getD,hj]
   refine⟨hk.1,?_,hm.mono λb o a=>?_⟩
   ·rcases hsh with J|J
    ·exact hk.2.mono (λb o a=>.inl ⟨J,a⟩) (λ_ _ h=>h)
    ·exact(hk.2.fresh J).mono (λ_ _ h=>h.elim) (λ_ _ h=>h)
   ·rcases(h.sup b o a).2 with G|G|G
    ·exact .inl G
    ·exact .inr (.inr ⟨a,.inr G⟩)
    ·exact .inr (.inr ⟨a,.inl G⟩)
 cases e with
 | normal=>exact fin he
 | ret=>exact fin he
 | _=>exact he.elim
end
abbrev I(z:Int):C:=.v (.int .i64 z)
abbrev B(b:Bool):C:=.v (.bool b)
def rI(_:d7)(z:Int):List C:=[I z]
def rB(_:d7)(b:Bool):List C:=[B b]
theorem oU(z:Int):gE (rI .own z):=⟨trivial,trivial⟩
theorem BS(b:Bool):gE (rB .own b):=⟨trivial,trivial⟩
def lP(z:Int):Prop:=-9223372036854775808<=z/\z<=9223372036854775807
def P4(_:Bool):Prop:=True
theorem qh : Tryz.prog.follows .mixedOrders=true:=by kernel_rfl
theorem Pa{n f : Nat}{mo : List (Nat × List Nat)}{a : Func}{c : Code}{sh : Bool}{A : List RA}{k : Kd}{rcs : List C}(d : Tryz.prog.funcs[f]? = some a)(e : (a.name == "runtime.NumGoroutine") = false)(g : a.body = some c){tb : List (Nat × Nat × List Nat)}(h : fB (lZ tb) c = true)(i:A.length+(a.ntmps - A.length)=n)(b:sh=true\/gE rcs)(j:aw Tryz.prog TE ⟨n,[],mo⟩ (DF Tryz.prog TE ⟨n,[],mo⟩ tb) c (LJ TE a.results.toList k rcs) (lay (tS 0 A))):ao Tryz.prog f sh A k rcs:=
 GI yc d e g (pE yc qh ⟨n,[],mo⟩ tb) h i rfl b j
theorem Pf{n f : Nat}{mo : List (Nat × List Nat)}{a : Func}{c : Code}{sh : Bool}{A B : List MA}{k : Kd}{rcs : List C}(b : List (Nat × Nat))(g : Tryz.prog.funcs[f]? = some a)(h : (a.name == "runtime.NumGoroutine") = false)(i : a.body = some c){tb : List (Nat × Nat × List Nat)}(j : fB (lZ tb) c = true)(l:A.length+(a.ntmps - A.length)=n)(d:EI (DG 0 A b)=true)(e:sh=true\/gE rcs)(o:∀(u:Nat->Nat->Value)(p:Nat->Value),aw Tryz.prog TE ⟨n,FU p 0 A,mo⟩ (DF Tryz.prog TE ⟨n,FU p 0 A,mo⟩ tb) c (N3 TE a.results.toList k rcs u A B b) (lay (wo u 0 A))):aQ Tryz.prog f sh A B k rcs:=
 Hb b yc g h i (λN=>pE yc qh N tb) j l d e o
theorem NJ{n f t : Nat}{mo : List (Nat × List Nat)}{a : Func}{c : Code}{A : List RA}{rcs : List C}(b : Tryz.prog.funcs[f]? = some a)(d : (a.name == "runtime.NumGoroutine") = false)(e : a.body = some c){tb : List (Nat × Nat × List Nat)}(g : fB (lZ tb) c = true)(h:A.length+(a.ntmps - A.length)=n)(i:a.results = #[.tmp t])(j:aw Tryz.prog TE ⟨n,[],mo⟩ (DF Tryz.prog TE ⟨n,[],mo⟩ tb) c (NP t rcs) (lay (tS 0 A))):pW Tryz.prog f true A .box rcs:=
 GO yc b d e (pE yc qh ⟨n,[],mo⟩ tb) g h rfl i j
theorem ef{x:Int}(h1 : -9223372036854775808<=x)(a:x<=9223372036854775807):IntKind.i64.wrap x=x:=IntWalk.i64_in x (by constructor<;>assumption)
def J5:RA->RA->Prop
 | .val ag cs,.val ag' cs'=>ag=ag'/\cs=cs'
 | .ptr cs,.ptr cs'=>cs=cs'
 | A,a=>A=a
theorem J5.eq{A a:RA}(h:J5 A a):A=a:=by
 unfold J5 at h;split at h
 ·obtain⟨rfl,rfl⟩:=h;rfl
 ·rw[h]
 ·exact h
def Bg:List RA->List RA->Prop
 | [],[]=>True
 | A::As,B::Bs=>J5 A B/\Bg As Bs
 | _,_=>False
theorem Bg.eq:∀{A a:List RA},Bg A a->A=a
 | [],[],_=>rfl
 | A::As,B::Bs,h=>by rw[J5.eq h.1,Bg.eq h.2]
 | [],_::_,h=>h.elim
 | _::_,[],h=>h.elim
theorem Cl.eq{P:Program}{f:Nat}{b:Bool}{A a:List RA}{K:AV->Prop}{k:Kd}{rcs:List C}(h:ao P f false a k rcs)(c:Bg A a)(d:K (.hold k rcs)):Cl P f b A K:=by rw[c.eq];exact C6 h d
theorem CF:type_of% @Cl.eq:=@Cl.eq
theorem up{n b:Nat}(h:n<=1048576)(a:b<=1000):n*b<=140737488355328:=Z3 (Nat.mul_le_mul h a) (by decide)
theorem Bf.NB{a b:Bool}{X Y:Prop}(h1:a≠b->X)(c:a=b->Y):Bf (a != b) X Y:=by
 refine Bf.P (λh=>h1 ?_) (λh=>c ?_)
 ·simpa using h
 ·simpa using h
theorem Rw.one{a:List C}{off i k j:Nat}{K:List C->Nat->Prop}{o:d7}{rows:List (List C)}{r:List C}(h1:a[off]? = some (.s o rows))(b:rows[i]? = some r)(c:r.length=k)(d:K r j):Rw a off [(i,k,j)] K:=
 Rw.mk (r:=r) (j:=j) (by simp[bU,h1,b,c]) d
theorem CG:type_of% @Rw.one:=@Rw.one
section
variable{α:Type}{A B:List α}
end
theorem aa{α β:Type}{f:α->β}{l:List α}{k:Nat}{x:α}(h:l[k]? = some x):(l.map f)[k]? = some (f x):=by simp[h]
def aD(o:d7)(x:List Int):List C:=[.s o (x.map (rI o))]
theorem cW(x:List Int):dy (aD .own x)=aD .imm x:=by simp[dy,aD,rI,dy]
theorem bC(x:List Int):gE (aD .own x):=⟨⟨.inl λh=>(by cases h),bf _ _ λy _=>oU y⟩,trivial⟩
def iJ(x:List Int):Prop:=x.length<=9223372036854775807/\∀y∈x,lP y
def qx(x:List Int):Prop:=x.length<=1048576
def ir(o:d7)(x:List (List Int)):List C:=[.s o (x.map (aD o))]
theorem xP(x:List (List Int)):dy (ir .own x)=ir .imm x:=by simp[dy,ir,cW,<-bR,T4]
def zX(x:List (List Int)):Prop:=x.length<=9223372036854775807/\∀y∈x,iJ y
def wW(x:List (List Int)):Prop:=x.length<=1048576/\∀y∈x,qx y
def nw(o:d7)(x:List Bool):List C:=[.s o (x.map (rB o))]
theorem GX(x:List Bool):dy (nw .own x)=nw .imm x:=by simp[dy,nw,rB,dy]
def Lt(x:List Bool):Prop:=x.length<=9223372036854775807/\∀y∈x,P4 y
def Kw(x:List Bool):Prop:=x.length<=1048576
structure aV where
 Cells:List (List Int)
 Used:List Bool
deriving DecidableEq,Inhabited
def aV.enc(o:d7)(x:aV):List C:=[.s o (x.Cells.map (aD o)),.s o (x.Used.map (rB o))]
theorem aV.enc_fz(x:aV):dy (aV.enc .own x)=aV.enc .imm x:=by simp[dy,aV.enc,rB,cW,<-bR,T4]
theorem aV.enc_fr(x:aV):gE (aV.enc .own x):=⟨⟨.inl λh=>(by cases h),bf _ _ λy _=>bC y⟩,⟨.inl λh=>(by cases h),bf _ _ λy _=>BS y⟩,trivial⟩
def aV.wf(x:aV):Prop:=zX x.Cells/\Lt x.Used
def aV.sml(x:aV):Prop:=wW x.Cells/\Kw x.Used
structure bg where
 Mode:Int
 Frame:Int
deriving DecidableEq,Inhabited
def bg.enc(o:d7)(x:bg):List C:=[I x.Mode,I x.Frame]
theorem bg.enc_fz(x:bg):dy (bg.enc .own x)=bg.enc .imm x:=by simp[dy,bg.enc]
theorem bg.enc_fr(x:bg):gE (bg.enc .own x):=⟨trivial,trivial,trivial⟩
def bg.wf(x:bg):Prop:=lP x.Mode/\lP x.Frame
def bg.sml(_:bg):Prop:=True
def l9(o:d7)(x:List bg):List C:=[.s o (x.map (bg.enc o))]
theorem BA(x:List bg):dy (l9 .own x)=l9 .imm x:=by simp[dy,l9,bg.enc_fz,<-bR,T4]
def Ho(x:List bg):Prop:=x.length<=9223372036854775807/\∀y∈x,bg.wf y
def Ep(x:List bg):Prop:=x.length<=1048576/\∀y∈x,bg.sml y
structure aH where
 Entries:List bg
deriving DecidableEq,Inhabited
def aH.enc(o:d7)(x:aH):List C:=[.s o (x.Entries.map (bg.enc o))]
theorem aH.enc_fz(x:aH):dy (aH.enc .own x)=aH.enc .imm x:=by simp[dy,aH.enc,bg.enc_fz,<-bR,T4]
theorem CV:type_of% @aH.enc_fz:=@aH.enc_fz
theorem aH.enc_fr(x:aH):gE (aH.enc .own x):=⟨⟨.inl λh=>(by cases h),bf _ _ λy _=>bg.enc_fr y⟩,trivial⟩
def aH.wf(x:aH):Prop:=Ho x.Entries
def aH.sml(x:aH):Prop:=Ep x.Entries
structure aT where
 Frames:aV
 Table:aH
deriving DecidableEq,Inhabited
def aT.enc(o:d7)(x:aT):List C:=[.s o (x.Frames.Cells.map (aD o)),.s o (x.Frames.Used.map (rB o)),.s o (x.Table.Entries.map (bg.enc o))]
theorem aT.enc_fz(x:aT):dy (aT.enc .own x)=aT.enc .imm x:=by simp[dy,aT.enc,bg.enc_fz,rB,cW,<-bR,T4]
theorem aT.enc_fr(x:aT):gE (aT.enc .own x):=⟨⟨.inl λh=>(by cases h),bf _ _ λy _=>bC y⟩,⟨.inl λh=>(by cases h),bf _ _ λy _=>BS y⟩,⟨.inl λh=>(by cases h),bf _ _ λy _=>bg.enc_fr y⟩,trivial⟩
def aT.wf(x:aT):Prop:=aV.wf x.Frames/\aH.wf x.Table
def aT.sml(x:aT):Prop:=aV.sml x.Frames/\aH.sml x.Table
structure af where
 Machine:aT
 Calls:Int
 Refuse:List Int
deriving DecidableEq,Inhabited
def af.enc(o:d7)(x:af):List C:=[.s o (x.Machine.Frames.Cells.map (aD o)),.s o (x.Machine.Frames.Used.map (rB o)),.s o (x.Machine.Table.Entries.map (bg.enc o)),I x.Calls,.s o (x.Refuse.map (rI o))]
theorem af.enc_fz(x:af):dy (af.enc .own x)=af.enc .imm x:=by simp[dy,af.enc,bg.enc_fz,rB,rI,cW,<-bR,T4]
theorem CP:type_of% @af.enc_fz:=@af.enc_fz
theorem af.enc_fr(x:af):gE (af.enc .own x):=⟨⟨.inl λh=>(by cases h),bf _ _ λy _=>bC y⟩,⟨.inl λh=>(by cases h),bf _ _ λy _=>BS y⟩,⟨.inl λh=>(by cases h),bf _ _ λy _=>bg.enc_fr y⟩,trivial,⟨.inl λh=>(by cases h),bf _ _ λy _=>oU y⟩,trivial⟩
def af.wf(x:af):Prop:=aT.wf x.Machine/\lP x.Calls/\iJ x.Refuse
def af.sml(x:af):Prop:=aT.sml x.Machine/\qx x.Refuse
structure aA where
 At:Int
 Len:Int
deriving DecidableEq,Inhabited
def aA.enc(o:d7)(x:aA):List C:=[I x.At,I x.Len]
theorem aA.enc_fz(x:aA):dy (aA.enc .own x)=aA.enc .imm x:=by simp[dy,aA.enc]
theorem aA.enc_fr(x:aA):gE (aA.enc .own x):=⟨trivial,trivial,trivial⟩
def aA.wf(x:aA):Prop:=lP x.At/\lP x.Len
def aA.sml(_:aA):Prop:=True
def bI(o:d7)(x:List aA):List C:=[.s o (x.map (aA.enc o))]
theorem dB(x:List aA):dy (bI .own x)=bI .imm x:=by simp[dy,bI,aA.enc_fz,<-bR,T4]
theorem nr(x:List aA):gE (bI .own x):=⟨⟨.inl λh=>(by cases h),bf _ _ λy _=>aA.enc_fr y⟩,trivial⟩
def HC(x:List aA):Prop:=x.length<=9223372036854775807/\∀y∈x,aA.wf y
def iL(x:List aA):Prop:=x.length<=1048576/\∀y∈x,aA.sml y
structure au where
 Page:Int
 Class:Int
 Bits:Int
deriving DecidableEq,Inhabited
def au.enc(o:d7)(x:au):List C:=[I x.Page,I x.Class,I x.Bits]
theorem au.enc_fz(x:au):dy (au.enc .own x)=au.enc .imm x:=by simp[dy,au.enc]
theorem au.enc_fr(x:au):gE (au.enc .own x):=⟨trivial,trivial,trivial,trivial⟩
def au.wf(x:au):Prop:=lP x.Page/\lP x.Class/\lP x.Bits
def au.sml(_:au):Prop:=True
def bX(o:d7)(x:List au):List C:=[.s o (x.map (au.enc o))]
theorem qf(x:List au):dy (bX .own x)=bX .imm x:=by simp[dy,bX,au.enc_fz,<-bR,T4]
theorem E1(x:List au):gE (bX .own x):=⟨⟨.inl λh=>(by cases h),bf _ _ λy _=>au.enc_fr y⟩,trivial⟩
def Ka(x:List au):Prop:=x.length<=9223372036854775807/\∀y∈x,au.wf y
def du(x:List au):Prop:=x.length<=1048576/\∀y∈x,au.sml y
structure a8 where
 Page:Int
 Pages:Int
 Size:Int
deriving DecidableEq,Inhabited
def a8.enc(o:d7)(x:a8):List C:=[I x.Page,I x.Pages,I x.Size]
theorem a8.enc_fz(x:a8):dy (a8.enc .own x)=a8.enc .imm x:=by simp[dy,a8.enc]
theorem a8.enc_fr(x:a8):gE (a8.enc .own x):=⟨trivial,trivial,trivial,trivial⟩
def a8.wf(x:a8):Prop:=lP x.Page/\lP x.Pages/\lP x.Size
def a8.sml(_:a8):Prop:=True
def bS(o:d7)(x:List a8):List C:=[.s o (x.map (a8.enc o))]
theorem tI(x:List a8):dy (bS .own x)=bS .imm x:=by simp[dy,bS,a8.enc_fz,<-bR,T4]
def Hs(x:List a8):Prop:=x.length<=9223372036854775807/\∀y∈x,a8.wf y
def dr(x:List a8):Prop:=x.length<=1048576/\∀y∈x,a8.sml y
structure bB where
 Id:Int
 Addr:Int
 Size:Int
 Thread:Int
deriving DecidableEq,Inhabited
def bB.enc(o:d7)(x:bB):List C:=[I x.Id,I x.Addr,I x.Size,I x.Thread]
theorem bB.enc_fz(x:bB):dy (bB.enc .own x)=bB.enc .imm x:=by simp[dy,bB.enc]
theorem bB.enc_fr(x:bB):gE (bB.enc .own x):=⟨trivial,trivial,trivial,trivial,trivial⟩
def bB.wf(x:bB):Prop:=lP x.Id/\lP x.Addr/\lP x.Size/\lP x.Thread
def bB.sml(_:bB):Prop:=True
def mN(o:d7)(x:List bB):List C:=[.s o (x.map (bB.enc o))]
theorem rM(x:List bB):dy (mN .own x)=mN .imm x:=by simp[dy,mN,bB.enc_fz,<-bR,T4]
def Lf(x:List bB):Prop:=x.length<=9223372036854775807/\∀y∈x,bB.wf y
def JT(x:List bB):Prop:=x.length<=1048576/\∀y∈x,bB.sml y
structure ay where
 Lists:List (List Int)
deriving DecidableEq,Inhabited
def ay.enc(o:d7)(x:ay):List C:=[.s o (x.Lists.map (aD o))]
theorem ay.enc_fz(x:ay):dy (ay.enc .own x)=ay.enc .imm x:=by simp[dy,ay.enc,cW,<-bR,T4]
theorem ay.enc_fr(x:ay):gE (ay.enc .own x):=⟨⟨.inl λh=>(by cases h),bf _ _ λy _=>bC y⟩,trivial⟩
def ay.wf(x:ay):Prop:=zX x.Lists
def ay.sml(x:ay):Prop:=wW x.Lists
def fL(o:d7)(x:List ay):List C:=[.s o (x.map (ay.enc o))]
theorem B2(x:List ay):dy (fL .own x)=fL .imm x:=by simp[dy,fL,ay.enc_fz,<-bR,T4]
def H3(x:List ay):Prop:=x.length<=9223372036854775807/\∀y∈x,ay.wf y
def Ff(x:List ay):Prop:=x.length<=1048576/\∀y∈x,ay.sml y
structure dd where
 To:Int
 Addr:Int
deriving DecidableEq,Inhabited
def dd.enc(o:d7)(x:dd):List C:=[I x.To,I x.Addr]
theorem dd.enc_fz(x:dd):dy (dd.enc .own x)=dd.enc .imm x:=by simp[dy,dd.enc]
theorem dd.enc_fr(x:dd):gE (dd.enc .own x):=⟨trivial,trivial,trivial⟩
def dd.wf(x:dd):Prop:=lP x.To/\lP x.Addr
def dd.sml(_:dd):Prop:=True
def cM(o:d7)(x:List dd):List C:=[.s o (x.map (dd.enc o))]
theorem mD(x:List dd):dy (cM .own x)=cM .imm x:=by simp[dy,cM,dd.enc_fz,<-bR,T4]
theorem pT(x:List dd):gE (cM .own x):=⟨⟨.inl λh=>(by cases h),bf _ _ λy _=>dd.enc_fr y⟩,trivial⟩
def KH(x:List dd):Prop:=x.length<=9223372036854775807/\∀y∈x,dd.wf y
def Gt(x:List dd):Prop:=x.length<=1048576/\∀y∈x,dd.sml y
def nP(o:d7)(x:List (List dd)):List C:=[.s o (x.map (cM o))]
theorem BD(x:List (List dd)):dy (nP .own x)=nP .imm x:=by simp[dy,nP,mD,<-bR,T4]
def Hv(x:List (List dd)):Prop:=x.length<=9223372036854775807/\∀y∈x,KH y
def E8(x:List (List dd)):Prop:=x.length<=1048576/\∀y∈x,Gt y
structure aJ where
 Buffers:List (List dd)
 Inbox:List (List Int)
deriving DecidableEq,Inhabited
def aJ.enc(o:d7)(x:aJ):List C:=[.s o (x.Buffers.map (cM o)),.s o (x.Inbox.map (aD o))]
theorem aJ.enc_fz(x:aJ):dy (aJ.enc .own x)=aJ.enc .imm x:=by simp[dy,aJ.enc,mD,cW,<-bR,T4]
theorem aJ.enc_fr(x:aJ):gE (aJ.enc .own x):=⟨⟨.inl λh=>(by cases h),bf _ _ λy _=>pT y⟩,⟨.inl λh=>(by cases h),bf _ _ λy _=>bC y⟩,trivial⟩
def aJ.wf(x:aJ):Prop:=Hv x.Buffers/\zX x.Inbox
def aJ.sml(x:aJ):Prop:=E8 x.Buffers/\wW x.Inbox
structure aL where
 Addr:Int
 Class:Int
 Since:Int
deriving DecidableEq,Inhabited
def aL.enc(o:d7)(x:aL):List C:=[I x.Addr,I x.Class,I x.Since]
theorem aL.enc_fz(x:aL):dy (aL.enc .own x)=aL.enc .imm x:=by simp[dy,aL.enc]
theorem aL.enc_fr(x:aL):gE (aL.enc .own x):=⟨trivial,trivial,trivial,trivial⟩
def aL.wf(x:aL):Prop:=lP x.Addr/\lP x.Class/\lP x.Since
def aL.sml(_:aL):Prop:=True
def cA(o:d7)(x:List aL):List C:=[.s o (x.map (aL.enc o))]
theorem tM(x:List aL):dy (cA .own x)=cA .imm x:=by simp[dy,cA,aL.enc_fz,<-bR,T4]
theorem tJ(x:List aL):gE (cA .own x):=⟨⟨.inl λh=>(by cases h),bf _ _ λy _=>aL.enc_fr y⟩,trivial⟩
def GZ(x:List aL):Prop:=x.length<=9223372036854775807/\∀y∈x,aL.wf y
def km(x:List aL):Prop:=x.length<=1048576/\∀y∈x,aL.sml y
structure bE where
 Room:Int
 Lst:List aL
deriving DecidableEq,Inhabited
def bE.enc(o:d7)(x:bE):List C:=[I x.Room,.s o (x.Lst.map (aL.enc o))]
theorem bE.enc_fz(x:bE):dy (bE.enc .own x)=bE.enc .imm x:=by simp[dy,bE.enc,aL.enc_fz,<-bR,T4]
theorem bE.enc_fr(x:bE):gE (bE.enc .own x):=⟨trivial,⟨.inl λh=>(by cases h),bf _ _ λy _=>aL.enc_fr y⟩,trivial⟩
def bE.wf(x:bE):Prop:=lP x.Room/\GZ x.Lst
def bE.sml(x:bE):Prop:=km x.Lst
structure cz where
 Keep:Int
 Move:Int
 Cells:List Int
deriving DecidableEq,Inhabited
def cz.enc(o:d7)(x:cz):List C:=[I x.Keep,I x.Move,.s o (x.Cells.map (rI o))]
theorem cz.enc_fz(x:cz):dy (cz.enc .own x)=cz.enc .imm x:=by simp[dy,cz.enc,rI,<-bR,T4]
theorem cz.enc_fr(x:cz):gE (cz.enc .own x):=⟨trivial,trivial,⟨.inl λh=>(by cases h),bf _ _ λy _=>oU y⟩,trivial⟩
def cz.wf(x:cz):Prop:=lP x.Keep/\lP x.Move/\iJ x.Cells
def cz.sml(x:cz):Prop:=qx x.Cells
structure cN where
 Plan:cz
 Phase:Int
 Next:Int
deriving DecidableEq,Inhabited
def cN.enc(o:d7)(x:cN):List C:=[I x.Plan.Keep,I x.Plan.Move,.s o (x.Plan.Cells.map (rI o)),I x.Phase,I x.Next]
theorem cN.enc_fz(x:cN):dy (cN.enc .own x)=cN.enc .imm x:=by simp[dy,cN.enc,rI,<-bR,T4]
theorem cN.enc_fr(x:cN):gE (cN.enc .own x):=⟨trivial,trivial,⟨.inl λh=>(by cases h),bf _ _ λy _=>oU y⟩,trivial,trivial,trivial⟩
def cN.wf(x:cN):Prop:=cz.wf x.Plan/\lP x.Phase/\lP x.Next
def cN.sml(x:cN):Prop:=cz.sml x.Plan
structure ab where
 Kernel:af
 Free:List aA
 Spans:List au
 Larges:List a8
 Objs:List bB
 Caches:List ay
 Mail:aJ
 Quar:bE
 Seed:Int
 Clock:Int
 Limit:Int
 Next:Int
 Meshing:Bool
 Job:cN
deriving DecidableEq,Inhabited
def ab.enc(o:d7)(x:ab):List C:=[.s o (x.Kernel.Machine.Frames.Cells.map (aD o)),.s o (x.Kernel.Machine.Frames.Used.map (rB o)),.s o (x.Kernel.Machine.Table.Entries.map (bg.enc o)),I x.Kernel.Calls,.s o (x.Kernel.Refuse.map (rI o)),.s o (x.Free.map (aA.enc o)),.s o (x.Spans.map (au.enc o)),.s o (x.Larges.map (a8.enc o)),.s o (x.Objs.map (bB.enc o)),.s o (x.Caches.map (ay.enc o)),.s o (x.Mail.Buffers.map (cM o)),.s o (x.Mail.Inbox.map (aD o)),I x.Quar.Room,.s o (x.Quar.Lst.map (aL.enc o)),I x.Seed,I x.Clock,I x.Limit,I x.Next,B x.Meshing,I x.Job.Plan.Keep,I x.Job.Plan.Move,.s o (x.Job.Plan.Cells.map (rI o)),I x.Job.Phase,I x.Job.Next]
theorem ab.enc_fz(x:ab):dy (ab.enc .own x)=ab.enc .imm x:=by simp[dy,ab.enc,ay.enc_fz,bg.enc_fz,a8.enc_fz,bB.enc_fz,aA.enc_fz,au.enc_fz,aL.enc_fz,rB,mD,rI,cW,<-bR,T4]
theorem ab.enc_fr(x:ab):gE (ab.enc .own x):=⟨⟨.inl λh=>(by cases h),bf _ _ λy _=>bC y⟩,⟨.inl λh=>(by cases h),bf _ _ λy _=>BS y⟩,⟨.inl λh=>(by cases h),bf _ _ λy _=>bg.enc_fr y⟩,trivial,⟨.inl λh=>(by cases h),bf _ _ λy _=>oU y⟩,⟨.inl λh=>(by cases h),bf _ _ λy _=>aA.enc_fr y⟩,⟨.inl λh=>(by cases h),bf _ _ λy _=>au.enc_fr y⟩,⟨.inl λh=>(by cases h),bf _ _ λy _=>a8.enc_fr y⟩,⟨.inl λh=>(by cases h),bf _ _ λy _=>bB.enc_fr y⟩,⟨.inl λh=>(by cases h),bf _ _ λy _=>ay.enc_fr y⟩,⟨.inl λh=>(by cases h),bf _ _ λy _=>pT y⟩,⟨.inl λh=>(by cases h),bf _ _ λy _=>bC y⟩,trivial,⟨.inl λh=>(by cases h),bf _ _ λy _=>aL.enc_fr y⟩,trivial,trivial,trivial,trivial,trivial,trivial,trivial,⟨.inl λh=>(by cases h),bf _ _ λy _=>oU y⟩,trivial,trivial,trivial⟩
def ab.wf(x:ab):Prop:=af.wf x.Kernel/\HC x.Free/\Ka x.Spans/\Hs x.Larges/\Lf x.Objs/\H3 x.Caches/\aJ.wf x.Mail/\bE.wf x.Quar/\lP x.Seed/\lP x.Clock/\lP x.Limit/\lP x.Next/\P4 x.Meshing/\cN.wf x.Job
def ab.sml(x:ab):Prop:=af.sml x.Kernel/\iL x.Free/\du x.Spans/\dr x.Larges/\JT x.Objs/\Ff x.Caches/\aJ.sml x.Mail/\bE.sml x.Quar/\cN.sml x.Job
structure iG where
 Kind:Int
 Index:Int
 Slot:Int
 Offset:Int
deriving DecidableEq,Inhabited
def iG.enc(o:d7)(x:iG):List C:=[I x.Kind,I x.Index,I x.Slot,I x.Offset]
theorem iG.enc_fr(x:iG):gE (iG.enc .own x):=⟨trivial,trivial,trivial,trivial,trivial⟩
structure P6 where
 Id:Int
 Size:Int
 Sum:Int
deriving DecidableEq,Inhabited
structure bD where
 Id:Int
 Cells:List Int
deriving DecidableEq,Inhabited
def bD.enc(o:d7)(x:bD):List C:=[I x.Id,.s o (x.Cells.map (rI o))]
theorem bD.enc_fz(x:bD):dy (bD.enc .own x)=bD.enc .imm x:=by simp[dy,bD.enc,rI,<-bR,T4]
theorem bD.enc_fr(x:bD):gE (bD.enc .own x):=⟨trivial,⟨.inl λh=>(by cases h),bf _ _ λy _=>oU y⟩,trivial⟩
def bD.sml(x:bD):Prop:=qx x.Cells
def Dz(x:List bD):Prop:=x.length<=1048576/\∀y∈x,bD.sml y
structure ax where
 Next:Int
 Objs:List bD
deriving DecidableEq,Inhabited
def ax.enc(o:d7)(x:ax):List C:=[I x.Next,.s o (x.Objs.map (bD.enc o))]
theorem ax.enc_fz(x:ax):dy (ax.enc .own x)=ax.enc .imm x:=by simp[dy,ax.enc,bD.enc_fz,<-bR,T4]
theorem CW:type_of% @ax.enc_fz:=@ax.enc_fz
theorem ax.enc_fr(x:ax):gE (ax.enc .own x):=⟨trivial,⟨.inl λh=>(by cases h),bf _ _ λy _=>bD.enc_fr y⟩,trivial⟩
def ax.sml(x:ax):Prop:=Dz x.Objs
structure bG where
 Heap:ab
 Ref:ax
deriving DecidableEq,Inhabited
def bG.enc(o:d7)(x:bG):List C:=[.s o (x.Heap.Kernel.Machine.Frames.Cells.map (aD o)),.s o (x.Heap.Kernel.Machine.Frames.Used.map (rB o)),.s o (x.Heap.Kernel.Machine.Table.Entries.map (bg.enc o)),I x.Heap.Kernel.Calls,.s o (x.Heap.Kernel.Refuse.map (rI o)),.s o (x.Heap.Free.map (aA.enc o)),.s o (x.Heap.Spans.map (au.enc o)),.s o (x.Heap.Larges.map (a8.enc o)),.s o (x.Heap.Objs.map (bB.enc o)),.s o (x.Heap.Caches.map (ay.enc o)),.s o (x.Heap.Mail.Buffers.map (cM o)),.s o (x.Heap.Mail.Inbox.map (aD o)),I x.Heap.Quar.Room,.s o (x.Heap.Quar.Lst.map (aL.enc o)),I x.Heap.Seed,I x.Heap.Clock,I x.Heap.Limit,I x.Heap.Next,B x.Heap.Meshing,I x.Heap.Job.Plan.Keep,I x.Heap.Job.Plan.Move,.s o (x.Heap.Job.Plan.Cells.map (rI o)),I x.Heap.Job.Phase,I x.Heap.Job.Next,I x.Ref.Next,.s o (x.Ref.Objs.map (bD.enc o))]
theorem bG.enc_fr(x:bG):gE (bG.enc .own x):=⟨⟨.inl λh=>(by cases h),bf _ _ λy _=>bC y⟩,⟨.inl λh=>(by cases h),bf _ _ λy _=>BS y⟩,⟨.inl λh=>(by cases h),bf _ _ λy _=>bg.enc_fr y⟩,trivial,⟨.inl λh=>(by cases h),bf _ _ λy _=>oU y⟩,⟨.inl λh=>(by cases h),bf _ _ λy _=>aA.enc_fr y⟩,⟨.inl λh=>(by cases h),bf _ _ λy _=>au.enc_fr y⟩,⟨.inl λh=>(by cases h),bf _ _ λy _=>a8.enc_fr y⟩,⟨.inl λh=>(by cases h),bf _ _ λy _=>bB.enc_fr y⟩,⟨.inl λh=>(by cases h),bf _ _ λy _=>ay.enc_fr y⟩,⟨.inl λh=>(by cases h),bf _ _ λy _=>pT y⟩,⟨.inl λh=>(by cases h),bf _ _ λy _=>bC y⟩,trivial,⟨.inl λh=>(by cases h),bf _ _ λy _=>aL.enc_fr y⟩,trivial,trivial,trivial,trivial,trivial,trivial,trivial,⟨.inl λh=>(by cases h),bf _ _ λy _=>oU y⟩,trivial,trivial,trivial,⟨.inl λh=>(by cases h),bf _ _ λy _=>bD.enc_fr y⟩,trivial⟩
structure jb where
 Pages:Int
 Mapped:Int
 Frames:Int
 Held:Int
 Live:Int
 Cached:Int
 Stale:Int
 Posted:Int
deriving DecidableEq,Inhabited
def jb.enc(o:d7)(x:jb):List C:=[I x.Pages,I x.Mapped,I x.Frames,I x.Held,I x.Live,I x.Cached,I x.Stale,I x.Posted]
theorem jb.enc_fr(x:jb):gE (jb.enc .own x):=⟨trivial,trivial,trivial,trivial,trivial,trivial,trivial,trivial,trivial⟩
theorem Lm{α β:Type}{f:α->β}{l:List α}{K:Nat->Prop}(h:K l.length):Ln (l.map f).length K:=Ln.mk (W0 ..) h
theorem Wm{z:Int}{K:Int->Prop}(h : -9223372036854775808<=z/\z<=9223372036854775807)(a:K z):Wr .i64 z K:=CJ (ef h.1 h.2) a
theorem dT{p:Prop}[Decidable p]{X Y:Prop}(h:p)(a:p->X):Bf (decide p) X Y:=.D a λe=>absurd h e
theorem dF{p:Prop}[Decidable p]{X Y:Prop}(h:¬p)(a:¬p->Y):Bf (decide p) X Y:=.D (λe=>absurd e h) a
theorem nT{a b:Int}{X Y:Prop}(h:a≠b)(c:a≠b->X):Bf (a != b) X Y:=.N c λe=>absurd e h
theorem nF{a b:Int}{X Y:Prop}(h:a=b)(c:a=b->Y):Bf (a != b) X Y:=.N (λe=>absurd h e) c
theorem eT{a b:Int}{X Y:Prop}(h:a=b)(c:a=b->X):Bf (a == b) X Y:=.E c λe=>absurd h e
theorem eF{a b:Int}{X Y:Prop}(h:a≠b)(c:a≠b->Y):Bf (a == b) X Y:=.E (λe=>absurd e h) c
theorem Bn{b:Bool}{X Y:Prop}(h:Bf b Y X):Bf (!b) X Y:=.not h
theorem Bt{X Y:Prop}(h:X):Bf true X Y:=.t rfl h
theorem Bu{X Y:Prop}(h:Y):Bf false X Y:=.f rfl h
theorem Fm{k b:Kd}{cs a:List C}(h1:k=b)(h:cs=a):jm k b cs a:=.mk h1 h
theorem dV{p:Prop}[Decidable p]{X Y:Prop}(h:p)(a:X):Bf (decide p) X Y:=.D (λ_=>a) λe=>absurd h e
theorem dW{p:Prop}[Decidable p]{X Y:Prop}(h:¬p)(a:Y):Bf (decide p) X Y:=.D (λe=>absurd e h) λ_=>a
theorem nV{a b:Int}{X Y:Prop}(h:a≠b)(c:X):Bf (a != b) X Y:=.N (λ_=>c) λe=>absurd e h
theorem nW{a b:Int}{X Y:Prop}(h:a=b)(c:Y):Bf (a != b) X Y:=.N (λe=>absurd h e) λ_=>c
theorem eV{a b:Int}{X Y:Prop}(h:a=b)(c:X):Bf (a == b) X Y:=.E (λ_=>c) λe=>absurd h e
theorem eW{a b:Int}{X Y:Prop}(h:a≠b)(c:Y):Bf (a == b) X Y:=.E (λe=>absurd e h) λ_=>c
structure MQ(Y:Prop):Prop where
 out:Y
theorem gO{X Y:Prop}(y:Y)(h:MQ Y->X:=by intro y;(conv=>whnf);(first|with_reducible (first|refine Lm ?_|refine Wm ω ?_|refine Bn ?_|refine Fm rfl ?_)|refine Bt ?_|refine Bu ?_|fail);exact y.out):X:=h ⟨y⟩
theorem gD{X Y:Prop}(y:Y)(h:MQ Y->X:=by intro y;(conv=>whnf);(first|with_reducible (first|refine Lm ?_|refine Wm ω ?_|refine dV ω ?_|refine dW ω ?_|refine Bn ?_|refine Fm rfl ?_)|refine Bt ?_|refine Bu ?_|fail);exact y.out):X:=h ⟨y⟩
theorem gA{X Y:Prop}(y:Y)(h:MQ Y->X:=by intro y;(conv=>whnf);(first|with_reducible (first|refine Lm ?_|refine Wm ω ?_|refine dV ω ?_|refine dW ω ?_|refine nV ω ?_|refine nW ω ?_|refine eV ω ?_|refine eW ω ?_|refine Bn ?_|refine Fm rfl ?_)|refine Bt ?_|refine Bu ?_|fail);exact y.out):X:=h ⟨y⟩
theorem NW{z1 z2:Int}(h:z1=z2):Mc (I z1) (I z2):=by subst h;rfl
theorem Pr(c:C):Mc c c:=(lG [c]).1
theorem wA{X:Prop}(h:X:=by repeat'(first|exact trivial|rfl|refine CI ?_ ?_)):X:=h
theorem wB{X:Prop}(h:X:=by repeat'(first|exact trivial|rfl|refine CI ?_ ?_|(exact NW (by first|omega|(simp only;omega)|(simp;omega))))):X:=h
theorem wC{X:Prop}(h:X:=by repeat'(first|exact trivial|rfl|exact Pr _|refine CI ?_ ?_|(exact NW (by first|omega|(simp only;omega)|(simp;omega))))):X:=h
theorem fO(n : Nat){f : Nat}{a : Func}{c : Code}{sh : Bool}{A : List RA}{k : Kd}{rcs : List C}(tb : List (Nat × Nat × List Nat))(d : Tryz.prog.funcs[f]? = some a)(e : a.body = some c)(g : aw Tryz.prog TE ⟨n, [], []⟩ (DF Tryz.prog TE ⟨n, [], []⟩ tb) c (LJ TE a.results.toList k rcs) (lay (tS 0 A)))(b : sh = true \/ gE rcs := by exact .inr ⟨trivial, trivial⟩)(h : (a.name == "runtime.NumGoroutine") = false := by kernel_rfl)(i : fB (lZ tb) c = true := by kernel_rfl)(j : A.length + (a.ntmps - A.length) = n := by rfl) : ao Tryz.prog f sh A k rcs := Pa d h e i j b g
theorem fP(n : Nat){f : Nat}{a : Func}{c : Code}{sh : Bool}{A : List RA}{k : Kd}{rcs : List C}(mo : List (Nat × List Nat))(tb : List (Nat × Nat × List Nat))(d : Tryz.prog.funcs[f]? = some a)(e : a.body = some c)(g : aw Tryz.prog TE ⟨n, [], mo⟩ (DF Tryz.prog TE ⟨n, [], mo⟩ tb) c (LJ TE a.results.toList k rcs) (lay (tS 0 A)))(b : sh = true \/ gE rcs := by exact .inr ⟨trivial, trivial⟩)(h : (a.name == "runtime.NumGoroutine") = false := by kernel_rfl)(i : fB (lZ tb) c = true := by kernel_rfl)(j : A.length + (a.ntmps - A.length) = n := by rfl) : ao Tryz.prog f sh A k rcs := Pa d h e i j b g
theorem fM(n : Nat){f : Nat}{a : Func}{c : Code}{sh : Bool}{A B : List MA}{k : Kd}{rcs : List C}(mo : List (Nat × List Nat))(tb : List (Nat × Nat × List Nat))(b : List (Nat × Nat))(g : Tryz.prog.funcs[f]? = some a)(h : a.body = some c)(i : ∀(u : Nat -> Nat -> Value)(p : Nat -> Value), aw Tryz.prog TE ⟨n, FU p 0 A, mo⟩ (DF Tryz.prog TE ⟨n, FU p 0 A, mo⟩ tb) c (N3 TE a.results.toList k rcs u A B b) (lay (wo u 0 A)))(d : sh = true \/ gE rcs := by exact .inr ⟨trivial, trivial⟩)(j : (a.name == "runtime.NumGoroutine") = false := by kernel_rfl)(l : fB (lZ tb) c = true := by kernel_rfl)(o : A.length + (a.ntmps - A.length) = n := by rfl)(e : EI (DG 0 A b) = true := by rfl) : aQ Tryz.prog f sh A B k rcs := Pf b g j h l o e d i
section
variable{α:Type}{l:List α}{p:α->Bool}{i:Nat}{x:α}
theorem cv(h:l[i]? = some x)(a:(l.take i).all p=true)(b:p x=true):(l.take (i+1)).all p=true:=by
 rw[O4,h,List.all_append,a];simp[b]
theorem dU(h:l[i]? = some x)(a:p x=false):l.all p=false:=by
 rw[List.all_eq_false];exact⟨x,Q1 h,by simp[a]⟩
theorem gk(a:l.length<=i)(b:(l.take i).all p=true):l.all p=true:=by
 rwa [O5 a]at b
end
theorem u6{α β:Type}{a:List α}{b:List β}{i:Nat}{x:α}{y:β}(h1:a[i]? = some x)(c:b[i]? = some y):(a.zip b)[i]? = some (x,y):=by
 rw[List.getElem?_zip_eq_some];exact⟨h1,c⟩
def nth{α:Type}[Inhabited α](xs:List α)(i:Nat):α:=xs.getD i default
theorem ah{α:Type}[Inhabited α]{xs:List α}{i:Nat}(h:i<xs.length):xs[i]? = some (nth xs i):=by
 unfold nth;rw[Z1,U1 h];rfl
theorem bo{α:Type}[Inhabited α]{xs:List α}{i:Nat}{y:α}(h:xs[i]? = some y):nth xs i=y:=by
 unfold nth;rw[Z1,h];rfl
theorem am{α:Type}[Inhabited α]{xs:List α}{i:Nat}(h:i<xs.length):nth xs i∈xs:=Q1 (ah h)
def cE(n:Nat)(p:Nat->Bool):Bool:=(List.range n).all p
theorem cn{n:Nat}{p:Nat->Bool} : cE n p=true↔∀j,j<n->p j=true:=by
 unfold cE;simp
theorem bL{n:Nat}{p:Nat->Bool}(h:cE n p=true)(a:p n=true):cE (n+1) p=true:=by
 rw[cn]at *;grind
theorem cg{n i:Nat}{p:Nat->Bool}(a:i<n)(b:p i=false):cE n p=false:=by
 by_cases h:cE n p=true
 ·rw[cn]at h;grind
 ·simpa using h
theorem dE{n i:Nat}{p:Nat->Bool}(h:cE n p=true)(a:i<n):p i=true:=cn.1 h i a
def i9(u:Bool)(v:Int):Bool:=decide (0<=v/\v<=999)&&(u || decide (v=0))
def gP(r:List Int)(u:Bool):Bool:=decide (r.length=16)&&r.all (i9 u)
def cw(f:aV):Bool:=decide (1<=f.Cells.length/\f.Cells.length<=32)&&(decide (f.Used.length=f.Cells.length)&&(f.Cells.zip f.Used).all λq=>gP q.1 q.2)
theorem gT{f:aV}{i:Nat}{r:List Int}{u:Bool}(h1:f.Cells[i]? = some r)(a:f.Used[i]? = some u)(b:gP r u=false):cw f=false:=by
 unfold cw;rw[dU (p:=λq=>gP q.1 q.2) (u6 h1 a) b];simp
theorem qP{r:List Int}{u:Bool}{k:Nat}{v:Int}(h1:r[k]? = some v)(a:i9 u v=false):gP r u=false:=by
 unfold gP;rw[dU h1 a];simp
theorem zp{f:aV}(h:cw f=true):1<=f.Cells.length/\f.Cells.length<=32/\f.Used.length=f.Cells.length:=by
 unfold cw at h;simp only[I0,C0]at h;exact⟨h.1.1,h.1.2,h.2.1⟩
def jT(a:Int)(e:bg):Bool:=decide (0<=e.Mode/\e.Mode<=2/\(e.Mode=0->e.Frame=0)/\(e.Mode≠0->0<=e.Frame/\e.Frame<a))
def fC(t:aH)(a:Int):Bool:=cE t.Entries.length (λi=>jT a (nth t.Entries i))&&decide (1<=t.Entries.length/\t.Entries.length<=32)
def HI(t:aH)(f:Int)(i:Nat):Bool:=decide ((nth t.Entries i).Mode≠0/\(nth t.Entries i).Frame=f)
def iW(t:aH)(f:Int)(n:Nat):List Int:=((List.range n).filter (HI t f)).map λ(i:Nat)=>(i:Int)
def pagesOn(t:aH)(f:Int):List Int:=iW t f t.Entries.length
theorem y5{t:aH}{f:Int}{n:Nat}(h:HI t f n=true):iW t f (n+1)=iW t f n++[(n:Int)]:=by
 unfold iW;rw[List.range_succ,List.filter_append,R4];simp[h]
theorem Dl{t:aH}{f:Int}{n:Nat}(h:HI t f n=false):iW t f (n+1)=iW t f n:=by
 unfold iW;rw[List.range_succ,List.filter_append,R4];simp[h]
theorem ss(t:aH)(f:Int)(n:Nat):(iW t f n).length<=n:=by
 unfold iW;rw[W0];exact Z3 (List.length_filter_le ..) (by simp)
def ar(t:aH)(p:Int):bg:=if 0<=p/\p<t.Entries.length then nth t.Entries p.toNat else⟨0,0⟩
def ns(m:aT)(i:Nat):Bool:=nth m.Frames.Used i == decide (0<(pagesOn m.Table (i:Int)).length)
def dt(m:aT):Bool:=(cw m.Frames&&fC m.Table m.Frames.Used.length)&&cE m.Frames.Used.length (ns m)
def aB(k:af):Bool:=(cE k.Refuse.length (λi=>decide (0<=nth k.Refuse i))&&dt k.Machine)&&decide (0<=k.Calls/\k.Calls<=100000/\k.Refuse.length<=40)
def rangeIn(pages:Int)(r:aA):Bool:=decide (1<=r.Len/\r.Len<=pages/\0<=r.At/\r.At<=pages - r.Len)
def fG(pages:Int)(xs:List aA)(i:Nat):Bool:=rangeIn pages (nth xs i)&&decide (i=0\/(nth xs (i - 1)).At+(nth xs (i - 1)).Len<(nth xs i).At)
def bv(pages:Int)(xs:List aA):Bool:=cE xs.length (fG pages xs)&&decide (1<=pages/\pages<=32)
def pF(page:Int)(r:aA):Bool:=decide (r.At<=page)&&decide (page<IntKind.i64.wrap (r.At+r.Len))
def lim(k:Int):Int:=if k=0 then 65535 else if k=1 then 255 else if k=2 then 15 else if k=3 then 3 else 0
def slots(k:Int):Int:=if k=0 then 16 else if k=1 then 8 else if k=2 then 4 else if k=3 then 2 else 0
def aX(s:au):Bool:=decide (0<=s.Page/\s.Page<=31/\0<=s.Class/\s.Class<=3/\0<=s.Bits/\s.Bits<=lim s.Class)
def eI(n:Int):Int:=if 9<=n/\n<=1000 then(n+15) / 16 else 0
def bP(l:a8):Bool:=decide (9<=l.Size/\l.Size<=1000/\l.Pages=(l.Size+15) / 16/\0<=l.Page/\l.Page<=32 - l.Pages)
def lpgs(l:a8)(n:Nat):List Int:=(List.range n).map λ(i:Nat)=>l.Page+i
def pgs(sp:List au)(la:List a8):List Int:=sp.map (·.Page)++la.flatMap λl=>lpgs l l.Pages.toNat
def bc(sp:List au)(la:List a8):Bool:=(sp.all aX&&la.all bP)&&decide (pgs sp la).Nodup
def ca(s:au)(a:Int):Bool:=aX s&&decide (16*s.Page<=a/\a<=16*s.Page+15)
def aS(b i:Int):Bool:=decide (0<=b/\0<=i/\i<=15/\b / 2 ^ i.toNat % 2=1)
def bk(l:a8)(a:Int):Bool:=bP l&&decide (16*l.Page<=a/\a<=16*l.Page+l.Size - 1)
def csz(k:Int):Int:=if 0<=k/\k<=3 then 2 ^ k.toNat else 0
def gY(s:au)(a:Int):Int × Int:=if ca s a then((a - 16*s.Page) / csz s.Class,(a - 16*s.Page) % csz s.Class) else(-1,-1)
def mX(i:Nat)(s:au)(a:Int):iG:=⟨if aS s.Bits ((a - 16*s.Page) / csz s.Class) then 1 else 2,i,(a - 16*s.Page) / csz s.Class,(a - 16*s.Page) % csz s.Class⟩
def denotes(sp:List au)(la:List a8)(a:Int):iG:=
 match sp.findIdx? (ca · a) with
 | some i=>mX i (nth sp i) a
 | none=>match la.findIdx? (bk · a) with
  | some i=>⟨3,i,0,a - 16*(nth la i).Page⟩
  | none=>⟨0,0,0,0⟩
theorem u5{α:Type}{pr:α->Bool}{xs:List α}{i:Nat}{y:α}(a:xs[i]? = some y)(b:pr y=true)(c:∀(j:Nat)(z:α),j<i->xs[j]? = some z->pr z=false):xs.findIdx? pr=some i:=by
 obtain⟨d,rfl⟩:=V1.1 a;exact I5.2 ⟨d,b,λj e=>by
   have:=c j _ e (U1 ω);simp[this]⟩
theorem wg{α:Type}{pr:α->Bool}{xs:List α}{i:Nat}(d:xs.length<=i)(b:∀(j:Nat)(z:α),j<i->xs[j]? = some z->pr z=false):xs.findIdx? pr=none:=
 List.findIdx?_eq_none_iff.2 λz c=>by
  obtain⟨j,a⟩:=List.mem_iff_getElem?.1 c;exact b j z (by have:=(V1.1 a).1;omega) a
theorem cV{α:Type}{pr:α->Bool}{xs:List α}{i:Nat}{y:α}(c:xs[i]? = some y)(d:pr y=false)(e:∀(j:Nat)(z:α),j<i->xs[j]? = some z->pr z=false):∀(j:Nat)(z:α),j<i+1->xs[j]? = some z->pr z=false:=by
 intro j z f a;rcases Nat.lt_or_ge j i with b|b
 ·exact e j z b a
 ·obtain rfl:j=i:=ω
  rw[c]at a;cases a;exact d
def cy{α:Type}(pr:α->Bool)(xs:List α):Int:=match xs.findIdx? pr with|some i=>(i:Nat)|none=>-1
theorem d6{α:Type}{pr:α->Bool}{xs:List α}{i:Nat}{y:α}(a:xs[i]? = some y)(b:pr y=true)(c:∀(j:Nat)(z:α),j<i->xs[j]? = some z->pr z=false):cy pr xs=(i:Nat):=by
 unfold cy;rw[u5 a b c]
theorem eH{α:Type}{pr:α->Bool}{xs:List α}{i:Nat}(a:xs.length<=i)(b:∀(j:Nat)(z:α),j<i->xs[j]? = some z->pr z=false):cy pr xs = -1:=by
 unfold cy;rw[wg a b]
theorem f7{α:Type}(pr:α->Bool)(xs:List α):decide (cy pr xs≥0)=xs.any pr:=by
 unfold cy;cases h:xs.findIdx? pr with
 | none=>
  have:=List.findIdx?_eq_none_iff.1 h;have a:xs.any pr=false:=by rw[List.any_eq_false];intro y b;simp[this y b]
  rw[a];rfl
 | some i=>
  obtain⟨c,d,-⟩:=I5.1 h;have a:xs.any pr=true:=C3.2 ⟨_,List.getElem_mem c,d⟩;rw[a];simp
def meshable(s t:au):Bool:=(aX s&&aX t)&&decide (s.Class=t.Class/\s.Page≠t.Page/\s.Bits.toNat &&& t.Bits.toNat=0)
def mb(n:Int)(p:dd):Bool:=decide (0<=p.To/\p.To<=n - 1/\0<=p.Addr)
def LT(z:Int):Bool:=decide (0<=z)
def gl(m:aJ)(i:Nat):Bool:=(nth m.Buffers i).all (mb m.Buffers.length)&&(nth m.Inbox i).all LT
def br(m:aJ):Nat->Int
 | 0=>0
 | i+1=>br m i+((nth m.Buffers i).length+(nth m.Inbox i).length)
def bz(m:aJ):Bool:=(decide (1<=m.Buffers.length/\m.Buffers.length<=4/\m.Inbox.length=m.Buffers.length)&&cE m.Buffers.length (gl m))&&decide (br m m.Buffers.length<=30)
def aC(m:aJ):List Int:=if bz m then(m.Buffers.flatMap λl=>l.map (·.Addr))++m.Inbox.flatten else []
def cB(a:Int)(y:aL):Bool:=decide (y.Addr=a)
def j7(xs:List aL)(i:Nat):Bool:=decide (0<=(nth xs i).Class/\(nth xs i).Class<=3/\0<=(nth xs i).Addr/\0<=(nth xs i).Since/\(i=0\/(nth xs (i - 1)).Since<=(nth xs i).Since))&&!(xs.take i).any (cB (nth xs i).Addr)
def quarCells(xs:List aL):Nat->Int
 | 0=>0
 | i+1=>quarCells xs i+csz (nth xs i).Class
def eZ(q:bE):Bool:=cE q.Lst.length (j7 q.Lst)&&decide (0<=q.Room/\q.Room<=500/\quarCells q.Lst q.Lst.length<=q.Room)
def mH(xs:List Int)(i:Nat):Bool:=decide (0<=nth xs i/\nth xs i<=15/\(i=0\/nth xs (i - 1)<nth xs i))
def eD(p:cz):Bool:=cE p.Cells.length (mH p.Cells)&&decide (0<=p.Keep/\p.Keep<=31/\0<=p.Move/\p.Move<=31/\p.Keep≠p.Move)
def jf(j:cN):Bool:=eD j.Plan&&decide (0<=j.Phase/\j.Phase<=5/\0<=j.Next/\j.Next<=j.Plan.Cells.length)
def qK(j:cN):Bool:=decide (j.Plan.Keep=0/\j.Plan.Move=0/\j.Plan.Cells.length=0/\j.Phase=0/\j.Next=0)
def aO(h:ab)(p:Int):List Int:=if(ar h.Kernel.Machine.Table p).Mode=0 then [] else pagesOn h.Kernel.Machine.Table (ar h.Kernel.Machine.Table p).Frame
def jr(p:Int)(s:au):Bool:=decide (s.Page=p)
def eU(h:ab)(p:Int):Int:=cy (jr p) h.Spans
def aK(n:Int):Int:=if n<1 then -1 else if n<=1 then 0 else if n<=2 then 1 else if n<=4 then 2 else if n<=8 then 3 else -1
set_option maxRecDepth 20000
set_option maxHeartbeats 2000000
theorem aG(n lo a:Int):ao Tryz.prog 152 false [.val none [I n],.val none [I lo],.val none [I a]] .one [B (decide (lo<=n/\n<=a))]:=by
 refine fO 15 [] Tryz.func152 rfl ?_
 repeat'(first|refine gO ?_|(conv=>whnf);first|with_reducible refine Bf.D (λb=>?_) (λb=>?_))
 all_goals exact T0 (λz=>[B z]) (by simp;try omega)
theorem aM(n lo a:Int):ao Tryz.prog 76 false [.val none [I n],.val none [I lo],.val none [I a]] .one [B (decide (lo<=n/\n<=a))]:=by
 refine fO 15 [] Tryz.func76 rfl ?_
 repeat'(first|refine gO ?_|(conv=>whnf);first|with_reducible refine Bf.D (λb=>?_) (λb=>?_))
 all_goals exact T0 (λz=>[B z]) (by simp;try omega)
theorem fg(k:Int):ao Tryz.prog 167 false [.val none [I k]] .one [B (decide (0<=k/\k<=3))]:=by
 refine fO 5 [] Tryz.func167 rfl ?_
 repeat'(first|refine gO ?_|(conv=>whnf);first|refine C6 (aM k 0 3) ?_)
 rfl
theorem cm(k:Int):ao Tryz.prog 89 false [.val none [I k]] .one [I (csz k)]:=by
 by_cases b:0<=k/\k<=3
 ·obtain rfl|rfl|rfl|rfl:k=0\/k=1\/k=2\/k=3:=ω
  all_goals
   refine fO 8 [] Tryz.func89 rfl ?_
   repeat'(first|refine gD ?_|(conv=>whnf);first|with_reducible refine Bf.D (λa=>?_) (λa=>?_)|refine C6 (fg _) ?_|refine CL (by decide) ?_|refine CJ rfl ?_)
   exact T0 (λz=>[I z]) (by decide)
 ·refine fO 8 [] Tryz.func89 rfl ?_
  repeat'(first|refine gD ?_|(conv=>whnf);first|with_reducible refine Bf.D (λa=>?_) (λa=>?_)|refine C6 (fg _) ?_)
  exact T0 (λz=>[I z]) (by unfold csz;rw[C7 b])
theorem cX(k:Int):ao Tryz.prog 274 false [.val none [I k]] .one [I (csz k)]:=by
 by_cases b:0<=k/\k<=3
 ·obtain rfl|rfl|rfl|rfl:k=0\/k=1\/k=2\/k=3:=ω
  all_goals
   refine fO 9 [] Tryz.func274 rfl ?_
   repeat'(first|refine gD ?_|(conv=>whnf);first|with_reducible refine Bf.D (λa=>?_) (λa=>?_)|refine C6 (aG _ 0 3) ?_|refine CL (by decide) ?_|refine CJ rfl ?_)
   exact T0 (λz=>[I z]) (by decide)
 ·refine fO 9 [] Tryz.func274 rfl ?_
  repeat'(first|refine gD ?_|(conv=>whnf);first|with_reducible refine Bf.D (λa=>?_) (λa=>?_)|refine C6 (aG _ 0 3) ?_)
  exact T0 (λz=>[I z]) (by unfold csz;rw[C7 b])
theorem lB(xs:List Int)(a:Int)(j:xs.length<=9223372036854775807):ao Tryz.prog 268 false [.val none (aD .imm xs),.val none [I a]] .one [B (decide (a∈xs))]:=by
 refine fO 18 [] Tryz.func268 rfl ?_
 repeat'(first|refine gO ?_|fail)
 (conv=>whnf)
 refine CD (ι:=Nat) (λi=>[(0,.hold .one (aD .imm xs)),(1,.hold .one [I a]),(5,.hold .one [I (i:Nat)])]) (λi=>i<=xs.length/\a∉xs.take i) (λi=>xs.length - i) 0 ?_ ⟨R0 _,by simp⟩ λi g=>?_
 ·exact wB
 ·obtain⟨g,b⟩:=g
  by_cases c:i<xs.length
  ·obtain⟨y,d⟩ : ∃y,xs[i]? = some y:=⟨_,U1 c⟩
   repeat'(first|refine gD ?_|(conv=>whnf);first|with_reducible (first|refine CA (aa d) ?_|refine Bf.E (λh=>?_) (λh=>?_)))
   ·exact T0 (λz=>[B z]) (by symm;simp;rw[<-‹y=a›];exact Q1 d)
   ·(conv=>whnf)
    refine CB (i+1) ⟨ω,?_⟩ ω ?_
    ·rw[O4,d]
     simp only[Option.toList_some,O2,Z0,not_or];exact⟨b,λe=>‹y≠a› e.symm⟩
    ·exact wB
  ·repeat'(first|refine gD ?_|fail)
   rw[O5 ω]at b;exact T0 (λz=>[B z]) (by symm;simpa using b)
set_option maxHeartbeats 4000000
def good(k:Int)(s:List Int)(a:Int):Prop:=0<=a/\a<=511/\a.tmod (csz k)=0/\a∉s
instance (k:Int) (s:List Int) (a:Int):Decidable (good k s a):=by unfold good;exact inferInstance
def qj(k:Int):List Int->List Int->Option (List Int)
 | s,[]=>some s
 | s,a::l=>if good k s a then qj k (s++[a]) l else none
def dS(k:Nat)(s l:List Int):Option (List Int):=if l.length<=8/\k<=3 then qj k s l else none
def fJ:Nat->List Int->List (List Int)->Option (List Int)
 | _,s,[]=>some s
 | k,s,l::ls=>(dS k s l).bind λa=>fJ (k+1) a ls
def bm(c:ay):Bool:=decide (c.Lists.length=4)&&(fJ 0 [] c.Lists).isSome
theorem pK(k:Int):∀(a s b:List Int),qj k s (a++b)=(qj k s a).bind λc=>qj k c b
 | [],s,b=>rfl
 | x::a,s,b=>by
  simp only[List.cons_append,qj];split
  ·exact pK k a _ b
  ·rfl
theorem oc:∀(a:List (List Int))(k:Nat)(s:List Int)(b:List (List Int)),fJ k s (a++b)=(fJ k s a).bind λc=>fJ (k+a.length) c b
 | [],k,s,b=>rfl
 | l::a,k,s,b=>by
  simp only[List.cons_append,fJ,Option.bind_assoc,List.length_cons]
  congr 1;funext c
  rw[oc a (k+1) c b,show k+1+a.length=k+(a.length+1) by omega]
theorem Fx{k:Int}{l b s:List Int}{j:Nat}{a:Int}(c:l[j]? = some a)(h:qj k b (l.take j)=some s)(d:good k s a):qj k b (l.take (j+1))=some (s++[a]):=by
 rw[O4,c,Option.toList_some,pK,h];simp[qj,d]
theorem Ku{k:Nat}{l c s:List Int}{j:Nat}{a:Int}(d:l[j]? = some a)(h:qj k c (l.take j)=some s)(e:¬good k s a):dS k c l=none:=by
 unfold dS;split
 ·have:l=l.take j++(a::l.drop (j+1)):=by
   obtain⟨b,rfl⟩:=V1.1 d;rw[<-List.drop_eq_getElem_cons b,List.take_append_drop]
  rw[this,pK,h];simp[qj,e]
 ·rfl
theorem zJ{k:Int} : ∀{l s b:List Int},qj k s l=some b->b.length=s.length+l.length
 | [],s,b,h=>by simp only[qj,U0]at h;subst h;simp
 | a::l,s,b,h=>by
  simp only[qj]at h;split at h
  ·have:=zJ h;simp at this |-;omega
  ·cases h
theorem sR{a:List (List Int)}{i:Nat}{l s:List Int}(b:a[i]? = some l)(h:fJ 0 [] (a.take i)=some s):fJ 0 [] (a.take (i+1))=dS i s l:=by
 have c:=(V1.1 b).1;rw[O4,b,Option.toList_some,oc,h];simp only[Option.bind_some,fJ,C5,I1,Nat.min_eq_left (Nat.le_of_lt c)];cases dS i s l<;>rfl
theorem jV{c:ay}{i:Nat}{l s:List Int}(b:c.Lists[i]? = some l)(h:fJ 0 [] (c.Lists.take i)=some s)(d:dS i s l=none):bm c=false:=by
 have a:=sR b h;rw[d]at a;have e:fJ 0 [] c.Lists=none:=by
  rw[<-List.take_append_drop (i+1) c.Lists,oc,a];rfl
 unfold bm;rw[e];simp
theorem AG:∀{b:List (List Int)}{k:Nat}{s a:List Int},fJ k s b=some a->a.length<=s.length+8*b.length
 | [],k,s,a,h=>by simp only[fJ,U0]at h;subst h;simp
 | l::b,k,s,a,h=>by
  simp only[fJ]at h;unfold dS at h;split at h
  ·cases c:qj k s l with
   | none=>rw[c]at h;cases h
   | some d=>
    rw[c]at h;have e:=zJ c;have f:=AG (show fJ (k+1) d b=some a from h);simp only[List.length_cons];omega
  ·cases h
theorem Jf{i:Nat}(h:i<=3):csz (i:Int)≠0:=by
 obtain rfl|rfl|rfl|rfl:i=0\/i=1\/i=2\/i=3:=ω
 all_goals decide
theorem bW{l:List Int} : ∀r∈l.map (rI .own),r.length=1:=by
 intro r a;obtain⟨z,-,rfl⟩:=T3.1 a;rfl
theorem lX(c:ay)(u:ay.sml c):ao Tryz.prog 208 false [.val (some 1) (ay.enc .imm c)] .one [B (bm c)]:=by
 have H:=u.1;refine fO 60 [] Tryz.func208 rfl ?_
 repeat'(first|refine gO ?_|(conv=>whnf);first|with_reducible refine Bf.N (λe=>?_) (λe=>?_))
 ·exact T0 (λz=>[B z]) (by symm;unfold bm;rw[Q0 ω];rfl)
 have w:c.Lists.length=4:=ω
 (conv=>whnf)
 refine CD (ι:=Nat × List Int) (λi=>[(1,.hold .box (ay.enc .imm c)),(3,.hold .one (aD .own i.2)),(4,.hold .one [I (i.1:Nat)])]) (λi=>i.1<=4/\fJ 0 [] (c.Lists.take i.1)=some i.2) (λi=>4 - i.1) (0,[]) ?_ ⟨R0 _,rfl⟩ λi k=>?_
 ·exact wB
 ·obtain⟨i,s⟩:=i
  obtain⟨k,b⟩:=k;simp only at k b |-;have g:=AG b;rw[I1]at g;simp only[List.length_nil]at g;by_cases E:i<4
  ·obtain⟨l,d⟩ : ∃l,c.Lists[i]? = some l:=⟨_,U1 ω⟩
   have F:l.length<=1048576:=u.2 l (Q1 d)
   repeat'(first|refine gD ?_|(conv=>whnf);first|with_reducible (first|refine CA (aa d) ?_|refine Bf.D (λe=>?_) (λe=>?_)))
   ·exact T0 (λz=>[B z]) (jV d b (by unfold dS;rw[C7 ω])).symm
   have n:l.length<=8:=ω
   (conv=>whnf)
   refine CD (ι:=Nat × List Int) (λj=>[(1,.hold .box (ay.enc .imm c)),(3,.hold .one (aD .own j.2)),(4,.hold .one [I (i:Nat)]),(5,.hold .one [I (j.1:Nat)])]) (λj=>j.1<=l.length/\qj i s (l.take j.1)=some j.2) (λj=>l.length - j.1) (0,s) ?_ ⟨R0 _,rfl⟩ λj o=>?_
   ·exact wB
   ·obtain⟨j,p⟩:=j
    obtain⟨o,a⟩:=o;simp only at o a |-;have h:=zJ a;rw[I1]at h;by_cases q:j<l.length
    ·obtain⟨y,t⟩ : ∃y,l[j]? = some y:=⟨_,U1 q⟩
     repeat'(first|refine gD ?_|(conv=>whnf);first|with_reducible (first|refine CA (aa d) ?_|refine CA (aa t) ?_|refine Bf.D (λe=>?_) (λe=>?_)|refine Bf.N (λe=>?_) (λe=>?_))|refine C6 (aG y 0 511) ?_|refine C6 (cX (i:Nat)) ?_|refine CL (Jf ω) ?_|refine CR rfl ?_|refine CF (lB p y ω) ⟨⟨rfl,cW _⟩,⟨rfl,rfl⟩,trivial⟩ ?_|refine CN bW (λr G=>by rw[Z0.1 G];rfl) (by simp[aU,d4]) (by simp;omega) (by simp only[W0];exact up (by simp;omega) (by decide)) rfl ?_)
     all_goals first
      | exact T0 (λz=>[B z]) (jV d b (Ku t a λ⟨J,K,L,M⟩=>by first|contradiction|omega)).symm
      | ((conv=>whnf)
         refine CB (j+1,p++[y]) ⟨(by simp only;omega),Fx t a ⟨ω,ω,(by assumption),(by assumption)⟩⟩ (by simp only;omega) ?_
         (repeat'(first|exact trivial|rfl|exact CI rfl (CI (T0 (C.s d7.own) (by simp[rI])) trivial)|refine CI ?_ ?_)))
    ·repeat'(first|refine gD ?_|(conv=>whnf);first|with_reducible refine CA (aa d) ?_)
     (conv=>whnf)
     rw[O5 ω]at a;refine CB (i+1,p) ⟨(by simp only;omega),(by rw[sR d b];unfold dS;rw[C8 ⟨n,ω⟩];exact a)⟩ (by simp only;omega) ?_;exact wB
  ·repeat'(first|refine gD ?_|fail)
   rw[O5 ω]at b;exact T0 (λz=>[B z]) (by symm;unfold bm;rw[b,O0 w];rfl)
def eJ(s:List Int):List (Int × Value):=s.map λa=>(a,.bool true)
theorem m6(a:Int):∀(s:List Int),mlook (eJ s) a (.bool false)=.bool (decide (a∈s))
 | []=>by simp[eJ,mlook]
 | x::s=>by
  have b:=m6 a s;simp only[eJ,U4,mlook]at b |-;by_cases h:x=a
  ·rw[C8 h];simp[h]
  ·rw[C7 h,b]
   congr 1
   simp[show ¬a=x from λe=>h e.symm]
theorem sw{a:Int} : ∀{s:List Int},a∉s->eJ (s++[a])=mput (eJ s) a (.bool true)
 | [],_=>rfl
 | x::s,h=>by
  simp only[List.mem_cons,not_or]at h;have b:=sw h.2;simp only[eJ,List.cons_append,U4,mput]at b |-;rw[C7 λe=>h.1 e.symm,b]
theorem mA(c:ay)(u:ay.sml c):ao Tryz.prog 72 false [.val (some 1) (ay.enc .imm c)] .one [B (bm c)]:=by
 have C:=u.1;refine fO 54 [] Tryz.func72 rfl ?_
 repeat'(first|refine gO ?_|fail)
 (conv=>whnf)
 refine CD (ι:=Nat × List Int) (λi=>[(1,.hold .box (ay.enc .imm c)),(3,.hold .one [.m (eJ i.2)]),(10,.hold .one (ir .imm c.Lists)),(11,.hold .one [I c.Lists.length]),(12,.hold .one [I (i.1:Nat)])]) (λi=>i.1<=c.Lists.length/\fJ 0 [] (c.Lists.take i.1)=some i.2) (λi=>c.Lists.length - i.1) (0,[]) ?_ ⟨R0 _,rfl⟩ λi h=>?_
 ·exact wB
 ·obtain⟨i,s⟩:=i
  obtain⟨h,b⟩:=h;simp only at h b |-;by_cases k:i<c.Lists.length
  ·obtain⟨l,d⟩ : ∃l,c.Lists[i]? = some l:=⟨_,U1 k⟩
   have w:l.length<=1048576:=u.2 l (Q1 d)
   repeat'(first|refine gD ?_|(conv=>whnf);first|with_reducible (first|refine CA (aa d) ?_|refine Bf.D (λe=>?_) (λe=>?_))|refine C6 (fg (i:Nat)) ?_)
   ·exact T0 (λz=>[B z]) (jV d b (by unfold dS;rw[C7 ω])).symm
   rotate_left
   ·exact T0 (λz=>[B z]) (jV d b (by unfold dS;rw[C7 ω])).symm
   have n:l.length<=8:=ω
   have o:i<=3:=ω
   (conv=>whnf)
   refine CD (ι:=Nat × List Int) (λj=>[(1,.hold .box (ay.enc .imm c)),(3,.hold .one [.m (eJ j.2)]),(4,.hold .one [I (i:Nat)]),(10,.hold .one (ir .imm c.Lists)),(11,.hold .one [I c.Lists.length]),(12,.hold .one [I (i:Nat)]),(25,.hold .one (aD .imm l)),(26,.hold .one [I l.length]),(27,.hold .one [I (j.1:Nat)])]) (λj=>j.1<=l.length/\qj i s (l.take j.1)=some j.2) (λj=>l.length - j.1) (0,s) ?_ ⟨R0 _,rfl⟩ λj p=>?_
   ·exact wB
   ·obtain⟨j,q⟩:=j
    obtain⟨p,a⟩:=p;simp only at p a |-;by_cases r:j<l.length
    ·obtain⟨y,t⟩ : ∃y,l[j]? = some y:=⟨_,U1 r⟩
     repeat'(first|refine gD ?_|(conv=>whnf);first|with_reducible (first|refine CA (aa d) ?_|refine CA (aa t) ?_|refine Bf.D (λe=>?_) (λe=>?_)|refine Bf.N (λe=>?_) (λe=>?_))|refine C6 (aM y 0 511) ?_|refine C6 (cm (i:Nat)) ?_|refine CL (Jf ω) ?_|refine CR rfl ?_|refine Ml.mk (m6 y q) ?_|refine Mu.mk (sw (by assumption)) ?_)
     all_goals first
      | exact T0 (λz=>[B z]) (jV d b (Ku t a λ⟨E,F,G,H⟩=>by first|contradiction|omega)).symm
      | ((conv=>whnf)
         refine CB (j+1,q++[y]) ⟨(by simp only;omega),Fx t a ⟨ω,ω,(by assumption),(by assumption)⟩⟩ (by simp only;omega) ?_
         (exact wA))
    ·repeat'(first|refine gD ?_|fail)
     (conv=>whnf)
     rw[O5 ω]at a;refine CB (i+1,q) ⟨(by simp only;omega),(by rw[sR d b];unfold dS;rw[C8 ⟨n,o⟩];exact a)⟩ (by simp only;omega) ?_;exact wB
  ·repeat'(first|refine gD ?_|fail)
   rw[O5 ω]at b;have g:((c.Lists.length:Int) == 4)=decide (c.Lists.length=4):=by
    by_cases g:c.Lists.length=4
    ·simp[g]
    ·rw[Q0 g];simp;omega
   exact T0 (λz=>[B z]) (g.trans (by unfold bm;rw[b];simp))
def dA:Nat->List (List Int)->Int
 | _,[]=>0
 | k,l::ls=>l.length*csz k+dA (k+1) ls
def dh(c:ay):Int:=if bm c then dA 0 c.Lists else 0
theorem mQ:∀(a:List (List Int))(k:Nat)(l:List Int),dA k (a++[l])=dA k a+l.length*csz (k+a.length:Nat)
 | [],k,l=>by simp[dA]
 | x::a,k,l=>by
  simp only[List.cons_append,dA,List.length_cons];rw[mQ a (k+1) l,show k+1+a.length=k+(a.length+1) by omega];omega
theorem lr{a:List (List Int)}{i:Nat}{l:List Int}(b:a[i]? = some l):dA 0 (a.take (i+1))=dA 0 (a.take i)+l.length*csz i:=by
 have c:=(V1.1 b).1;rw[O4,b,Option.toList_some,mQ];simp only[C5,I1,Nat.min_eq_left (Nat.le_of_lt c)]
theorem Ge:∀{b:List (List Int)}{k:Nat}{s c:List Int},fJ k s b=some c->∀l∈b,l.length<=8
 | [],k,s,c,h,l,a=>by simp at a
 | x::b,k,s,c,h,l,a=>by
  simp only[fJ]at h;unfold dS at h;split at h
  ·rename_i e
   rcases List.mem_cons.1 a with rfl|a
   ·exact e.1
   ·cases d:qj k s x with
    | none=>rw[d]at h;cases h
    | some f=>rw[d]at h;exact Ge (show fJ (k+1) f b=some c from h) l a
  ·cases h
theorem kv{c:ay}(h:bm c=true):c.Lists.length=4/\∀l∈c.Lists,l.length<=8:=by
 unfold bm at h;simp only[I0,C0]at h;obtain⟨s,a⟩:=Option.isSome_iff_exists.1 h.2;exact⟨h.1,Ge a⟩
theorem Kr(i:Nat):0<=csz (i:Int)/\csz (i:Int)<=8:=by
 by_cases h:i<=3
 ·obtain rfl|rfl|rfl|rfl:i=0\/i=1\/i=2\/i=3:=ω
  all_goals decide
 ·unfold csz;rw[C7 ω];decide
theorem Gb{n:Nat}{k:Int}(b:n<=8)(a:0<=k)(c:k<=8):0<=(n:Int)*k/\(n:Int)*k<=64:=by
 refine⟨Int.mul_nonneg ω a,?_⟩;have d:(n:Int)*k<=8*k:=Int.mul_le_mul_of_nonneg_right ω a;omega
theorem pc(f:aV)(n:aV.sml f):ao Tryz.prog 63 false [.val (some 2) (aV.enc .imm f)] .one [B (cw f)]:=by
 have C:=n.1.1;have E:f.Used.length<=1048576:=n.2;refine fO 61 [] Tryz.func63 rfl ?_
 repeat'(first|refine gO ?_|(conv=>whnf);first|with_reducible (first|refine Bf.D (λa=>?_) (λa=>?_)|refine Bf.N (λa=>?_) (λa=>?_))|refine C6 (aG f.Cells.length 1 32) ?_)
 ·exact T0 (λz=>[B z]) (by symm;unfold cw;rw[Q0 (by omega:¬(f.Used.length=f.Cells.length))];simp)
 rotate_left
 ·exact T0 (λz=>[B z]) (by symm;unfold cw;rw[Q0 (by omega:¬(1<=f.Cells.length/\f.Cells.length<=32))];rfl)
 have h:1<=f.Cells.length/\f.Cells.length<=32:=ω
 have j:f.Used.length=f.Cells.length:=ω
 (conv=>whnf)
 refine CD (ι:=Nat) (λi=>[(1,.hold .box (aV.enc .imm f)),(3,.hold .one [I (i:Nat)])]) (λi=>i<=f.Cells.length/\((f.Cells.zip f.Used).take i).all (λq=>gP q.1 q.2)=true) (λi=>f.Cells.length - i) 0 ?_ ⟨R0 _,rfl⟩ λi o=>?_
 ·exact wB
 ·obtain⟨o,t⟩:=o
  by_cases l:i<f.Cells.length
  ·obtain⟨r,c⟩ : ∃r,f.Cells[i]? = some r:=⟨_,U1 l⟩
   obtain⟨u,b⟩ : ∃u,f.Used[i]? = some u:=⟨_,U1 ω⟩
   repeat'(first|refine gD ?_|(conv=>whnf);first|with_reducible (first|refine CA (aa c) ?_|refine Bf.N (λa=>?_) (λa=>?_)))
   ·exact T0 (λz=>[B z]) (gT c b (by unfold gP;rw[Q0 ω];rfl)).symm
   have g:r.length=16:=ω
   (conv=>whnf)
   refine CD (ι:=Nat) (λk=>[(1,.hold .box (aV.enc .imm f)),(3,.hold .one [I (i:Nat)]),(4,.hold .one [I (k:Nat)])]) (λk=>k<=16/\(r.take k).all (i9 u)=true) (λk=>16 - k) 0 ?_ ⟨R0 _,rfl⟩ λk w=>?_
   ·exact wB
   ·obtain⟨w,d⟩:=w
    by_cases y:k<16
    ·obtain⟨v,e⟩ : ∃v,r[k]? = some v:=⟨_,U1 ω⟩
     cases u with
     | true=>
      repeat'(first|refine gD ?_|(conv=>whnf);first|with_reducible (first|refine CA (aa c) ?_|refine CA (aa b) ?_|refine CA (aa e) ?_|refine Bf.D (λa=>?_) (λa=>?_)|refine Bf.N (λa=>?_) (λa=>?_))|refine C6 (aG v 0 999) ?_)
      all_goals first
       | exact T0 (λz=>[B z]) (gT c b (qP e (by first|(unfold i9;rw[Q0 ω];rfl)|(unfold i9;rw[Q0 (p:=v=0) ω];simp)))).symm
       | ((conv=>whnf)
          refine CB (ι:=Nat) (k+1) ⟨ω,cv e d (by unfold i9;first|(rw[O0 ω];rfl)|(rw[O0 (p:=0<=v/\v<=999) ω,O0 (p:=v=0) ω];rfl))⟩ ω ?_
          (exact wA))
     | false=>
      repeat'(first|refine gD ?_|(conv=>whnf);first|with_reducible (first|refine CA (aa c) ?_|refine CA (aa b) ?_|refine CA (aa e) ?_|refine Bf.D (λa=>?_) (λa=>?_)|refine Bf.N (λa=>?_) (λa=>?_))|refine C6 (aG v 0 999) ?_)
      all_goals first
       | exact T0 (λz=>[B z]) (gT c b (qP e (by first|(unfold i9;rw[Q0 ω];rfl)|(unfold i9;rw[Q0 (p:=v=0) ω];simp)))).symm
       | ((conv=>whnf)
          refine CB (ι:=Nat) (k+1) ⟨ω,cv e d (by unfold i9;first|(rw[O0 ω];rfl)|(rw[O0 (p:=0<=v/\v<=999) ω,O0 (p:=v=0) ω];rfl))⟩ ω ?_
          (exact wA))
    ·repeat'(first|refine gD ?_|fail)
     (conv=>whnf)
     refine CB (i+1) ⟨ω,cv (u6 c b) t (by unfold gP;rw[gk ω d];simp[g])⟩ ω ?_;exact wB
  ·repeat'(first|refine gD ?_|fail)
   exact T0 (λz=>[B z]) (by symm;unfold cw;rw[gk (by rw[List.length_zip];omega) t];simp[h,j])
theorem p6(f:aV)(h:aV.sml f):ao Tryz.prog 153 false [.val (some 2) (aV.enc .imm f)] .one [B (cw f)]:=by
 have C:=h.1.1;have E:f.Used.length<=1048576:=h.2;refine fO 55 [] Tryz.func153 rfl ?_
 repeat'(first|refine gO ?_|(conv=>whnf);first|with_reducible (first|refine Bf.D (λa=>?_) (λa=>?_)|refine Bf.N (λa=>?_) (λa=>?_))|refine C6 (aM f.Cells.length 1 32) ?_)
 ·exact T0 (λz=>[B z]) (by symm;unfold cw;rw[Q0 (by omega:¬(f.Used.length=f.Cells.length))];simp)
 rotate_left
 ·exact T0 (λz=>[B z]) (by symm;unfold cw;rw[Q0 (by omega:¬(1<=f.Cells.length/\f.Cells.length<=32))];rfl)
 have j:1<=f.Cells.length/\f.Cells.length<=32:=ω
 have l:f.Used.length=f.Cells.length:=ω
 (conv=>whnf)
 refine CD (ι:=Nat) (λi=>[(1,.hold .box (aV.enc .imm f)),(22,.hold .one (ir .imm f.Cells)),(23,.hold .one [I (f.Cells.length)]),(24,.hold .one [I ((i:Nat):Int)])]) (λi=>i<=f.Cells.length/\((f.Cells.zip f.Used).take i).all (λq=>gP q.1 q.2)=true) (λi=>f.Cells.length - i) (0) ?_ (⟨R0 _,rfl⟩) λi o=>?_
 ·exact wB
 obtain⟨o,p⟩:=o;by_cases n:i<f.Cells.length
 ·obtain⟨r,c⟩ : ∃r,f.Cells[i]? = some r:=⟨_,U1 n⟩
  obtain⟨u,b⟩ : ∃u,f.Used[i]? = some u:=⟨_,U1 ω⟩
  have y:r.length<=1048576:=h.1.2 r (Q1 c)
  repeat'(first|refine gD ?_|(conv=>whnf);first|with_reducible (first|refine CA (aa c) ?_|refine Bf.N (λa=>?_) (λa=>?_)))
  ·exact T0 (λz=>[B z]) (gT c b (by unfold gP;rw[Q0 ω];rfl)).symm
  have g:r.length=16:=ω
  (conv=>whnf)
  refine CD (ι:=Nat) (λk=>[(1,.hold .box (aV.enc .imm f)),(3,.hold .one [I ((i:Nat):Int)]),(22,.hold .one (ir .imm f.Cells)),(23,.hold .one [I (f.Cells.length)]),(24,.hold .one [I ((i:Nat):Int)]),(32,.hold .one (aD .imm r)),(33,.hold .one [I (r.length)]),(34,.hold .one [I ((k:Nat):Int)])]) (λk=>k<=r.length/\(r.take k).all (i9 u)=true) (λk=>r.length - k) (0) ?_ (⟨R0 _,rfl⟩) λk t=>?_
  ·exact wB
  obtain⟨t,d⟩:=t;by_cases w:k<r.length
  ·obtain⟨v,e⟩ : ∃v,r[k]? = some v:=⟨_,U1 ω⟩
   cases u with
   | true=>
    repeat'(first|refine gD ?_|(conv=>whnf);first|with_reducible (first|refine CA (aa c) ?_|refine CA (aa b) ?_|refine CA (aa e) ?_|refine Bf.D (λa=>?_) (λa=>?_)|refine Bf.N (λa=>?_) (λa=>?_))|refine C6 (aM v 0 999) ?_)
    all_goals first
     | exact T0 (λz=>[B z]) (gT c b (qP e (by unfold i9;grind))).symm
     | ((conv=>whnf)
        refine CB (ι:=Nat) (k+1) ⟨ω,cv e d (by unfold i9;grind)⟩ ω ?_
        (exact wA))
   | false=>
    repeat'(first|refine gD ?_|(conv=>whnf);first|with_reducible (first|refine CA (aa c) ?_|refine CA (aa b) ?_|refine CA (aa e) ?_|refine Bf.D (λa=>?_) (λa=>?_)|refine Bf.N (λa=>?_) (λa=>?_))|refine C6 (aM v 0 999) ?_)
    all_goals first
     | exact T0 (λz=>[B z]) (gT c b (qP e (by unfold i9;grind))).symm
     | ((conv=>whnf)
        refine CB (ι:=Nat) (k+1) ⟨ω,cv e d (by unfold i9;grind)⟩ ω ?_
        (exact wA))
  ·repeat'(first|refine gD ?_|fail)
   (conv=>whnf)
   refine CB (i+1) ⟨ω,cv (u6 c b) p (by unfold gP;rw[gk ω d];simp[g])⟩ ω ?_;exact wB
 ·repeat'(first|refine gD ?_|fail)
  exact T0 (λz=>[B z]) (by symm;unfold cw;rw[gk (by rw[List.length_zip];omega) p];simp[j,l])
theorem zT(t:aH)(b:Int)(g:aH.sml t):ao Tryz.prog 327 false [.val (some 1) (aH.enc .imm t),.val none [I b]] .one [B (fC t b)]:=by
 have k:=g.1;refine fO 54 [] Tryz.func327 rfl ?_
 repeat'(first|refine gO ?_|fail)
 (conv=>whnf)
 refine CD (ι:=Nat) (λi=>[(1,.hold .one [I (b)]),(2,.hold .box (aH.enc .imm t)),(5,.hold .one [I ((i:Nat):Int)])]) (λi=>i<=t.Entries.length/\cE i (λj=>jT b (nth t.Entries j))=true) (λi=>t.Entries.length - i) 0 ?_ ⟨R0 _,rfl⟩ λi c=>?_
 ·exact wB
 obtain⟨c,d⟩:=c;by_cases e:i<t.Entries.length
 ·have h:=ah e
  repeat'(first|refine gD ?_|(conv=>whnf);first|with_reducible (first|refine CA (aa h) ?_|refine Bf.D (λa=>?_) (λa=>?_)|refine Bf.N (λa=>?_) (λa=>?_)|refine Bf.E (λa=>?_) (λa=>?_))|refine C6 (aG _ 0 2) ?_)
  all_goals first
   | exact T0 (λz=>[B z]) ((by symm;unfold fC;rw[cg e (Q0 (by grind))];rfl))
   | ((conv=>whnf);refine CB (i+1) ⟨ω,bL d (O0 (by grind))⟩ ω ?_;(exact wB))
 ·repeat'(first|refine gD ?_|(conv=>whnf);first|refine C6 (aG _ 1 32) ?_)
  obtain rfl:i=t.Entries.length:=ω
  exact T0 (λz=>[B z]) ((by unfold fC;rw[d,Bool.true_and];exact decide_eq_decide.2 ω))
theorem zo(t:aH)(b:Int)(g:aH.sml t):ao Tryz.prog 236 false [.val (some 1) (aH.enc .imm t),.val none [I b]] .one [B (fC t b)]:=by
 have k:=g.1;refine fO 49 [] Tryz.func236 rfl ?_
 repeat'(first|refine gO ?_|fail)
 (conv=>whnf)
 refine CD (ι:=Nat) (λi=>[(1,.hold .one [I (b)]),(2,.hold .box (aH.enc .imm t)),(8,.hold .one (l9 .imm t.Entries)),(9,.hold .one [I (t.Entries.length)]),(10,.hold .one [I ((i:Nat):Int)])]) (λi=>i<=t.Entries.length/\cE i (λj=>jT b (nth t.Entries j))=true) (λi=>t.Entries.length - i) 0 ?_ ⟨R0 _,rfl⟩ λi c=>?_
 ·exact wB
 obtain⟨c,d⟩:=c;by_cases e:i<t.Entries.length
 ·have h:=ah e
  repeat'(first|refine gD ?_|(conv=>whnf);first|with_reducible (first|refine CA (aa h) ?_|refine Bf.D (λa=>?_) (λa=>?_)|refine Bf.N (λa=>?_) (λa=>?_)|refine Bf.E (λa=>?_) (λa=>?_))|refine C6 (aM _ 0 2) ?_)
  all_goals first
   | exact T0 (λz=>[B z]) ((by symm;unfold fC;rw[cg e (Q0 (by grind))];rfl))
   | ((conv=>whnf);refine CB (i+1) ⟨ω,bL d (O0 (by grind))⟩ ω ?_;(exact wB))
 ·repeat'(first|refine gD ?_|(conv=>whnf);first|refine C6 (aM _ 1 32) ?_)
  obtain rfl:i=t.Entries.length:=ω
  exact T0 (λz=>[B z]) ((by unfold fC;rw[d,Bool.true_and];exact decide_eq_decide.2 ω))
theorem gg(t:aH)(f:Int)(c:aH.sml t):ao Tryz.prog 111 false [.val (some 1) (aH.enc .imm t),.val none [I f]] .one (aD .own (pagesOn t f)):=by
 have j:=c.1;refine fO 37 [] Tryz.func111 rfl ?_ (.inr (bC _))
 repeat'(first|refine gO ?_|fail)
 (conv=>whnf)
 refine CD (ι:=Nat) (λi=>[(1,.hold .one [I (f)]),(2,.hold .box (aH.enc .imm t)),(5,.hold .one (aD .own (iW t f i))),(6,.hold .one [I ((i:Nat):Int)])]) (λi=>i<=t.Entries.length) (λi=>t.Entries.length - i) (0) ?_ (R0 _) λi k=>?_
 ·exact wB
 have d:=ss t f i;by_cases e:i<t.Entries.length
 ·have g:=ah e
  repeat'(first|refine gD ?_|(conv=>whnf);first|with_reducible (first|refine CA (aa g) ?_|refine Bf.D (λb=>?_) (λb=>?_)|refine Bf.N (λb=>?_) (λb=>?_)|refine Bf.E (λb=>?_) (λb=>?_))|refine CN bW (λr h=>by rw[Z0.1 h];rfl) (by simp[aU,d4]) (by simp;omega) (by simp only[W0];exact up (by simp;omega) (by decide)) rfl ?_)
  all_goals first
   |(have a:HI t f i=true:=O0 (by grind)
     (conv=>whnf)
     refine CB (i+1) ω ω ?_;rw[y5 a]
     (repeat'(first|exact trivial|rfl|exact CI rfl (CI (T0 (C.s d7.own) (by simp[rI])) trivial)|refine CI ?_ ?_)))
   |(have a:HI t f i=false:=Q0 (by grind)
     (conv=>whnf)
     refine CB (i+1) ω ω ?_;rw[Dl a]
     (exact wA))
 ·repeat'(first|refine gD ?_|fail)
  obtain rfl:i=t.Entries.length:=ω
  rfl
theorem qo(t:aH)(f:Int)(c:aH.sml t):ao Tryz.prog 98 false [.val (some 1) (aH.enc .imm t),.val none [I f]] .one (aD .own (pagesOn t f)):=by
 have j:=c.1;refine fO 32 [] Tryz.func98 rfl ?_ (.inr (bC _))
 repeat'(first|refine gO ?_|fail)
 (conv=>whnf)
 refine CD (ι:=Nat) (λi=>[(1,.hold .one [I (f)]),(5,.hold .one (aD .own (iW t f i))),(10,.hold .one (l9 .imm t.Entries)),(11,.hold .one [I (t.Entries.length)]),(12,.hold .one [I ((i:Nat):Int)])]) (λi=>i<=t.Entries.length) (λi=>t.Entries.length - i) (0) ?_ (R0 _) λi k=>?_
 ·exact wB
 have d:=ss t f i;by_cases e:i<t.Entries.length
 ·have g:=ah e
  repeat'(first|refine gD ?_|(conv=>whnf);first|with_reducible (first|refine CA (aa g) ?_|refine Bf.D (λb=>?_) (λb=>?_)|refine Bf.N (λb=>?_) (λb=>?_)|refine Bf.E (λb=>?_) (λb=>?_))|refine CN bW (λr h=>by rw[Z0.1 h];rfl) (by simp[aU,d4]) (by simp;omega) (by simp only[W0];exact up (by simp;omega) (by decide)) rfl ?_)
  all_goals first
   |(have a:HI t f i=true:=O0 (by grind)
     (conv=>whnf)
     refine CB (i+1) ω ω ?_;rw[y5 a]
     (repeat'(first|exact trivial|rfl|exact CI rfl (CI (T0 (C.s d7.own) (by simp[rI])) trivial)|refine CI ?_ ?_)))
   |(have a:HI t f i=false:=Q0 (by grind)
     (conv=>whnf)
     refine CB (i+1) ω ω ?_;rw[Dl a]
     (exact wA))
 ·repeat'(first|refine gD ?_|fail)
  obtain rfl:i=t.Entries.length:=ω
  rfl
theorem db(t:aH)(p:Int)(b:aH.sml t):ao Tryz.prog 110 false [.val (some 1) (aH.enc .imm t),.val none [I p]] .agg (bg.enc .own (ar t p)):=by
 have d:=b.1;refine fO 18 [] Tryz.func110 rfl ?_ (.inr (bg.enc_fr _));by_cases a:0<=p/\p<t.Entries.length
 ·have c:=ah (xs:=t.Entries) (i:=p.toNat) ω
  repeat'(first|refine gD ?_|(conv=>whnf);first|refine C6 (aG _ 0 _) ?_|refine CK a.1 (aa c) ?_)
  all_goals(unfold ar;rw[C8 a];rfl)
 ·repeat'(first|refine gD ?_|(conv=>whnf);first|refine C6 (aG _ 0 _) ?_)
  all_goals(unfold ar;rw[C7 a];rfl)
theorem kb(t:aH)(p:Int)(b:aH.sml t):ao Tryz.prog 97 false [.val (some 1) (aH.enc .imm t),.val none [I p]] .agg (bg.enc .own (ar t p)):=by
 have d:=b.1;refine fO 18 [] Tryz.func97 rfl ?_ (.inr (bg.enc_fr _));by_cases a:0<=p/\p<t.Entries.length
 ·have c:=ah (xs:=t.Entries) (i:=p.toNat) ω
  repeat'(first|refine gD ?_|(conv=>whnf);first|refine C6 (aM _ 0 _) ?_|refine CK a.1 (aa c) ?_)
  all_goals(unfold ar;rw[C8 a];rfl)
 ·repeat'(first|refine gD ?_|(conv=>whnf);first|refine C6 (aM _ 0 _) ?_)
  all_goals(unfold ar;rw[C7 a];rfl)
theorem p9(t:aH)(f:Int):(pagesOn t f).length<=t.Entries.length:=ss ..
theorem nA(m:aT)(b:aT.sml m):ao Tryz.prog 266 false [.val (some 3) (aT.enc .imm m)] .one [B (dt m)]:=by
 have q:m.Frames.Used.length<=1048576:=b.1.2;have l:m.Frames.Cells.length<=1048576:=b.1.1.1;have c:=pc m.Frames b.1;have e:=zT m.Table m.Frames.Cells.length b.2;cases a:cw m.Frames with
 | false=>
  rw[a]at c;refine fO 39 [(6,13,[26,27,28,29,30,31,32,33,34,35,36,37,38])] Tryz.func266 rfl ?_
  repeat'(first|refine gO ?_|(conv=>whnf);first|refine C6 c ?_)
  exact T0 (λz=>[B z]) ((by unfold dt;rw[a];rfl))
 | true=>
  have g:=zp a;rw[a]at c;cases d:fC m.Table m.Frames.Used.length with
  | false=>
   rw[show(m.Frames.Cells.length:Int)=m.Frames.Used.length by omega,d]at e;refine fO 39 [(6,13,[26,27,28,29,30,31,32,33,34,35,36,37,38])] Tryz.func266 rfl ?_
   repeat'(first|refine gO ?_|(conv=>whnf);first|refine C6 c ?_|refine C6 ((show(m.Frames.Cells.length:Int)=m.Frames.Used.length by omega) ▸ e) ?_)
   exact T0 (λz=>[B z]) ((by unfold dt;rw[a,d];rfl))
  | true=>
   rw[show(m.Frames.Cells.length:Int)=m.Frames.Used.length by omega,d]at e;refine fO 39 [(6,13,[26,27,28,29,30,31,32,33,34,35,36,37,38])] Tryz.func266 rfl ?_
   repeat'(first|refine gO ?_|(conv=>whnf);first|refine C6 c ?_|refine C6 ((show(m.Frames.Cells.length:Int)=m.Frames.Used.length by omega) ▸ e) ?_)
   (conv=>whnf)
   refine CD (ι:=Nat) (λi=>[(1,.hold .box (aT.enc .imm m)),(3,.hold .one [I ((i:Nat):Int)])]) (λi=>i<=m.Frames.Used.length/\cE i (ns m)=true) (λi=>m.Frames.Used.length - i) 0 ?_ ⟨R0 _,rfl⟩ λi h=>?_
   ·exact wB
   obtain⟨h,j⟩:=h;by_cases k:i<m.Frames.Used.length
   ·have n:=ah k
    have o:=p9 m.Table (i:Nat)
    repeat'(first|refine gD ?_|(conv=>whnf);first|with_reducible (first|refine CA (aa n) ?_|refine Bf.NB (λp=>?_) (λp=>?_))|refine C6 (gg m.Table (i:Nat) b.2) ?_)
    all_goals first
     | exact T0 (λz=>[B z]) ((by symm;unfold dt;rw[a,d,cg k (by unfold ns;grind)];rfl))
     | ((conv=>whnf);refine CB (i+1) ⟨ω,bL j (by unfold ns;grind)⟩ ω ?_;(exact wB))
   ·repeat'(first|refine gD ?_|fail)
    obtain rfl:i=m.Frames.Used.length:=ω
    exact T0 (λz=>[B z]) ((by unfold dt;rw[a,d,j];rfl))
theorem vG(m:aT)(d:aT.sml m):ao Tryz.prog 144 false [.val (some 3) (aT.enc .imm m)] .one [B (dt m)]:=by
 have o:m.Frames.Used.length<=1048576:=d.1.2;have b:=p6 m.Frames d.1;have e:=zo m.Table m.Frames.Used.length d.2;cases a:cw m.Frames with
 | false=>
  rw[a]at b;refine fO 37 [] Tryz.func144 rfl ?_
  repeat'(first|refine gO ?_|(conv=>whnf);first|refine C6 b ?_)
  exact T0 (λz=>[B z]) ((by unfold dt;rw[a];rfl))
 | true=>
  rw[a]at b;cases c:fC m.Table m.Frames.Used.length with
  | false=>
   rw[c]at e;refine fO 37 [] Tryz.func144 rfl ?_
   repeat'(first|refine gO ?_|(conv=>whnf);first|refine C6 b ?_|refine C6 e ?_)
   exact T0 (λz=>[B z]) ((by unfold dt;rw[a,c];rfl))
  | true=>
   rw[c]at e;refine fO 37 [] Tryz.func144 rfl ?_
   repeat'(first|refine gO ?_|(conv=>whnf);first|refine C6 b ?_|refine C6 e ?_)
   (conv=>whnf)
   refine CD (ι:=Nat) (λi=>[(1,.hold .box (aT.enc .imm m)),(21,.hold .one (nw .imm m.Frames.Used)),(22,.hold .one [I (m.Frames.Used.length)]),(23,.hold .one [I ((i:Nat):Int)])]) (λi=>i<=m.Frames.Used.length/\cE i (ns m)=true) (λi=>m.Frames.Used.length - i) 0 ?_ ⟨R0 _,rfl⟩ λi g=>?_
   ·exact wB
   obtain⟨g,h⟩:=g;by_cases j:i<m.Frames.Used.length
   ·have k:=ah j
    have l:=p9 m.Table (i:Nat)
    repeat'(first|refine gD ?_|(conv=>whnf);first|with_reducible (first|refine CA (aa k) ?_|refine Bf.NB (λn=>?_) (λn=>?_))|refine C6 (qo m.Table (i:Nat) d.2) ?_)
    all_goals first
     | exact T0 (λz=>[B z]) ((by symm;unfold dt;rw[a,c,cg j (by unfold ns;grind)];rfl))
     | ((conv=>whnf);refine CB (i+1) ⟨ω,bL h (by unfold ns;grind)⟩ ω ?_;(exact wB))
   ·repeat'(first|refine gD ?_|fail)
    obtain rfl:i=m.Frames.Used.length:=ω
    exact T0 (λz=>[B z]) ((by unfold dt;rw[a,c,h];rfl))
theorem kU(k:af)(d:af.sml k):ao Tryz.prog 201 false [.val (some 5) (af.enc .imm k)] .one [B (aB k)]:=by
 have n:k.Refuse.length<=1048576:=d.2;have a:=nA k.Machine d.1;refine fO 31 [] Tryz.func201 rfl ?_
 repeat'(first|refine gO ?_|fail)
 (conv=>whnf)
 refine CD (ι:=Nat) (λi=>[(1,.hold .box (af.enc .imm k)),(3,.hold .one [I ((i:Nat):Int)])]) (λi=>i<=k.Refuse.length/\cE i (λj=>decide (0<=nth k.Refuse j))=true) (λi=>k.Refuse.length - i) 0 ?_ ⟨R0 _,rfl⟩ λi e=>?_
 ·exact wB
 obtain⟨e,g⟩:=e;by_cases h:i<k.Refuse.length
 ·have l:=ah h
  repeat'(first|refine gD ?_|(conv=>whnf);first|with_reducible (first|refine CA (aa l) ?_|refine Bf.D (λc=>?_) (λc=>?_)))
  all_goals first
   | exact T0 (λz=>[B z]) ((by symm;unfold aB;rw[cg h (Q0 ω)];rfl))
   | ((conv=>whnf);refine CB (i+1) ⟨ω,bL g (O0 ω)⟩ ω ?_;(exact wB))
 ·obtain rfl:i=k.Refuse.length:=ω
  cases b:dt k.Machine with
  | false=>
   rw[b]at a
   repeat'(first|refine gD ?_|(conv=>whnf);first|refine C6 a ?_)
   all_goals exact T0 (λz=>[B z]) ((by unfold aB;rw[b];simp))
  | true=>
   rw[b]at a
   repeat'(first|refine gD ?_|(conv=>whnf);first|with_reducible refine Bf.D (λc=>?_) (λc=>?_)|refine C6 a ?_|refine C6 (aG _ 0 100000) ?_)
   all_goals exact T0 (λz=>[B z]) ((by unfold aB;rw[b,g];simp only[Bool.true_and];first|exact decide_eq_decide.2 ω|(symm;exact Q0 ω)|(symm;exact O0 ω)))
theorem xw(k:af)(b:af.sml k):ao Tryz.prog 57 false [.val (some 5) (af.enc .imm k)] .one [B (aB k)]:=by
 have l:k.Refuse.length<=1048576:=b.2;have g:=vG k.Machine b.1;refine fO 29 [] Tryz.func57 rfl ?_
 repeat'(first|refine gO ?_|fail)
 (conv=>whnf)
 refine CD (ι:=Nat) (λi=>[(1,.hold .box (af.enc .imm k)),(6,.hold .one (aD .imm k.Refuse)),(7,.hold .one [I (k.Refuse.length)]),(8,.hold .one [I ((i:Nat):Int)])]) (λi=>i<=k.Refuse.length/\cE i (λj=>decide (0<=nth k.Refuse j))=true) (λi=>k.Refuse.length - i) 0 ?_ ⟨R0 _,rfl⟩ λi c=>?_
 ·exact wB
 obtain⟨c,d⟩:=c;by_cases e:i<k.Refuse.length
 ·have h:=ah e
  repeat'(first|refine gD ?_|(conv=>whnf);first|with_reducible (first|refine CA (aa h) ?_|refine Bf.D (λa=>?_) (λa=>?_)))
  all_goals first
   | exact T0 (λz=>[B z]) ((by symm;unfold aB;rw[cg e (Q0 ω)];rfl))
   | ((conv=>whnf);refine CB (i+1) ⟨ω,bL d (O0 ω)⟩ ω ?_;(exact wB))
 ·obtain rfl:i=k.Refuse.length:=ω
  repeat'(first|refine gD ?_|(conv=>whnf);first|with_reducible refine Bf.D (λa=>?_) (λa=>?_)|refine C6 g ?_|refine C6 (aM _ 0 100000) ?_)
  all_goals exact T0 (λz=>[B z]) ((by unfold aB;rw[d];cases dt k.Machine<;>simp only[Bool.true_and,Bool.false_and]<;>first|rfl|exact decide_eq_decide.2 ω|(symm;exact Q0 ω)|(symm;exact O0 ω)))
theorem uG(pages:Int)(r:aA)(b:0<=pages/\pages<=1048576):ao Tryz.prog 267 false [.val none [I pages],.val (some 2) (aA.enc .imm r)] .one [B (rangeIn pages r)]:=by
 refine fO 18 [] Tryz.func267 rfl ?_
 repeat'(first|refine gO ?_|(conv=>whnf);first|with_reducible refine Bf.D (λa=>?_) (λa=>?_)|refine C6 (aG _ 1 _) ?_|refine C6 (aG _ 0 _) ?_)
 all_goals exact T0 (λz=>[B z]) ((by unfold rangeIn;first|(symm;exact Q0 ω)|exact decide_eq_decide.2 ω))
theorem EO(pages:Int)(r:aA)(b:0<=pages/\pages<=1048576):ao Tryz.prog 159 false [.val none [I pages],.val (some 2) (aA.enc .imm r)] .one [B (rangeIn pages r)]:=by
 refine fO 18 [] Tryz.func159 rfl ?_
 repeat'(first|refine gO ?_|(conv=>whnf);first|with_reducible refine Bf.D (λa=>?_) (λa=>?_)|refine C6 (aM _ 1 _) ?_|refine C6 (aM _ 0 _) ?_)
 all_goals exact T0 (λz=>[B z]) ((by unfold rangeIn;first|(symm;exact Q0 ω)|exact decide_eq_decide.2 ω))
theorem md(k:Int):ao Tryz.prog 194 false [.val none [I k]] .one [I (slots k)]:=by
 by_cases b:0<=k/\k<=3
 ·obtain rfl|rfl|rfl|rfl:k=0\/k=1\/k=2\/k=3:=ω
  all_goals
   refine fO 9 [] Tryz.func194 rfl ?_
   repeat'(first|refine gD ?_|(conv=>whnf);first|with_reducible refine Bf.D (λa=>?_) (λa=>?_)|refine C6 (aG _ 0 3) ?_|refine CL (by decide) ?_|refine CJ rfl ?_|refine CR rfl ?_)
   exact T0 (λz=>[I z]) (by decide)
 ·refine fO 9 [] Tryz.func194 rfl ?_
  repeat'(first|refine gD ?_|(conv=>whnf);first|with_reducible refine Bf.D (λa=>?_) (λa=>?_)|refine C6 (aG _ 0 3) ?_)
  exact T0 (λz=>[I z]) (by unfold slots;rw[C7 ω,C7 ω,C7 ω,C7 ω])
theorem iu(k:Int):ao Tryz.prog 172 false [.val none [I k]] .one [I (slots k)]:=by
 by_cases b:0<=k/\k<=3
 ·obtain rfl|rfl|rfl|rfl:k=0\/k=1\/k=2\/k=3:=ω
  all_goals
   refine fO 9 [] Tryz.func172 rfl ?_
   repeat'(first|refine gD ?_|(conv=>whnf);first|with_reducible refine Bf.D (λa=>?_) (λa=>?_)|refine C6 (fg _) ?_|refine C6 (cm _) ?_|refine CL (by decide) ?_|refine CJ rfl ?_|refine CR rfl ?_)
   exact T0 (λz=>[I z]) (by decide)
 ·refine fO 9 [] Tryz.func172 rfl ?_
  repeat'(first|refine gD ?_|(conv=>whnf);first|with_reducible refine Bf.D (λa=>?_) (λa=>?_)|refine C6 (fg _) ?_)
  exact T0 (λz=>[I z]) (by unfold slots;rw[C7 ω,C7 ω,C7 ω,C7 ω])
def KL(k b:Int):Bool:=decide (0<=k/\k<=3/\0<=b/\b<=lim k)
theorem pf(k b:Int):ao Tryz.prog 193 false [.val none [I (slots k)],.val none [I b]] .one [B (KL k b)]:=by
 by_cases d:0<=k/\k<=3
 ·obtain rfl|rfl|rfl|rfl:k=0\/k=1\/k=2\/k=3:=ω
  all_goals
   first|rw[show slots 0=16 from rfl]|rw[show slots 1=8 from rfl]|rw[show slots 2=4 from rfl]|rw[show slots 3=2 from rfl]
   refine fO 15 [] Tryz.func193 rfl ?_
   repeat'(first|refine gD ?_|(conv=>whnf);first|with_reducible refine Bf.D (λa=>?_) (λa=>?_)|refine C6 (aG _ 1 16) ?_|refine C6 (aG _ 0 _) ?_|refine CL (by decide) ?_|refine CJ (show _=(65536:Int) by decide) ?_|refine CJ (show _=(65535:Int) by decide) ?_|refine CJ (show _=(256:Int) by decide) ?_|refine CJ (show _=(255:Int) by decide) ?_|refine CJ (show _=(16:Int) by decide) ?_|refine CJ (show _=(15:Int) by decide) ?_|refine CJ (show _=(4:Int) by decide) ?_|refine CJ (show _=(8:Int) by decide) ?_|refine CJ (show _=(2:Int) by decide) ?_|refine CJ (show _=(3:Int) by decide) ?_)
   all_goals exact T0 (λz=>[B z]) ((decide_eq_decide.2 (by simp[lim])))
 ·have c:slots k=0:=by unfold slots;rw[C7 ω,C7 ω,C7 ω,C7 ω]
  rw[c];refine fO 15 [] Tryz.func193 rfl ?_
  repeat'(first|refine gD ?_|(conv=>whnf);first|with_reducible refine Bf.D (λa=>?_) (λa=>?_)|refine C6 (aG _ 1 16) ?_)
  exact T0 (λz=>[B z]) ((by symm;exact Q0 ω))
theorem xf(k b:Int):ao Tryz.prog 244 false [.val none [I (slots k)],.val none [I b]] .one [B (KL k b)]:=by
 by_cases d:0<=k/\k<=3
 ·obtain rfl|rfl|rfl|rfl:k=0\/k=1\/k=2\/k=3:=ω
  all_goals
   first|rw[show slots 0=16 from rfl]|rw[show slots 1=8 from rfl]|rw[show slots 2=4 from rfl]|rw[show slots 3=2 from rfl]
   refine fO 14 [] Tryz.func244 rfl ?_
   repeat'(first|refine gD ?_|(conv=>whnf);first|with_reducible refine Bf.D (λa=>?_) (λa=>?_)|refine C6 (aM _ 1 16) ?_|refine C6 (aM _ 0 _) ?_|refine CL (by decide) ?_|refine CJ (ef (by decide) (by decide)) ?_)
   all_goals exact T0 (λz=>[B z]) ((decide_eq_decide.2 (by simp[lim,IntKind.bits])))
 ·have c:slots k=0:=by unfold slots;rw[C7 ω,C7 ω,C7 ω,C7 ω]
  rw[c];refine fO 14 [] Tryz.func244 rfl ?_
  repeat'(first|refine gD ?_|(conv=>whnf);first|with_reducible refine Bf.D (λa=>?_) (λa=>?_)|refine C6 (aM _ 1 16) ?_)
  exact T0 (λz=>[B z]) ((by symm;exact Q0 ω))
theorem eM(s:au):ao Tryz.prog 113 false [.val (some 3) (au.enc .imm s)] .one [B (aX s)]:=by
 refine fO 14 [(1,12,[3,4,5,6,7,8,9,10,11,12,13,2])] Tryz.func113 rfl ?_
 repeat'(first|refine gO ?_|(conv=>whnf);first|with_reducible refine Bf.D (λa=>?_) (λa=>?_)|refine C6 (aG _ 0 31) ?_|refine C6 (md _) ?_|refine C6 (pf _ _) ?_)
 all_goals exact T0 (λz=>[B z]) ((by unfold aX;first|(symm;exact Q0 ω)|exact decide_eq_decide.2 ω))
theorem gW(s:au):ao Tryz.prog 161 false [.val (some 3) (au.enc .imm s)] .one [B (aX s)]:=by
 refine fO 19 [(1,17,[3,4,5,6,7,8,9,10,11,12,13,14,15,16,17,18,2])] Tryz.func161 rfl ?_
 repeat'(first|refine gO ?_|(conv=>whnf);first|with_reducible refine Bf.D (λa=>?_) (λa=>?_)|refine C6 (aM _ 0 31) ?_|refine C6 (fg _) ?_|refine C6 (iu _) ?_|refine C6 (xf _ _) ?_)
 all_goals exact T0 (λz=>[B z]) ((by unfold aX;first|(symm;exact Q0 ω)|exact decide_eq_decide.2 ω))
section
variable{α:Type}{xs:List α}{p:α->Bool}{i:Nat}{y:α}
theorem zS(h:xs[i]? = some y)(a:p y=true):xs.any p=true:=C3.2 ⟨y,Q1 h,a⟩
theorem vK(h:xs[i]? = some y)(a:(xs.take i).any p=false)(b:p y=false):(xs.take (i+1)).any p=false:=by
 rw[O4,h,List.any_append,a];simp[b]
theorem FR(a:xs.length<=i)(b:(xs.take i).any p=false):xs.any p=false:=by
 rwa [O5 a]at b
theorem fD[Inhabited α](a:0<i)(b:i<xs.length):xs[((i:Int) - 1).toNat]? = some (nth xs (i - 1)):=by
 rw[show((i:Int) - 1).toNat=i - 1 by omega];exact ah ω
end
theorem vD{pages:Int}{xs:List aA}{i n:Nat}(a:cE n (fG pages xs)=true)(b:i<n):1<=(nth xs i).Len/\(nth xs i).Len<=pages/\0<=(nth xs i).At/\(nth xs i).At<=pages - (nth xs i).Len:=by
 have:=dE a b;unfold fG rangeIn at this;simp only[I0,C0]at this;exact this.1
theorem kT(pages:Int)(xs:List aA)(e:0<=pages/\pages<=1048576)(k:iL xs):ao Tryz.prog 202 false [.val none [I pages],.val none (bI .imm xs)] .one [B (bv pages xs)]:=by
 have n:=k.1;refine fO 46 [(4,32,[12,13,14,15,16,17,18,19,20,21,22,23,24,25,26,27,28,29,30,31,32,33,34,35,36,37,38,39,40,41,42,43])] Tryz.func202 rfl ?_
 repeat'(first|refine gO ?_|fail)
 (conv=>whnf)
 refine CD (ι:=Nat) (λi=>[(0,.hold .one [I (pages)]),(1,.hold .one (bI .imm xs)),(5,.hold .one [I ((i:Nat):Int)])]) (λi=>i<=xs.length/\cE i (fG pages xs)=true) (λi=>xs.length - i) 0 ?_ ⟨R0 _,rfl⟩ λi g=>?_
 ·exact wB
 obtain⟨g,d⟩:=g;by_cases c:i<xs.length
 ·have j:=ah c
  have o:0<i->1<=(nth xs (i - 1)).Len/\(nth xs (i - 1)).Len<=pages/\0<=(nth xs (i - 1)).At/\(nth xs (i - 1)).At<=pages - (nth xs (i - 1)).Len:=λh=>vD d ω
  cases a:rangeIn pages (nth xs i) with
  | false=>
   have b:=uG pages (nth xs i) e;rw[a]at b
   repeat'(first|refine gD ?_|(conv=>whnf);first|with_reducible refine CA (aa j) ?_|refine C6 b ?_)
   exact T0 (λz=>[B z]) ((by symm;unfold bv;rw[cg c (by unfold fG;rw[a];rfl)];rfl))
  | true=>
   have b:=uG pages (nth xs i) e;rw[a]at b
   repeat'(first|refine gD ?_|(conv=>whnf);first|with_reducible (first|refine CA (aa j) ?_|refine Bf.D (λl=>?_) (λl=>?_))|refine C6 b ?_|refine CK ω (aa (fD ω c)) ?_)
   all_goals first
    | exact T0 (λz=>[B z]) ((by symm;unfold bv;rw[cg c (by unfold fG;rw[a,Q0 ω];rfl)];rfl))
    | ((conv=>whnf);refine CB (i+1) ⟨ω,bL d (by unfold fG;rw[a,O0 ω];rfl)⟩ ω ?_;(exact wB))
 ·repeat'(first|refine gD ?_|(conv=>whnf);first|refine C6 (aG pages 1 32) ?_)
  obtain rfl:i=xs.length:=ω
  exact T0 (λz=>[B z]) ((by unfold bv;rw[d];rfl))
theorem xo(pages:Int)(xs:List aA)(j:0<=pages/\pages<=1048576)(k:iL xs):ao Tryz.prog 67 false [.val none [I pages],.val none (bI .imm xs)] .one [B (bv pages xs)]:=by
 have n:=k.1;refine fO 43 [(4,26,[14,15,16,17,18,19,20,21,22,23,24,25,26,27,28,29,30,31,32,33,34,35,36,37,38,39])] Tryz.func67 rfl ?_
 repeat'(first|refine gO ?_|fail)
 (conv=>whnf)
 refine CD (ι:=Nat) (λi=>[(0,.hold .one [I (pages)]),(1,.hold .one (bI .imm xs)),(7,.hold .one (bI .imm xs)),(8,.hold .one [I (xs.length)]),(9,.hold .one [I ((i:Nat):Int)])]) (λi=>i<=xs.length/\cE i (fG pages xs)=true) (λi=>xs.length - i) 0 ?_ ⟨R0 _,rfl⟩ λi e=>?_
 ·exact wB
 obtain⟨e,d⟩:=e;by_cases b:i<xs.length
 ·have g:=ah b
  have o:0<i->1<=(nth xs (i - 1)).Len/\(nth xs (i - 1)).Len<=pages/\0<=(nth xs (i - 1)).At/\(nth xs (i - 1)).At<=pages - (nth xs (i - 1)).Len:=λh=>vD d ω
  have c:=EO pages (nth xs i) j;cases a:rangeIn pages (nth xs i) with
  | false=>
   rw[a]at c
   repeat'(first|refine gD ?_|(conv=>whnf);first|with_reducible refine CA (aa g) ?_|refine C6 c ?_)
   exact T0 (λz=>[B z]) ((by symm;unfold bv;rw[cg b (by unfold fG;rw[a];rfl)];rfl))
  | true=>
   rw[a]at c
   repeat'(first|refine gD ?_|(conv=>whnf);first|with_reducible (first|refine CA (aa g) ?_|refine Bf.D (λl=>?_) (λl=>?_))|refine C6 c ?_|refine CK ω (aa (fD ω b)) ?_)
   all_goals first
    | exact T0 (λz=>[B z]) ((by symm;unfold bv;rw[cg b (by unfold fG;rw[a,Q0 ω];rfl)];rfl))
    | ((conv=>whnf);refine CB (i+1) ⟨ω,bL d (by unfold fG;rw[a,O0 ω];rfl)⟩ ω ?_;(exact wB))
 ·repeat'(first|refine gD ?_|(conv=>whnf);first|refine C6 (aM pages 1 32) ?_)
  obtain rfl:i=xs.length:=ω
  exact T0 (λz=>[B z]) ((by unfold bv;rw[d];rfl))
theorem xI(xs:List aA)(page:Int)(g:xs.length<=9223372036854775807):ao Tryz.prog 270 false [.val none (bI .imm xs),.val none [I page]] .one [B (xs.any (pF page))]:=by
 refine fO 34 [(4,22,[12,13,14,15,16,17,18,19,20,21,22,23,24,25,26,27,28,29,30,31,32,33])] Tryz.func270 rfl ?_
 repeat'(first|refine gO ?_|fail)
 (conv=>whnf)
 refine CD (ι:=Nat) (λi=>[(0,.hold .one (bI .imm xs)),(1,.hold .one [I (page)]),(5,.hold .one [I ((i:Nat):Int)])]) (λi=>i<=xs.length/\(xs.take i).any (pF page)=false) (λi=>xs.length - i) (0) ?_ (⟨R0 _,rfl⟩) λi b=>?_
 ·exact wB
 obtain⟨b,c⟩:=b;by_cases d:i<xs.length
 ·have a:=ah d
  repeat'(first|refine gD ?_|(conv=>whnf);first|with_reducible (first|refine CA (aa a) ?_|refine Bf.D (λe=>?_) (λe=>?_))|refine CJ rfl ?_)
  all_goals first
   | exact T0 (λz=>[B z]) ((zS a (by unfold pF;rw[O0 (by assumption),O0 (by assumption)];rfl)).symm)
   | ((conv=>whnf);refine CB (i+1) ⟨ω,vK a c (by unfold pF;first|(rw[Q0 (by assumption:¬(nth xs i).At<=page)];rfl)|(rw[Q0 (by assumption:¬page<_)];simp))⟩ ω ?_;(exact wB))
 ·repeat'(first|refine gD ?_|fail)
  exact T0 (λz=>[B z]) ((FR ω c).symm)
theorem tdiv16{z:Int}(h:0<=z):z.tdiv 16=z / 16:=Int.tdiv_eq_ediv_of_nonneg h
theorem kQ(z:Int):ao Tryz.prog 293 false [.val none [I z]] .one [I (eI z)]:=by
 refine fO 10 [] Tryz.func293 rfl ?_;by_cases b:9<=z/\z<=1000
 ·repeat'(first|refine gD ?_|(conv=>whnf);first|with_reducible refine Bf.D (λa=>?_) (λa=>?_)|refine C6 (aG z 9 1000) ?_|refine CL (by decide) ?_|refine CJ ((T0 _ (tdiv16 ω)).trans (ef ω ω)) ?_)
  all_goals exact T0 (λz=>[I z]) (by unfold eI;rw[C8 b];omega)
 ·repeat'(first|refine gD ?_|(conv=>whnf);first|with_reducible refine Bf.D (λa=>?_) (λa=>?_)|refine C6 (aG z 9 1000) ?_)
  all_goals exact T0 (λz=>[I z]) (by unfold eI;rw[C7 b])
theorem xe(z:Int):ao Tryz.prog 217 false [.val none [I z]] .one [I (eI z)]:=by
 refine fO 10 [] Tryz.func217 rfl ?_;by_cases b:9<=z/\z<=1000
 ·repeat'(first|refine gD ?_|(conv=>whnf);first|with_reducible refine Bf.D (λa=>?_) (λa=>?_)|refine C6 (aM z 9 1000) ?_|refine CL (by decide) ?_|refine CJ ((T0 _ (tdiv16 ω)).trans (ef ω ω)) ?_)
  all_goals exact T0 (λz=>[I z]) (by unfold eI;rw[C8 b];omega)
 ·repeat'(first|refine gD ?_|(conv=>whnf);first|with_reducible refine Bf.D (λa=>?_) (λa=>?_)|refine C6 (aM z 9 1000) ?_)
  all_goals exact T0 (λz=>[I z]) (by unfold eI;rw[C7 b])
theorem lT(l:a8):ao Tryz.prog 269 false [.val (some 3) (a8.enc .imm l)] .one [B (bP l)]:=by
 have b:=kQ l.Size;by_cases c:9<=l.Size/\l.Size<=1000
 ·rw[show eI l.Size=(l.Size+15) / 16 from C8 c]at b
  refine fO 22 [] Tryz.func269 rfl ?_
  repeat'(first|refine gO ?_|(conv=>whnf);first|with_reducible (first|refine Bf.D (λa=>?_) (λa=>?_)|refine Bf.E (λa=>?_) (λa=>?_))|refine C6 b ?_|refine C6 (aG _ 0 _) ?_)
  all_goals exact T0 (λz=>[B z]) ((by unfold bP;first|(symm;exact Q0 ω)|exact decide_eq_decide.2 ω))
 ·rw[show eI l.Size=0 from C7 c]at b
  refine fO 22 [] Tryz.func269 rfl ?_
  repeat'(first|refine gD ?_|(conv=>whnf);first|with_reducible refine Bf.D (λa=>?_) (λa=>?_)|refine C6 b ?_)
  all_goals exact T0 (λz=>[B z]) ((by unfold bP;symm;exact Q0 ω))
theorem qR(l:a8):ao Tryz.prog 162 false [.val (some 3) (a8.enc .imm l)] .one [B (bP l)]:=by
 have b:=xe l.Size;by_cases c:9<=l.Size/\l.Size<=1000
 ·rw[show eI l.Size=(l.Size+15) / 16 from C8 c]at b
  refine fO 22 [(1,20,[3,4,5,6,7,8,9,10,11,12,13,14,15,16,17,18,19,20,21,2])] Tryz.func162 rfl ?_
  repeat'(first|refine gD ?_|(conv=>whnf);first|with_reducible (first|refine Bf.D (λa=>?_) (λa=>?_)|refine Bf.E (λa=>?_) (λa=>?_))|refine C6 b ?_|refine C6 (aM _ 9 1000) ?_|refine C6 (aM _ 0 _) ?_)
  all_goals exact T0 (λz=>[B z]) ((by unfold bP;first|(symm;exact Q0 ω)|exact decide_eq_decide.2 ω))
 ·refine fO 22 [(1,20,[3,4,5,6,7,8,9,10,11,12,13,14,15,16,17,18,19,20,21,2])] Tryz.func162 rfl ?_
  repeat'(first|refine gD ?_|(conv=>whnf);first|with_reducible refine Bf.D (λa=>?_) (λa=>?_)|refine C6 (aM _ 9 1000) ?_)
  all_goals exact T0 (λz=>[B z]) ((by unfold bP;symm;exact Q0 ω))
theorem mu{z:Int}(h:0<=z/\z<=9223372036854775807):(BitVec.ofInt IntKind.i64.bits z).toNat=z.toNat:=by
 show(BitVec.ofInt 64 z).toNat=z.toNat;rw[BitVec.toNat_ofInt]
 congr 1
 exact Int.emod_eq_of_lt h.1 (by show z<((2 ^ 64:Nat):Int);have:=h.2;norm_cast;omega)
theorem and64{z1 z2:Int}(h1:0<=z1/\z1<=9223372036854775807)(a:0<=z2/\z2<=9223372036854775807):IntKind.i64.wrap ((BitVec.ofInt IntKind.i64.bits z1 &&& BitVec.ofInt IntKind.i64.bits z2).toNat:Nat)=((z1.toNat &&& z2.toNat:Nat):Int):=by
 rw[BitVec.toNat_and,mu h1,mu a];have:z1.toNat &&& z2.toNat<=z1.toNat:=Nat.and_le_left;exact ef ω ω
theorem ES(k:Int):lim k<=65535:=by
 unfold lim
 (repeat' split)<;>decide
theorem dL{s:au}(h:aX s=true):0<=s.Bits/\s.Bits<=9223372036854775807:=by
 unfold aX at h;simp only[C0]at h;have:=ES s.Class;omega
theorem lc(b c:au):ao Tryz.prog 40 false [.val (some 3) (au.enc .imm b),.val (some 3) (au.enc .imm c)] .one [B (meshable b c)]:=by
 have g:=eM b;have h:=eM c;cases d:aX b<;>rw[d]at g<;>cases e:aX c<;>rw[e]at h
 all_goals
  refine fO 33 [] Tryz.func40 rfl ?_
  repeat'(first|refine gO ?_|(conv=>whnf);first|with_reducible (first|refine Bf.D (λa=>?_) (λa=>?_)|refine Bf.N (λa=>?_) (λa=>?_)|refine Bf.E (λa=>?_) (λa=>?_))|refine C6 g ?_|refine C6 h ?_|refine CJ (and64 (dL d) (dL e)) ?_)
  all_goals exact T0 (λz=>[B z]) ((by unfold meshable;rw[d,e];first|rfl|(symm;exact Q0 ω)|(rw[Y3];simp;omega)))
theorem xa(b c:au):ao Tryz.prog 165 false [.val (some 3) (au.enc .imm b),.val (some 3) (au.enc .imm c)] .one [B (meshable b c)]:=by
 have g:=gW b;have h:=gW c;cases d:aX b<;>rw[d]at g<;>cases e:aX c<;>rw[e]at h
 all_goals
  refine fO 33 [] Tryz.func165 rfl ?_
  repeat'(first|refine gO ?_|(conv=>whnf);first|with_reducible (first|refine Bf.D (λa=>?_) (λa=>?_)|refine Bf.N (λa=>?_) (λa=>?_)|refine Bf.E (λa=>?_) (λa=>?_))|refine C6 g ?_|refine C6 h ?_|refine CJ (and64 (dL d) (dL e)) ?_)
  all_goals exact T0 (λz=>[B z]) ((by unfold meshable;rw[d,e];first|rfl|(symm;exact Q0 ω)|(rw[Y3];simp;omega)))
theorem GG(k:Int):ao Tryz.prog 247 false [.val none [I k]] .one [B (decide (0<=k/\k<=15))]:=by
 refine fO 5 [] Tryz.func247 rfl ?_
 repeat'(first|refine gO ?_|(conv=>whnf);first|refine C6 (aM k 0 15) ?_)
 rfl
theorem tt(p:cz)(e:cz.sml p):ao Tryz.prog 279 false [.val (some 3) (cz.enc .imm p)] .one [B (eD p)]:=by
 have h:p.Cells.length<=1048576:=e;refine fO 51 [(4,25,[11,12,13,14,15,16,17,18,19,20,21,22,23,24,25,26,27,28,29,30,31,32,33,34,35])] Tryz.func279 rfl ?_
 repeat'(first|refine gO ?_|fail)
 (conv=>whnf)
 refine CD (ι:=Nat) (λi=>[(1,.hold .box (cz.enc .imm p)),(3,.hold .one [I ((i:Nat):Int)])]) (λi=>i<=p.Cells.length/\cE i (mH p.Cells)=true) (λi=>p.Cells.length - i) 0 ?_ ⟨R0 _,rfl⟩ λi c=>?_
 ·exact wB
 obtain⟨c,d⟩:=c;by_cases b:i<p.Cells.length
 ·have g:=ah b
  repeat'(first|refine gD ?_|(conv=>whnf);first|with_reducible (first|refine CA (aa g) ?_|refine Bf.D (λa=>?_) (λa=>?_))|refine C6 (aG _ 0 15) ?_|refine CK ω (aa (fD ω b)) ?_)
  all_goals first
   | exact T0 (λz=>[B z]) ((by symm;unfold eD;rw[cg b (Q0 ω)];rfl))
   | ((conv=>whnf);refine CB (i+1) ⟨ω,bL d (O0 ω)⟩ ω ?_;(exact wB))
 ·obtain rfl:i=p.Cells.length:=ω
  repeat'(first|refine gD ?_|(conv=>whnf);first|with_reducible (first|refine Bf.D (λa=>?_) (λa=>?_)|refine Bf.NB (λa=>?_) (λa=>?_)|refine Bf.N (λa=>?_) (λa=>?_))|refine C6 (aG _ 0 31) ?_)
  all_goals exact T0 (λz=>[B z]) ((by unfold eD;rw[d];simp only[Bool.true_and];first|(symm;exact Q0 ω)|exact decide_eq_decide.2 ω|(rw[Y3];simp;omega)))
theorem BM(p:cz)(e:cz.sml p):ao Tryz.prog 171 false [.val (some 3) (cz.enc .imm p)] .one [B (eD p)]:=by
 have h:p.Cells.length<=1048576:=e;refine fO 46 [] Tryz.func171 rfl ?_
 repeat'(first|refine gO ?_|fail)
 (conv=>whnf)
 refine CD (ι:=Nat) (λi=>[(1,.hold .box (cz.enc .imm p)),(6,.hold .one (aD .imm p.Cells)),(7,.hold .one [I (p.Cells.length)]),(8,.hold .one [I ((i:Nat):Int)])]) (λi=>i<=p.Cells.length/\cE i (mH p.Cells)=true) (λi=>p.Cells.length - i) 0 ?_ ⟨R0 _,rfl⟩ λi c=>?_
 ·exact wB
 obtain⟨c,d⟩:=c;by_cases b:i<p.Cells.length
 ·have g:=ah b
  repeat'(first|refine gD ?_|(conv=>whnf);first|with_reducible (first|refine CA (aa g) ?_|refine Bf.D (λa=>?_) (λa=>?_))|refine C6 (GG _) ?_|refine CK ω (aa (fD ω b)) ?_)
  all_goals first
   | exact T0 (λz=>[B z]) ((by symm;unfold eD;rw[cg b (Q0 ω)];rfl))
   | ((conv=>whnf);refine CB (i+1) ⟨ω,bL d (O0 ω)⟩ ω ?_;(exact wB))
 ·obtain rfl:i=p.Cells.length:=ω
  repeat'(first|refine gD ?_|(conv=>whnf);first|with_reducible (first|refine Bf.D (λa=>?_) (λa=>?_)|refine Bf.NB (λa=>?_) (λa=>?_)|refine Bf.N (λa=>?_) (λa=>?_))|refine C6 (aM _ 0 31) ?_)
  all_goals exact T0 (λz=>[B z]) ((by unfold eD;rw[d];simp only[Bool.true_and];first|(symm;exact Q0 ω)|exact decide_eq_decide.2 ω|(rw[Y3];simp;omega)))
theorem vR(j:cN)(a:cN.sml j):ao Tryz.prog 212 false [.val (some 5) (cN.enc .imm j)] .one [B (jf j)]:=by
 have e:j.Plan.Cells.length<=1048576:=a;have b:=tt j.Plan a;cases c:eD j.Plan<;>rw[c]at b
 all_goals
  refine fO 20 [] Tryz.func212 rfl ?_
  repeat'(first|refine gO ?_|(conv=>whnf);first|with_reducible refine Bf.D (λd=>?_) (λd=>?_)|refine C6 b ?_|refine C6 (aG _ 0 5) ?_|refine C6 (aG _ 0 _) ?_)
  all_goals exact T0 (λz=>[B z]) ((by unfold jf;rw[c];first|rfl|(symm;exact Q0 ω)|(rw[Y3];simp;omega)))
theorem DN(j:cN)(a:cN.sml j):ao Tryz.prog 77 false [.val (some 5) (cN.enc .imm j)] .one [B (jf j)]:=by
 have e:j.Plan.Cells.length<=1048576:=a;have b:=BM j.Plan a;cases c:eD j.Plan<;>rw[c]at b
 all_goals
  refine fO 20 [] Tryz.func77 rfl ?_
  repeat'(first|refine gO ?_|(conv=>whnf);first|with_reducible refine Bf.D (λd=>?_) (λd=>?_)|refine C6 b ?_|refine C6 (aM _ 0 5) ?_|refine C6 (aM _ 0 _) ?_)
  all_goals exact T0 (λz=>[B z]) ((by unfold jf;rw[c];first|rfl|(symm;exact Q0 ω)|(rw[Y3];simp;omega)))
theorem jF(l:a8)(k:Nat):lpgs l (k+1)=lpgs l k++[l.Page+(k:Nat)]:=by
 unfold lpgs;rw[List.range_succ,R4];rfl
theorem AD(l:a8)(k:Nat):(lpgs l k).length=k:=by unfold lpgs;simp
theorem JR(l:a8){k n:Nat}(h:k<=n):lpgs l k <+: lpgs l n:=by
 induction n with
 | zero=>
  obtain rfl:k=0:=ω
  exact List.prefix_refl _
 | succ n b=>
  rcases Nat.lt_or_ge n k with a|a
  ·obtain rfl:k=n+1:=ω
   exact List.prefix_refl _
  ·rw[jF];exact(b a).trans (List.prefix_append ..)
theorem nt(sp:List au){la:List a8}{i:Nat}{l:a8}(h:la[i]? = some l):pgs sp (la.take (i+1))=pgs sp (la.take i)++lpgs l l.Pages.toNat:=by
 unfold pgs;rw[O4,h,List.flatMap_append];simp
theorem M5(sp:List au)(la:List a8)(i:Nat):pgs sp (la.take i) <+: pgs sp la:=by
 unfold pgs;refine(List.prefix_append_right_inj _).2 ?_
 conv=>rhs;rw[<-List.take_append_drop i la,List.flatMap_append]
 exact List.prefix_append ..
theorem K3{S all:List Int}{p:Int}(h:(S++[p]) <+: all)(b:p∈S):decide all.Nodup=false:=by
 refine Q0 λc=>?_
 have a:=c.sublist h.sublist;rw[List.nodup_append]at a;exact a.2.2 p b p (by simp) rfl
theorem jQ{S:List Int}{p:Int}(h:S.Nodup)(b:p∉S):(S++[p]).Nodup:=by
 rw[List.nodup_append];exact⟨h,by simp,λx c y a e=>by simp at a;subst a;subst e;exact b c⟩
theorem DI{sp:List au}{la:List a8}{i:Nat}{s:au}(h:sp[i]? = some s):((sp.take i).map (·.Page)++[s.Page]) <+: pgs sp la:=by
 have a:(sp.take i).map (·.Page)++[s.Page]=(sp.take (i+1)).map (·.Page):=by rw[O4,h];simp
 rw[a];refine List.IsPrefix.trans ?_ (List.prefix_append ..);rw[Q3];exact List.take_prefix ..
theorem yi{sp:List au}{la:List a8}{i k:Nat}{l:a8}(h:la[i]? = some l)(a:k<l.Pages.toNat):(pgs sp (la.take i)++lpgs l k++[l.Page+(k:Nat)]) <+: pgs sp la:=by
 refine List.IsPrefix.trans ?_ (M5 sp la (i+1));rw[nt sp h,Q4,<-jF];exact(List.prefix_append_right_inj _).2 (JR l a)
theorem pe{sp:List au}{la:List a8}{i:Nat}{s:au}(h:sp[i]? = some s)(a:aX s=false):bc sp la=false:=by
 unfold bc;rw[dU h a];rfl
theorem ni{sp:List au}{la:List a8}{i:Nat}{l:a8}(h:la[i]? = some l)(a:bP l=false):bc sp la=false:=by
 unfold bc;rw[dU h a];simp
theorem jE{sp:List au}{la:List a8}{S:List Int}{p:Int}(h:(S++[p]) <+: pgs sp la)(a:p∈S):bc sp la=false:=by
 unfold bc;rw[K3 h a];simp
theorem qn{sp:List au}{la:List a8}(h1:sp.all aX=true)(a:la.all bP=true)(b:(pgs sp la).Nodup):bc sp la=true:=by
 unfold bc;rw[h1,a,O0 b];rfl
theorem aR{l:a8}(h:bP l=true):1<=l.Pages/\l.Pages<=63/\0<=l.Page/\l.Page<=31:=by
 unfold bP at h;simp only[C0]at h;omega
theorem kP(sp:List au)(la:List a8)(t:du sp)(u:dr la):ao Tryz.prog 203 false [.val none (bX .imm sp),.val none (bS .imm la)] .one [B (bc sp la)]:=by
 have J:=t.1;have K:=u.1;refine fO 79 [] Tryz.func203 rfl ?_
 repeat'(first|refine gO ?_|fail)
 (conv=>whnf)
 refine CD (ι:=Nat × List Int) (λi=>[(0,.hold .one (bX .imm sp)),(1,.hold .one (bS .imm la)),(5,.hold .one (aD .own i.2)),(6,.hold .one [I ((i.1:Nat):Int)])]) (λi=>i.1<=sp.length/\i.2=(sp.take i.1).map (·.Page)/\(sp.take i.1).all aX=true/\i.2.Nodup) (λi=>sp.length - i.1) ((0,[])) ?_ (⟨R0 _,rfl,rfl,List.nodup_nil⟩) λi p=>?_
 ·exact wB
 obtain⟨i,S⟩:=i;obtain⟨p,o,h,l⟩:=p;simp only at p o h l |-;have L:S.length=i:=by rw[o,W0,I1];omega
 by_cases w:i<sp.length
 ·have a:=ah w
  have n:=eM (nth sp i);cases j:aX (nth sp i)<;>rw[j]at n
  ·repeat'(first|refine gD ?_|(conv=>whnf);first|with_reducible refine CA (aa a) ?_|refine C6 n ?_)
   exact T0 (λz=>[B z]) ((pe a j).symm)
  ·repeat'(first|refine gD ?_|(conv=>whnf);first|with_reducible (first|refine CA (aa a) ?_|refine Bf.D (λy=>?_) (λy=>?_))|refine C6 n ?_|refine CF (lB S _ ω) ⟨⟨rfl,cW _⟩,⟨rfl,rfl⟩,trivial⟩ ?_|refine CN bW (λr E=>by rw[Z0.1 E];rfl) (by simp[aU,d4]) (by simp;omega) (by simp only[W0];exact up (by simp;omega) (by decide)) rfl ?_)
   all_goals first
    | exact T0 (λz=>[B z]) ((jE (S:=S) (by rw[o];exact DI a) (by assumption)).symm)
    | ((conv=>whnf)
       refine CB (i+1,S++[(nth sp i).Page]) ⟨(by simp only;omega),(by simp only;rw[o,O4,a];simp),(cv a h j),jQ l (by assumption)⟩ (by simp only;omega) ?_
       (repeat'(first|exact trivial|rfl|exact CI rfl (CI (T0 (C.s d7.own) (by simp[rI])) trivial)|refine CI ?_ ?_)))
 ·obtain rfl:i=sp.length:=ω
  rw[v4]at h o
  repeat'(first|refine gD ?_|fail)
  (conv=>whnf)
  refine CD (ι:=Nat × List Int) (λi=>[(1,.hold .one (bS .imm la)),(5,.hold .one (aD .own i.2)),(7,.hold .one [I ((i.1:Nat):Int)])]) (λi=>i.1<=la.length/\i.2=pgs sp (la.take i.1)/\(la.take i.1).all bP=true/\i.2.Nodup/\i.2.length<=1048576+64*i.1) (λi=>la.length - i.1) ((0,S)) ?_ (⟨R0 _,by rw[o];unfold pgs;simp,rfl,l,by simp only;omega⟩) λi p=>?_
  ·exact wB
  obtain⟨i,S2⟩:=i;obtain⟨F,c,b,d,G⟩:=p;simp only at F c b d G |-;by_cases w:i<la.length
  ·have a:=ah w
   have n:=lT (nth la i);cases j:bP (nth la i)<;>rw[j]at n
   ·repeat'(first|refine gD ?_|(conv=>whnf);first|with_reducible refine CA (aa a) ?_|refine C6 n ?_)
    exact T0 (λz=>[B z]) ((ni a j).symm)
   ·have M:=aR j
    repeat'(first|refine gD ?_|(conv=>whnf);first|with_reducible refine CA (aa a) ?_|refine C6 n ?_)
    (conv=>whnf)
    refine CD (ι:=Nat × List Int) (λk=>[(1,.hold .one (bS .imm la)),(5,.hold .one (aD .own k.2)),(7,.hold .one [I ((i:Nat):Int)]),(8,.hold .one [I ((k.1:Nat):Int)])]) (λk=>k.1<=(nth la i).Pages.toNat/\k.2=S2++lpgs (nth la i) k.1/\k.2.Nodup) (λk=>(nth la i).Pages.toNat - k.1) ((0,S2)) ?_ (⟨R0 _,by simp[lpgs],d⟩) λk H=>?_
    ·exact wB
    obtain⟨k,q⟩:=k;obtain⟨H,e,g⟩:=H;simp only at H e g |-;have N:q.length=S2.length+k:=by rw[e,U2,AD]
    by_cases O:k<(nth la i).Pages.toNat
    ·repeat'(first|refine gD ?_|(conv=>whnf);first|with_reducible (first|refine CA (aa a) ?_|refine Bf.D (λy=>?_) (λy=>?_))|refine CF (lB q _ ω) ⟨⟨rfl,cW _⟩,⟨rfl,rfl⟩,trivial⟩ ?_|refine CN bW (λr E=>by rw[Z0.1 E];rfl) (by simp[aU,d4]) (by simp;omega) (by show _*8<=_;simp;omega) rfl ?_)
     all_goals first
      | exact T0 (λz=>[B z]) ((jE (S:=q) (by rw[e,c];exact yi a O) (by assumption)).symm)
      | ((conv=>whnf)
         refine CB (k+1,q++[(nth la i).Page+(k:Nat)]) ⟨(by simp only;omega),(by simp only;rw[e,jF,Q4]),jQ g (by assumption)⟩ (by simp only;omega) ?_
         (repeat'(first|exact trivial|rfl|exact CI rfl (CI (T0 (C.s d7.own) (by simp[rI])) trivial)|refine CI ?_ ?_)))
    ·obtain rfl:k=(nth la i).Pages.toNat:=ω
     repeat'(first|refine gD ?_|(conv=>whnf);first|with_reducible refine CA (aa a) ?_)
     ((conv=>whnf);refine CB (i+1,q) ⟨(by simp only;omega),(by simp only;rw[e,c,<-nt sp a]),(cv a b j),g,(by simp only;omega)⟩ (by simp only;omega) ?_;(exact wB))
  ·obtain rfl:i=la.length:=ω
   rw[v4]at b c
   repeat'(first|refine gD ?_|fail)
   exact T0 (λz=>[B z]) ((qn h b (by rw[<-c];exact d)).symm)
def ins(S:List Int)(p:Int):List Int:=if p∈S then S else S++[p]
theorem F8{p:Int} : ∀{S:List Int},p∈S->mput (eJ S) p (.bool true)=eJ S
 | x::S,h=>by
  simp only[eJ,U4,mput];by_cases a:x=p
  ·rw[C8 a,a]
  ·rw[C7 a]
   have:=F8 (S:=S) ((List.mem_cons.1 h).resolve_left λe=>a e.symm);simp only[eJ]at this;rw[this]
theorem vr(S:List Int)(p:Int):eJ (ins S p)=mput (eJ S) p (.bool true):=by
 unfold ins;split
 ·rw[F8 (by assumption)]
 ·rw[sw (by assumption)]
theorem HY(S:List Int)(p:Int):aQ Tryz.prog 160 false [.val none [I p],.ptr [.m (eJ S)]] [.val none [I p],.ptr [.m (eJ (ins S p))]] .one [B (decide (p∉S))]:=by
 refine fM 12 [] [] [(0,0),(0,0)] Tryz.func160 rfl (λu q=>?_)
 repeat'(first|refine gO ?_|(conv=>whnf);first|refine Ml.mk (m6 p S) ?_|refine Mu.mk (vr S p) ?_)
 refine CE rfl ?_ ?_
 ·exact T0 (λz=>[B z]) (by simp)
 ·exact wB
theorem kO(sp:List au)(la:List a8)(t:du sp)(u:dr la):ao Tryz.prog 68 false [.val none (bX .imm sp),.val none (bS .imm la)] .one [B (bc sp la)]:=by
 have F:=t.1;have G:=u.1;refine fP 54 [(160,[0,2])] [] Tryz.func68 rfl ?_
 repeat'(first|refine gO ?_|fail)
 (conv=>whnf)
 refine CD (ι:=Nat × List Int) (λi=>[(1,.hold .one (bS .imm la)),(5,.hold .box [.m (eJ i.2)]),(6,.fn 160 [5]),(14,.hold .one (bX .imm sp)),(15,.hold .one [I (sp.length)]),(16,.hold .one [I ((i.1:Nat):Int)])]) (λi=>i.1<=sp.length/\i.2=(sp.take i.1).map (·.Page)/\(sp.take i.1).all aX=true/\i.2.Nodup) (λi=>sp.length - i.1) ((0,[])) ?_ (⟨R0 _,rfl,rfl,List.nodup_nil⟩) λi p=>?_
 ·exact wB
 obtain⟨i,S⟩:=i;obtain⟨p,q,h,n⟩:=p;simp only at p q h n |-;by_cases w:i<sp.length
 ·have c:=ah w
  have o:=gW (nth sp i);cases l:aX (nth sp i)<;>rw[l]at o
  ·repeat'(first|refine gD ?_|(conv=>whnf);first|with_reducible refine CA (aa c) ?_|refine C6 o ?_)
   exact T0 (λz=>[B z]) ((pe c l).symm)
  ·repeat'(first|refine gD ?_|(conv=>whnf);first|with_reducible (first|refine CA (aa c) ?_|refine Bf.D (λy=>?_) (λy=>?_))|refine C6 o ?_|refine CH (HY S _) (.inl rfl) ?_)
   all_goals first
    | exact T0 (λz=>[B z]) ((jE (S:=S) (by rw[q];exact DI c) (by grind)).symm)
    |(have a:(nth sp i).Page∉S:=by assumption
      (conv=>whnf)
      refine CB (i+1,ins S (nth sp i).Page) ⟨(by simp only;omega),(by simp only;unfold ins;rw[C7 a,q,O4,c];simp),(cv c h l),(by simp only;unfold ins;rw[C7 a];exact jQ n a)⟩ (by simp only;omega) ?_
      (exact wA))
 ·obtain rfl:i=sp.length:=ω
  rw[v4]at h q
  repeat'(first|refine gD ?_|fail)
  (conv=>whnf)
  refine CD (ι:=Nat × List Int) (λi=>[(5,.hold .box [.m (eJ i.2)]),(6,.fn 160 [5]),(31,.hold .one (bS .imm la)),(32,.hold .one [I (la.length)]),(33,.hold .one [I ((i.1:Nat):Int)])]) (λi=>i.1<=la.length/\i.2=pgs sp (la.take i.1)/\(la.take i.1).all bP=true/\i.2.Nodup) (λi=>la.length - i.1) ((0,S)) ?_ (⟨R0 _,by rw[q];unfold pgs;simp,rfl,n⟩) λi p=>?_
  ·exact wB
  obtain⟨i,S2⟩:=i;obtain⟨C,d,b,e⟩:=p;simp only at C d b e |-;by_cases w:i<la.length
  ·have c:=ah w
   have o:=qR (nth la i);cases l:bP (nth la i)<;>rw[l]at o
   ·repeat'(first|refine gD ?_|(conv=>whnf);first|with_reducible refine CA (aa c) ?_|refine C6 o ?_)
    exact T0 (λz=>[B z]) ((ni c l).symm)
   ·have H:=aR l
    repeat'(first|refine gD ?_|(conv=>whnf);first|with_reducible refine CA (aa c) ?_|refine C6 o ?_)
    (conv=>whnf)
    refine CD (ι:=Nat × List Int) (λk=>[(5,.hold .box [.m (eJ k.2)]),(6,.fn 160 [5]),(10,.hold .box (a8.enc .imm (nth la i))),(11,.hold .one [I ((k.1:Nat):Int)]),(31,.hold .one (bS .imm la)),(32,.hold .one [I (la.length)]),(33,.hold .one [I ((i:Nat):Int)])]) (λk=>k.1<=(nth la i).Pages.toNat/\k.2=S2++lpgs (nth la i) k.1/\k.2.Nodup) (λk=>(nth la i).Pages.toNat - k.1) ((0,S2)) ?_ (⟨R0 _,by simp[lpgs],e⟩) λk E=>?_
    ·exact wB
    obtain⟨k,r⟩:=k;obtain⟨E,j,g⟩:=E;simp only at E j g |-;by_cases J:k<(nth la i).Pages.toNat
    ·repeat'(first|refine gD ?_|(conv=>whnf);first|with_reducible refine Bf.D (λy=>?_) (λy=>?_)|refine CH (HY r _) (.inl rfl) ?_)
     all_goals first
      | exact T0 (λz=>[B z]) ((jE (S:=r) (by rw[j,d];exact yi c J) (by grind)).symm)
      |(have a:(nth la i).Page+(k:Nat)∉r:=by assumption
        (conv=>whnf)
        refine CB (k+1,ins r ((nth la i).Page+(k:Nat))) ⟨(by simp only;omega),(by simp only;unfold ins;rw[C7 a,j,jF,Q4]),(by simp only;unfold ins;rw[C7 a];exact jQ g a)⟩ (by simp only;omega) ?_
        (exact wA))
    ·obtain rfl:k=(nth la i).Pages.toNat:=ω
     repeat'(first|refine gD ?_|fail)
     ((conv=>whnf);refine CB (i+1,r) ⟨(by simp only;omega),(by simp only;rw[j,d,<-nt sp c]),(cv c b l),g⟩ (by simp only;omega) ?_;(exact wB))
  ·obtain rfl:i=la.length:=ω
   rw[v4]at b d
   repeat'(first|refine gD ?_|fail)
   exact T0 (λz=>[B z]) ((qn h b (by rw[<-d];exact e)).symm)
theorem aE{s:au}(h:aX s=true):0<=s.Page/\s.Page<=31/\0<=s.Class/\s.Class<=3:=by
 unfold aX at h;simp only[C0]at h;omega
theorem bO{k:Int}(h:0<=k/\k<=3):csz k=1\/csz k=2\/csz k=4\/csz k=8:=by
 obtain rfl|rfl|rfl|rfl:k=0\/k=1\/k=2\/k=3:=ω
 all_goals decide
theorem jN{x y:Int}(h:0<=x):x.tdiv y=x / y:=Int.tdiv_eq_ediv_of_nonneg h
theorem fo{x y:Int}(h:0<=x):x.tmod y=x % y:=Int.tmod_eq_emod_of_nonneg h
def S2(p:Int × Int):List C:=[I p.1,I p.2]
theorem xO{a b:Int}{p:Int × Int}(h:(a,b)=p):[I a,I b]=S2 p:=by subst h;rfl
theorem tg(s:au)(a:Int)(k:lP a):ao Tryz.prog 328 false [.val (some 3) (au.enc .imm s),.val none [I a]] (.tup [none,none]) (S2 (gY s a)):=by
 have g:=eM s;have l:=cX s.Class;obtain⟨n,o⟩:=k;cases b:aX s<;>rw[b]at g
 ·refine fO 33 [(4,12,[23,24,25,26,27,28,29,30,31,32,4,5])] Tryz.func328 rfl ?_ (.inr ⟨trivial,trivial,trivial⟩)
  repeat'(first|refine gO ?_|(conv=>whnf);first|refine C6 g ?_)
  exact xO (by unfold gY ca;rw[b];rfl)
 ·have h:=aE b
  have i:=bO ⟨h.2.2.1,h.2.2.2⟩;by_cases c:16*s.Page<=a/\a<=16*s.Page+15
  ·have j:0<=a:=ω
   refine fO 33 [(4,12,[23,24,25,26,27,28,29,30,31,32,4,5])] Tryz.func328 rfl ?_ (.inr ⟨trivial,trivial,trivial⟩)
   repeat'(first|refine gD ?_|(conv=>whnf);first|with_reducible refine Bf.N (λd=>?_) (λd=>?_)|refine C6 g ?_|refine C6 l ?_|refine CL (by decide) ?_|refine CL ω ?_|refine CJ ((T0 _ (jN j)).trans (ef ω ω)) ?_|refine CR (fo j) ?_|refine CJ ((T0 _ (jN ω)).trans (ef (by rcases i with e|e|e|e<;>rw[e]<;>omega) (by rcases i with e|e|e|e<;>rw[e]<;>omega))) ?_|refine CR (fo ω) ?_)
   all_goals first
    |(exfalso;omega)
    |exact xO (by unfold gY ca;rw[b,O0 c];show _=((a - 16*s.Page) / csz s.Class,(a - 16*s.Page) % csz s.Class);rw[show a % 16=a - 16*s.Page by omega])
  ·refine fO 33 [(4,12,[23,24,25,26,27,28,29,30,31,32,4,5])] Tryz.func328 rfl ?_ (.inr ⟨trivial,trivial,trivial⟩)
   repeat'(first|refine gO ?_|(conv=>whnf);first|with_reducible (first|refine Bf.D (λd=>?_) (λd=>?_)|refine Bf.N (λd=>?_) (λd=>?_))|refine C6 g ?_|refine CL (by decide) ?_|refine CJ ((T0 _ (jN ω)).trans (ef ω ω)) ?_)
   all_goals first
    |exact xO (by unfold gY ca;rw[b,Q0 c];rfl)
    |(exfalso;omega)
theorem De(s:au)(a:Int):ao Tryz.prog 182 false [.val (some 3) (au.enc .imm s),.val none [I a]] (.tup [none,none]) (S2 (gY s a)):=by
 have d:=gW s;have j:=cm s.Class;cases b:aX s<;>rw[b]at d
 ·refine fO 38 [(4,12,[28,29,30,31,32,33,34,35,36,37,4,5])] Tryz.func182 rfl ?_ (.inr ⟨trivial,trivial,trivial⟩)
  repeat'(first|refine gO ?_|(conv=>whnf);first|refine C6 d ?_)
  exact xO (by unfold gY ca;rw[b];rfl)
 ·have h:=aE b
  have i:=bO ⟨h.2.2.1,h.2.2.2⟩;by_cases c:16*s.Page<=a/\a<=16*s.Page+15
  ·refine fO 38 [(4,12,[28,29,30,31,32,33,34,35,36,37,4,5])] Tryz.func182 rfl ?_ (.inr ⟨trivial,trivial,trivial⟩)
   repeat'(first|refine gD ?_|(conv=>whnf);first|with_reducible refine Bf.D (λg=>?_) (λg=>?_)|refine C6 d ?_|refine C6 j ?_|refine C6 (aM _ _ _) ?_|refine CL ω ?_|refine CJ ((T0 _ (jN ω)).trans (ef (by rcases i with e|e|e|e<;>rw[e]<;>omega) (by rcases i with e|e|e|e<;>rw[e]<;>omega))) ?_|refine CR (fo ω) ?_)
   all_goals exact xO (by unfold gY ca;rw[b,O0 c];show _=((a - 16*s.Page) / csz s.Class,(a - 16*s.Page) % csz s.Class);rw[show a - s.Page*16=a - 16*s.Page by omega])
  ·refine fO 38 [(4,12,[28,29,30,31,32,33,34,35,36,37,4,5])] Tryz.func182 rfl ?_ (.inr ⟨trivial,trivial,trivial⟩)
   repeat'(first|refine gD ?_|(conv=>whnf);first|with_reducible refine Bf.D (λg=>?_) (λg=>?_)|refine C6 d ?_|refine C6 (aM _ _ _) ?_)
   all_goals exact xO (by unfold gY ca;rw[b,Q0 c];rfl)
theorem oh(b i:Int):ao Tryz.prog 260 false [.val none [I b],.val none [I i]] .one [B (decide (0<=b/\0<=i/\i<=15))]:=by
 refine fO 11 [] Tryz.func260 rfl ?_
 repeat'(first|refine gO ?_|(conv=>whnf);first|with_reducible refine Bf.D (λa=>?_) (λa=>?_)|refine C6 (aG _ 0 15) ?_)
 all_goals exact T0 (λz=>[B z]) ((by first|(symm;exact Q0 ω)|exact decide_eq_decide.2 ω))
theorem yl(b i:Int):ao Tryz.prog 248 false [.val none [I b],.val none [I i]] .one [B (decide (0<=b/\0<=i/\i<=15))]:=by
 refine fO 11 [] Tryz.func248 rfl ?_
 repeat'(first|refine gO ?_|(conv=>whnf);first|with_reducible refine Bf.D (λa=>?_) (λa=>?_)|refine C6 (aM _ 0 15) ?_)
 all_goals exact T0 (λz=>[B z]) ((by first|(symm;exact Q0 ω)|exact decide_eq_decide.2 ω))
theorem J8{b i:Int}(a:0<=b/\b<=9223372036854775807)(e:0<=i/\i<=15):b.fdiv (2 ^ min i.toNat IntKind.i64.bits)=b / 2 ^ i.toNat/\0<=b / 2 ^ i.toNat/\b / 2 ^ i.toNat<=9223372036854775807:=by
 have d:min i.toNat IntKind.i64.bits=i.toNat:=Nat.min_eq_left (show i.toNat<=64 by omega);rw[d];have c:(0:Int)<=2 ^ i.toNat:=Int.pow_nonneg (by decide);refine⟨Int.fdiv_eq_ediv_of_nonneg _ c,Int.ediv_nonneg a.1 c,?_⟩;have:=Int.ediv_le_self (2 ^ i.toNat:Int) a.1;omega
theorem vH{b i:Int}(a:0<=b)(e:0<=i/\i<=15):((((b / 2 ^ i.toNat).toNat &&& (1:Int).toNat:Nat):Int) == 1)=aS b i:=by
 have c:(0:Int)<=b / 2 ^ i.toNat:=Int.ediv_nonneg a (Int.pow_nonneg (by decide));have d:(b / 2 ^ i.toNat).toNat &&& (1:Int).toNat=(b / 2 ^ i.toNat).toNat % 2:=Nat.and_one_is_mod _;rw[d];unfold aS;generalize b / 2 ^ i.toNat=q at c |-;rw[Y3,beq_iff_eq,C0];omega
theorem gi(b i:Int)(c:b<=9223372036854775807):ao Tryz.prog 192 false [.val none [I b],.val none [I i]] .one [B (aS b i)]:=by
 by_cases h:0<=b/\0<=i/\i<=15
 ·obtain⟨d,g⟩:=J8 (b:=b) (i:=i) ⟨h.1,c⟩ h.2
  have j:IntKind.u64.wrap i=i:=by unfold IntKind.wrap;simp[IntKind.signed,IntKind.bits];omega
  refine fO 16 [] Tryz.func192 rfl ?_
  repeat'(first|refine gD ?_|(conv=>whnf);first|with_reducible refine Bf.D (λa=>?_) (λa=>?_)|refine C6 (oh _ _) ?_|refine CL ω ?_|refine CJ j ?_|refine CR d ?_|refine CJ (and64 g ⟨by decide,by decide⟩) ?_)
  all_goals exact T0 (λz=>[B z]) ((vH h.1 h.2))
 ·refine fO 16 [] Tryz.func192 rfl ?_
  repeat'(first|refine gD ?_|(conv=>whnf);first|with_reducible refine Bf.D (λa=>?_) (λa=>?_)|refine C6 (oh _ _) ?_)
  all_goals exact T0 (λz=>[B z]) ((by unfold aS;symm;exact Q0 λe=>h ⟨e.1,e.2.1,e.2.2.1⟩))
theorem m7(b i:Int)(c:b<=9223372036854775807):ao Tryz.prog 173 false [.val none [I b],.val none [I i]] .one [B (aS b i)]:=by
 by_cases h:0<=b/\0<=i/\i<=15
 ·obtain⟨d,g⟩:=J8 (b:=b) (i:=i) ⟨h.1,c⟩ h.2
  refine fO 15 [] Tryz.func173 rfl ?_
  repeat'(first|refine gD ?_|(conv=>whnf);first|with_reducible refine Bf.D (λa=>?_) (λa=>?_)|refine C6 (yl _ _) ?_|refine CL ω ?_|refine CR d ?_|refine CJ (and64 g ⟨by decide,by decide⟩) ?_)
  all_goals exact T0 (λz=>[B z]) ((vH h.1 h.2))
 ·refine fO 15 [] Tryz.func173 rfl ?_
  repeat'(first|refine gD ?_|(conv=>whnf);first|with_reducible refine Bf.D (λa=>?_) (λa=>?_)|refine C6 (yl _ _) ?_)
  all_goals exact T0 (λz=>[B z]) ((by unfold aS;symm;exact Q0 λe=>h ⟨e.1,e.2.1,e.2.2.1⟩))
theorem co{l:a8}(h:bP l=true):9<=l.Size/\l.Size<=1000/\0<=l.Page/\l.Page<=31:=by
 unfold bP at h;simp only[C0]at h;omega
theorem pu(l:a8)(a:Int):ao Tryz.prog 329 false [.val (some 3) (a8.enc .imm l),.val none [I a]] .one [B (bk l a)]:=by
 have c:=lT l;cases b:bP l<;>rw[b]at c
 ·refine fO 24 [] Tryz.func329 rfl ?_
  repeat'(first|refine gO ?_|(conv=>whnf);first|refine C6 c ?_)
  exact T0 (λz=>[B z]) ((by unfold bk;rw[b];rfl))
 ·have e:=co b
  refine fO 24 [] Tryz.func329 rfl ?_
  repeat'(first|refine gO ?_|(conv=>whnf);first|with_reducible refine Bf.D (λd=>?_) (λd=>?_)|refine C6 c ?_)
  all_goals exact T0 (λz=>[B z]) ((by unfold bk;rw[b,Bool.true_and];first|(symm;exact Q0 ω)|exact decide_eq_decide.2 ω))
theorem p7(l:a8)(a:Int):ao Tryz.prog 183 false [.val (some 3) (a8.enc .imm l),.val none [I a]] .one [B (bk l a)]:=by
 have c:=qR l;cases b:bP l<;>rw[b]at c
 ·refine fO 21 [] Tryz.func183 rfl ?_
  repeat'(first|refine gO ?_|(conv=>whnf);first|refine C6 c ?_)
  exact T0 (λz=>[B z]) ((by unfold bk;rw[b];rfl))
 ·have e:=co b
  refine fO 21 [] Tryz.func183 rfl ?_
  repeat'(first|refine gO ?_|(conv=>whnf);first|with_reducible refine Bf.D (λd=>?_) (λd=>?_)|refine C6 c ?_|refine C6 (aM _ _ _) ?_)
  all_goals exact T0 (λz=>[B z]) ((by unfold bk;rw[b,Bool.true_and];exact decide_eq_decide.2 ω))
theorem sK(l:a8)(a:Int)(h:bk l a=true):ao Tryz.prog 330 false [.val (some 3) (a8.enc .imm l),.val none [I a]] .one [I (a - 16*l.Page)]:=by
 have b:=pu l a;rw[h]at b;unfold bk at h;simp only[I0,C0]at h;have c:=co h.1;refine fO 14 [] Tryz.func330 rfl ?_
 repeat'(first|refine gO ?_|(conv=>whnf);first|refine C6 b ?_)
 exact T0 (λz=>[I z]) ω
theorem rD(l:a8)(a:Int)(h:bk l a=true):ao Tryz.prog 184 false [.val (some 3) (a8.enc .imm l),.val none [I a]] .one [I (a - 16*l.Page)]:=by
 have b:=p7 l a;rw[h]at b;unfold bk at h;simp only[I0,C0]at h;have c:=co h.1;refine fO 14 [] Tryz.func184 rfl ?_
 repeat'(first|refine gO ?_|(conv=>whnf);first|refine C6 b ?_)
 exact T0 (λz=>[I z]) ω
theorem oA{m:aJ}{i:Nat}(a:i<m.Buffers.length)(h:gl m i=false):bz m=false:=by
 unfold bz;rw[cg a h];simp
theorem v7{m:aJ}(h:¬(1<=m.Buffers.length/\m.Buffers.length<=4/\m.Inbox.length=m.Buffers.length)):bz m=false:=by
 unfold bz;rw[Q0 h];rfl
theorem uW{m:aJ}(h1:1<=m.Buffers.length/\m.Buffers.length<=4/\m.Inbox.length=m.Buffers.length)(a:cE m.Buffers.length (gl m)=true):bz m=decide (br m m.Buffers.length<=30):=by
 unfold bz;rw[O0 h1,a];rfl
theorem kz(m:aJ)(h:aJ.sml m):ao Tryz.prog 206 false [.val (some 2) (aJ.enc .imm m)] .one [B (bz m)]:=by
 have u:m.Buffers.length<=1048576:=h.1.1;have w:m.Inbox.length<=1048576:=h.2.1;by_cases n:1<=m.Buffers.length/\m.Buffers.length<=4/\m.Inbox.length=m.Buffers.length
 ·refine fO 92 [(19,15,[75,76,77,78,79,80,81,82,83,84,85,86,87,88,89])] Tryz.func206 rfl ?_
  repeat'(first|refine gA ?_|(conv=>whnf);first|with_reducible (first|refine Bf.D (λa=>?_) (λa=>?_)|refine Bf.N (λa=>?_) (λa=>?_))|refine C6 (aG _ 1 4) ?_)
  (conv=>whnf)
  refine CD (ι:=Nat) (λi=>[(1,.hold .box (aJ.enc .imm m)),(3,.hold .one [I (m.Buffers.length)]),(4,.hold .one [I (br m i)]),(5,.hold .one [I ((i:Nat):Int)])]) (λi=>i<=m.Buffers.length/\cE i (gl m)=true/\0<=br m i/\br m i<=2097152*i) (λi=>m.Buffers.length - i) (0) ?_ (⟨R0 _,rfl,by simp[br],by simp[br]⟩) λi o=>?_
  ·exact wB
  obtain⟨o,p,G,H⟩:=o;by_cases j:i<m.Buffers.length
  ·have l:=ah j
   have q:=ah (xs:=m.Inbox) (i:=i) ω;have y:(nth m.Buffers i).length<=1048576:=(h.1.2 _ (am j)).1;have C:(nth m.Inbox i).length<=1048576:=h.2.2 _ (am ω)
   repeat'(first|refine gD ?_|fail)
   (conv=>whnf)
   refine CD (ι:=Nat) (λk=>[(1,.hold .box (aJ.enc .imm m)),(3,.hold .one [I (m.Buffers.length)]),(4,.hold .one [I (br m i)]),(5,.hold .one [I ((i:Nat):Int)]),(6,.hold .one [I ((k:Nat):Int)])]) (λk=>k<=(nth m.Buffers i).length/\((nth m.Buffers i).take k).all (mb m.Buffers.length)=true) (λk=>(nth m.Buffers i).length - k) (0) ?_ (⟨R0 _,rfl⟩) λk r=>?_
   ·exact wB
   obtain⟨r,t⟩:=r;by_cases E:k<(nth m.Buffers i).length
   ·have c:=ah E
    repeat'(first|refine gD ?_|(conv=>whnf);first|with_reducible (first|refine CA (aa l) ?_|refine CA (aa c) ?_|refine Bf.D (λa=>?_) (λa=>?_))|refine C6 (aG _ 0 _) ?_)
    all_goals first
     | exact T0 (λz=>[B z]) ((oA j (by unfold gl;rw[dU c (by unfold mb;exact Q0 ω)];rfl)).symm)
     | ((conv=>whnf);refine CB (k+1) ⟨ω,cv c t (by unfold mb;exact O0 ω)⟩ ω ?_;(exact wB))
   ·have F:=gk ω t
    repeat'(first|refine gD ?_|(conv=>whnf);first|with_reducible refine CA (aa l) ?_)
    (conv=>whnf)
    refine CD (ι:=Nat) (λb=>[(1,.hold .box (aJ.enc .imm m)),(3,.hold .one [I (m.Buffers.length)]),(4,.hold .one [I (br m i)]),(5,.hold .one [I ((i:Nat):Int)]),(8,.hold .one [I ((b:Nat):Int)])]) (λb=>b<=(nth m.Inbox i).length/\((nth m.Inbox i).take b).all LT=true) (λb=>(nth m.Inbox i).length - b) (0) ?_ (⟨R0 _,rfl⟩) λb e=>?_
    ·exact wB
    obtain⟨e,ak2⟩:=e;by_cases lk2:b<(nth m.Inbox i).length
    ·have c:=ah lk2
     repeat'(first|refine gD ?_|(conv=>whnf);first|with_reducible (first|refine CA (aa q) ?_|refine CA (aa c) ?_|refine Bf.D (λa=>?_) (λa=>?_)))
     all_goals first
      | exact T0 (λz=>[B z]) ((oA j (by unfold gl;rw[dU c (by unfold LT;exact Q0 ω)];simp)).symm)
      | ((conv=>whnf);refine CB (b+1) ⟨ω,cv c ak2 (by unfold LT;exact O0 ω)⟩ ω ?_;(exact wB))
    ·have ae2:=gk ω ak2
     have g:br m (i+1)=br m i+((nth m.Buffers i).length+(nth m.Inbox i).length):=rfl;have d:br m (i+1)=br m i+(nth m.Buffers i).length+(nth m.Inbox i).length:=by rw[g];omega
     repeat'(first|refine gD ?_|(conv=>whnf);first|with_reducible (first|refine CA (aa l) ?_|refine CA (aa q) ?_))
     ((conv=>whnf);refine CB (i+1) ⟨ω,bL p (by unfold gl;rw[F,ae2];rfl),ω,ω⟩ ω ?_)
     rw[d];exact wB
  ·obtain rfl:i=m.Buffers.length:=ω
   repeat'(first|refine gD ?_|fail)
   exact T0 (λz=>[B z]) ((uW n p).symm)
 ·refine fO 92 [(19,15,[75,76,77,78,79,80,81,82,83,84,85,86,87,88,89])] Tryz.func206 rfl ?_
  repeat'(first|refine gO ?_|(conv=>whnf);first|with_reducible (first|refine Bf.D (λa=>?_) (λa=>?_)|refine Bf.N (λa=>?_) (λa=>?_))|refine C6 (aG _ 1 4) ?_)
  all_goals first
   | exact T0 (λz=>[B z]) ((v7 n).symm)
   |(exfalso;omega)
theorem tc(m:aJ)(g:aJ.sml m):ao Tryz.prog 70 false [.val (some 2) (aJ.enc .imm m)] .one [B (bz m)]:=by
 have t:m.Buffers.length<=1048576:=g.1.1;have u:m.Inbox.length<=1048576:=g.2.1;by_cases n:1<=m.Buffers.length/\m.Buffers.length<=4/\m.Inbox.length=m.Buffers.length
 ·refine fO 82 [(20,15,[64,65,66,67,68,69,70,71,72,73,74,75,76,77,78])] Tryz.func70 rfl ?_
  repeat'(first|refine gA ?_|(conv=>whnf);first|with_reducible (first|refine Bf.D (λa=>?_) (λa=>?_)|refine Bf.N (λa=>?_) (λa=>?_))|refine C6 (aM _ 1 4) ?_)
  (conv=>whnf)
  refine CD (ι:=Nat) (λi=>[(1,.hold .box (aJ.enc .imm m)),(3,.hold .one [I (m.Buffers.length)]),(4,.hold .one [I (br m i)]),(25,.hold .one [I (m.Buffers.length)]),(26,.hold .one [I ((i:Nat):Int)])]) (λi=>i<=m.Buffers.length/\cE i (gl m)=true/\0<=br m i/\br m i<=2097152*i) (λi=>m.Buffers.length - i) (0) ?_ (⟨R0 _,rfl,by simp[br],by simp[br]⟩) λi o=>?_
  ·exact wB
  obtain⟨o,p,F,G⟩:=o;by_cases h:i<m.Buffers.length
  ·have j:=ah h
   have l:=ah (xs:=m.Inbox) (i:=i) ω;have w:(nth m.Buffers i).length<=1048576:=(g.1.2 _ (am h)).1;have y:(nth m.Inbox i).length<=1048576:=g.2.2 _ (am ω)
   repeat'(first|refine gD ?_|(conv=>whnf);first|with_reducible refine CA (aa j) ?_)
   (conv=>whnf)
   refine CD (ι:=Nat) (λk=>[(1,.hold .box (aJ.enc .imm m)),(3,.hold .one [I (m.Buffers.length)]),(4,.hold .one [I (br m i)]),(5,.hold .one [I ((i:Nat):Int)]),(25,.hold .one [I (m.Buffers.length)]),(26,.hold .one [I ((i:Nat):Int)]),(33,.hold .one (cM .imm (nth m.Buffers i))),(34,.hold .one [I ((nth m.Buffers i).length)]),(35,.hold .one [I ((k:Nat):Int)])]) (λk=>k<=(nth m.Buffers i).length/\((nth m.Buffers i).take k).all (mb m.Buffers.length)=true) (λk=>(nth m.Buffers i).length - k) (0) ?_ (⟨R0 _,rfl⟩) λk q=>?_
   ·exact wB
   obtain⟨q,r⟩:=q;by_cases C:k<(nth m.Buffers i).length
   ·have c:=ah C
    repeat'(first|refine gD ?_|(conv=>whnf);first|with_reducible (first|refine CA (aa j) ?_|refine CA (aa c) ?_|refine Bf.D (λa=>?_) (λa=>?_))|refine C6 (aM _ 0 _) ?_)
    all_goals first
     | exact T0 (λz=>[B z]) ((oA h (by unfold gl;rw[dU c (by unfold mb;exact Q0 ω)];rfl)).symm)
     | ((conv=>whnf);refine CB (k+1) ⟨ω,cv c r (by unfold mb;exact O0 ω)⟩ ω ?_;(exact wB))
   ·have E:=gk ω r
    repeat'(first|refine gD ?_|(conv=>whnf);first|with_reducible (first|refine CA (aa j) ?_|refine CA (aa l) ?_))
    (conv=>whnf)
    refine CD (ι:=Nat) (λb=>[(1,.hold .box (aJ.enc .imm m)),(3,.hold .one [I (m.Buffers.length)]),(4,.hold .one [I (br m i)]),(5,.hold .one [I ((i:Nat):Int)]),(25,.hold .one [I (m.Buffers.length)]),(26,.hold .one [I ((i:Nat):Int)]),(55,.hold .one (aD .imm (nth m.Inbox i))),(56,.hold .one [I ((nth m.Inbox i).length)]),(57,.hold .one [I ((b:Nat):Int)])]) (λb=>b<=(nth m.Inbox i).length/\((nth m.Inbox i).take b).all LT=true) (λb=>(nth m.Inbox i).length - b) (0) ?_ (⟨R0 _,rfl⟩) λb d=>?_
    ·exact wB
    obtain⟨d,ak2⟩:=d;by_cases lk2:b<(nth m.Inbox i).length
    ·have c:=ah lk2
     repeat'(first|refine gD ?_|(conv=>whnf);first|with_reducible (first|refine CA (aa l) ?_|refine CA (aa c) ?_|refine Bf.D (λa=>?_) (λa=>?_)))
     all_goals first
      | exact T0 (λz=>[B z]) ((oA h (by unfold gl;rw[dU c (by unfold LT;exact Q0 ω)];simp)).symm)
      | ((conv=>whnf);refine CB (b+1) ⟨ω,cv c ak2 (by unfold LT;exact O0 ω)⟩ ω ?_;(exact wB))
    ·have ae2:=gk ω ak2
     have e:br m (i+1)=br m i+((nth m.Buffers i).length+(nth m.Inbox i).length):=rfl
     repeat'(first|refine gD ?_|(conv=>whnf);first|with_reducible (first|refine CA (aa j) ?_|refine CA (aa l) ?_))
     ((conv=>whnf);refine CB (i+1) ⟨ω,bL p (by unfold gl;rw[E,ae2];rfl),ω,ω⟩ ω ?_)
     rw[e];exact wB
  ·obtain rfl:i=m.Buffers.length:=ω
   repeat'(first|refine gD ?_|fail)
   exact T0 (λz=>[B z]) ((uW n p).symm)
 ·refine fO 82 [(20,15,[64,65,66,67,68,69,70,71,72,73,74,75,76,77,78])] Tryz.func70 rfl ?_
  repeat'(first|refine gO ?_|(conv=>whnf);first|with_reducible (first|refine Bf.D (λa=>?_) (λa=>?_)|refine Bf.N (λa=>?_) (λa=>?_))|refine C6 (aM _ 1 4) ?_)
  all_goals first
   | exact T0 (λz=>[B z]) ((v7 n).symm)
   |(exfalso;omega)
theorem xQ{s:au}{a:Int}(h:ca s a=false):S2 (gY s a)=[I (-1),I (-1)]:=by
 unfold gY;rw[h];rfl
theorem vY{s:au}{a:Int}(h:ca s a=true):S2 (gY s a)=[I ((a - 16*s.Page) / csz s.Class),I ((a - 16*s.Page) % csz s.Class)]:=by
 unfold gY;rw[h];rfl
theorem qC{s:au}{a:Int}(h:ca s a=true):aX s=true/\0<=(a - 16*s.Page) / csz s.Class/\(a - 16*s.Page) / csz s.Class<=15:=by
 unfold ca at h;simp only[I0,C0]at h;have b:=aE h.1;refine⟨h.1,?_⟩;rcases bO ⟨b.2.2.1,b.2.2.2⟩ with e|e|e|e<;>rw[e]<;>omega
theorem ma{sp:List au}{la:List a8}{a:Int}{i:Nat}(b:i<sp.length)(h:ca (nth sp i) a=true)(c:∀(j:Nat)(z:au),j<i->sp[j]? = some z->ca z a=false):denotes sp la a=mX i (nth sp i) a:=by
 unfold denotes;rw[u5 (pr:=(ca · a)) (ah b) h c]
theorem kN{sp:List au}{la:List a8}{a:Int}{i n:Nat}(b:sp.length<=n)(c:∀(j:Nat)(z:au),j<n->sp[j]? = some z->ca z a=false)(d:i<la.length)(h:bk (nth la i) a=true)(e:∀(j:Nat)(z:a8),j<i->la[j]? = some z->bk z a=false) :
  denotes sp la a = ⟨3,i,0,a - 16*(nth la i).Page⟩:=by
 unfold denotes;rw[wg (pr:=(ca · a)) b c,u5 (pr:=(bk · a)) (ah d) h e]
theorem vF{sp:List au}{la:List a8}{a:Int}{n k:Nat}(b:sp.length<=n)(c:∀(j:Nat)(z:au),j<n->sp[j]? = some z->ca z a=false)(d:la.length<=k)(e:∀(j:Nat)(z:a8),j<k->la[j]? = some z->bk z a=false):denotes sp la a = ⟨0,0,0,0⟩:=by
 unfold denotes;rw[wg (pr:=(ca · a)) b c,wg (pr:=(bk · a)) d e]
theorem lU(sp:List au)(la:List a8)(a:Int)(e:du sp)(g:dr la)(h:bc sp la=true)(C:lP a):ao Tryz.prog 275 false [.val none (bX .imm sp),.val none (bS .imm la),.val none [I a]] .agg (iG.enc .own (denotes sp la a)):=by
 have E:=e.1;have F:=g.1;have q:=kP sp la e g;rw[h]at q;refine fO 67 [] Tryz.func275 rfl ?_ (.inr (iG.enc_fr _))
 repeat'(first|refine gO ?_|(conv=>whnf);first|refine C6 q ?_)
 (conv=>whnf)
 refine CD (ι:=Nat) (λi=>[(0,.hold .one (bX .imm sp)),(1,.hold .one (bS .imm la)),(2,.hold .one [I (a)]),(6,.hold .box ([I 0,I 0,I 0,I 0])),(7,.hold .one [I ((i:Nat):Int)])]) (λi=>i<=sp.length/\∀(j:Nat)(z:au),j<i->sp[j]? = some z->ca z a=false) (λi=>sp.length - i) (0) ?_ (⟨R0 _,λj z G=>ω⟩) λi r=>?_
 ·exact wB
 obtain⟨r,l⟩:=r;by_cases t:i<sp.length
 ·have d:=ah t
  have c:=tg (nth sp i) a C;cases b:ca (nth sp i) a with
  | false=>
   rw[xQ b]at c
   repeat'(first|refine gD ?_|(conv=>whnf);first|with_reducible (first|refine CA (aa d) ?_|refine Bf.D (λo=>?_) (λo=>?_))|refine C6 c ?_)
   ((conv=>whnf);refine CB (i+1) ⟨ω,cV (pr:=(ca · a)) d b l⟩ ω ?_;(exact wB))
  | true=>
   rw[vY b]at c;obtain⟨H,J,K⟩:=qC b;have u:=gi (nth sp i).Bits ((a - 16*(nth sp i).Page) / csz (nth sp i).Class) (dL H).2;cases w:aS (nth sp i).Bits ((a - 16*(nth sp i).Page) / csz (nth sp i).Class)<;>rw[w]at u
   all_goals
    repeat'(first|refine gD ?_|(conv=>whnf);first|with_reducible (first|refine CA (aa d) ?_|refine Bf.D (λo=>?_) (λo=>?_))|refine C6 c ?_|refine C6 u ?_)
    all_goals(rw[ma t b l];unfold mX;rw[w];rfl)
 ·repeat'(first|refine gD ?_|fail)
  (conv=>whnf)
  refine CD (ι:=Nat) (λk=>[(1,.hold .one (bS .imm la)),(2,.hold .one [I (a)]),(6,.hold .box ([I 0,I 0,I 0,I 0])),(11,.hold .one [I ((k:Nat):Int)])]) (λk=>k<=la.length/\∀(j:Nat)(z:a8),j<k->la[j]? = some z->bk z a=false) (λk=>la.length - k) (0) ?_ (⟨R0 _,λj z G=>ω⟩) λk y=>?_
  ·exact wB
  obtain⟨y,p⟩:=y;by_cases B:k<la.length
  ·have d:=ah B
   have c:=pu (nth la k) a;cases b:bk (nth la k) a<;>rw[b]at c
   ·repeat'(first|refine gD ?_|(conv=>whnf);first|with_reducible refine CA (aa d) ?_|refine C6 c ?_)
    ((conv=>whnf);refine CB (k+1) ⟨ω,cV (pr:=(bk · a)) d b p⟩ ω ?_;(exact wB))
   ·repeat'(first|refine gD ?_|(conv=>whnf);first|with_reducible refine CA (aa d) ?_|refine C6 c ?_|refine C6 (sK (nth la k) a b) ?_)
    rw[kN (n:=i) ω l B b p];rfl
  ·repeat'(first|refine gD ?_|fail)
   rw[vF (n:=i) (k:=k) ω l ω p];rfl
theorem lR(sp:List au)(la:List a8)(a:Int)(g:du sp)(h:dr la):ao Tryz.prog 91 false [.val none (bX .imm sp),.val none (bS .imm la),.val none [I a]] .agg (iG.enc .own (denotes sp la a)):=by
 have y:=g.1;have B:=h.1;refine fO 56 [] Tryz.func91 rfl ?_ (.inr (iG.enc_fr _))
 repeat'(first|refine gO ?_|fail)
 (conv=>whnf)
 refine CD (ι:=Nat) (λi=>[(1,.hold .one (bS .imm la)),(2,.hold .one [I (a)]),(6,.hold .box ([I 0,I 0,I 0,I 0])),(14,.hold .one (bX .imm sp)),(15,.hold .one [I (sp.length)]),(16,.hold .one [I ((i:Nat):Int)])]) (λi=>i<=sp.length/\∀(j:Nat)(z:au),j<i->sp[j]? = some z->ca z a=false) (λi=>sp.length - i) (0) ?_ (⟨R0 _,λj z C=>ω⟩) λi p=>?_
 ·exact wB
 obtain⟨p,e⟩:=p;by_cases q:i<sp.length
 ·have d:=ah q
  have c:=De (nth sp i) a;cases b:ca (nth sp i) a with
  | false=>
   rw[xQ b]at c
   repeat'(first|refine gD ?_|(conv=>whnf);first|with_reducible (first|refine CA (aa d) ?_|refine Bf.D (λl=>?_) (λl=>?_))|refine C6 c ?_)
   ((conv=>whnf);refine CB (i+1) ⟨ω,cV (pr:=(ca · a)) d b e⟩ ω ?_;(exact wB))
  | true=>
   rw[vY b]at c;obtain⟨E,F,G⟩:=qC b;have r:=m7 (nth sp i).Bits ((a - 16*(nth sp i).Page) / csz (nth sp i).Class) (dL E).2;cases t:aS (nth sp i).Bits ((a - 16*(nth sp i).Page) / csz (nth sp i).Class)<;>rw[t]at r
   all_goals
    repeat'(first|refine gD ?_|(conv=>whnf);first|with_reducible (first|refine CA (aa d) ?_|refine Bf.D (λl=>?_) (λl=>?_))|refine C6 c ?_|refine C6 r ?_)
    all_goals(rw[ma q b e];unfold mX;rw[t];rfl)
 ·repeat'(first|refine gD ?_|fail)
  (conv=>whnf)
  refine CD (ι:=Nat) (λk=>[(2,.hold .one [I (a)]),(6,.hold .box ([I 0,I 0,I 0,I 0])),(39,.hold .one (bS .imm la)),(40,.hold .one [I (la.length)]),(41,.hold .one [I ((k:Nat):Int)])]) (λk=>k<=la.length/\∀(j:Nat)(z:a8),j<k->la[j]? = some z->bk z a=false) (λk=>la.length - k) (0) ?_ (⟨R0 _,λj z C=>ω⟩) λk u=>?_
  ·exact wB
  obtain⟨u,o⟩:=u;by_cases w:k<la.length
  ·have d:=ah w
   have c:=p7 (nth la k) a;cases b:bk (nth la k) a<;>rw[b]at c
   ·repeat'(first|refine gD ?_|(conv=>whnf);first|with_reducible refine CA (aa d) ?_|refine C6 c ?_)
    ((conv=>whnf);refine CB (k+1) ⟨ω,cV (pr:=(bk · a)) d b o⟩ ω ?_;(exact wB))
   ·repeat'(first|refine gD ?_|(conv=>whnf);first|with_reducible refine CA (aa d) ?_|refine C6 c ?_|refine C6 (rD (nth la k) a b) ?_)
    rw[kN (n:=i) ω e w b o];rfl
  ·repeat'(first|refine gD ?_|fail)
   rw[vF (n:=i) (k:=k) ω e ω o];rfl
section
variable{α:Type}
def oQ(ag:Option Nat)(e:α->List C)(pr:α->Bool)(xs:List α):List (Option Nat × List C)->Kd->List C->Prop:=λL k rcs=>∃x,x∈xs/\L=[(ag,e x)]/\k=.one/\rcs=[B (pr x)]
end
theorem ul(xs:List aA)(pr:aA->Bool)(n:xs.length<=9223372036854775807):ao Tryz.prog 311 false [.val none (bI .imm xs),.fn (ll Tryz.prog (oQ (some 2) (aA.enc .imm) pr xs))] .one [I (cy pr xs)]:=by
 refine fO 19 [] Tryz.func311 rfl ?_
 repeat'(first|refine gO ?_|fail)
 (conv=>whnf)
 refine CD (ι:=Nat) (λi=>[(0,.hold .one (bI .imm xs)),(1,.fv (ll Tryz.prog (oQ (some 2) (aA.enc .imm) pr xs))),(7,.hold .one [I xs.length]),(8,.hold .one [I (i:Nat)])]) (λi=>i<=xs.length/\∀(j:Nat)(z:aA),j<i->xs[j]? = some z->pr z=false) (λi=>xs.length - i) 0 ?_ ⟨R0 _,λj z h=>ω⟩ λi e=>?_
 ·exact wB
 ·obtain⟨e,b⟩:=e
  by_cases c:i<xs.length
  ·obtain⟨y,a⟩ : ∃y,xs[i]? = some y:=⟨_,U1 c⟩
   repeat'(first|refine gD ?_|(conv=>whnf);first|with_reducible refine CA (aa a) ?_|refine Fv.mk (k:=.one) (rcs:=[B (pr y)]) ⟨y,Q1 a,rfl,rfl,rfl⟩ ?_|refine Bf.P (λl=>?_) (λl=>?_))
   ·exact T0 (λz=>[I z]) (d6 a ‹_› b).symm
   ·(conv=>whnf)
    refine CB (i+1) ⟨ω,λj z h d=>?_⟩ ω ?_
    ·rcases Nat.lt_or_ge j i with g|g
     ·exact b j z g d
     ·obtain rfl:j=i:=ω
      rw[a]at d;cases d;assumption
    ·exact wB
  ·repeat'(first|refine gD ?_|fail)
   exact T0 (λz=>[I z]) (eH ω b).symm
theorem pA(xs:List aA)(pr:aA->Bool)(a:xs.length<=9223372036854775807):ao Tryz.prog 245 false [.val none (bI .imm xs),.fn (ll Tryz.prog (oQ (some 2) (aA.enc .imm) pr xs))] .one [B (xs.any pr)]:=by
 refine fO 9 [] Tryz.func245 rfl ?_
 repeat'(first|refine gO ?_|(conv=>whnf);first|refine C6 (ul xs pr a) ?_)
 exact T0 (λz=>[B z]) (f7 pr xs)
theorem sZ(r:aA)(page:Int):ao Tryz.prog 246 false [.val (some 2) (aA.enc .imm r),.ptr [I page]] .one [B (pF page r)]:=by
 refine fO 17 [] Tryz.func246 rfl ?_
 repeat'(first|refine gO ?_|(conv=>whnf);first|with_reducible refine Bf.D (λa=>?_) (λa=>?_)|refine CJ rfl ?_)
 all_goals exact T0 (λz=>[B z]) (by unfold pF;first|(rw[O0 (by assumption:r.At<=page)];simp;done)|(rw[Q0 (by assumption:¬r.At<=page)];rfl))
theorem xM(xs:List aA)(page:Int)(a:xs.length<=9223372036854775807):ao Tryz.prog 164 false [.val none (bI .imm xs),.val none [I page]] .one [B (xs.any (pF page))]:=by
 refine fO 8 [] Tryz.func164 rfl ?_
 repeat'(first|refine gO ?_|(conv=>whnf);first|refine Cq.mk (oQ (some 2) (aA.enc .imm) (pF page) xs) (sZ default page).has (λL k rcs b=>?_) ?_|refine C6 (pA xs (pF page) a) ?_)
 ·obtain⟨x,-,rfl,rfl,rfl⟩:=b
  exact sZ x page
 ·rfl
theorem un(xs:List aL)(pr:aL->Bool)(g:xs.length<=9223372036854775807):ao Tryz.prog 323 false [.val none (cA .imm xs),.fn (ll Tryz.prog (oQ (some 3) (aL.enc .imm) pr xs))] .one [I (cy pr xs)]:=by
 refine fO 19 [] Tryz.func323 rfl ?_
 repeat'(first|refine gO ?_|fail)
 (conv=>whnf)
 refine CD (ι:=Nat) (λi=>[(0,.hold .one (cA .imm xs)),(1,.fv (ll Tryz.prog (oQ (some 3) (aL.enc .imm) pr xs))),(7,.hold .one [I xs.length]),(8,.hold .one [I (i:Nat)])]) (λi=>i<=xs.length/\∀(j:Nat)(z:aL),j<i->xs[j]? = some z->pr z=false) (λi=>xs.length - i) 0 ?_ ⟨R0 _,λj z h=>ω⟩ λi d=>?_
 ·exact wB
 ·obtain⟨d,b⟩:=d
  by_cases c:i<xs.length
  ·obtain⟨y,a⟩ : ∃y,xs[i]? = some y:=⟨_,U1 c⟩
   repeat'(first|refine gD ?_|(conv=>whnf);first|with_reducible refine CA (aa a) ?_|refine Fv.mk (k:=.one) (rcs:=[B (pr y)]) ⟨y,Q1 a,rfl,rfl,rfl⟩ ?_|refine Bf.P (λe=>?_) (λe=>?_))
   ·exact T0 (λz=>[I z]) (d6 a ‹_› b).symm
   ·(conv=>whnf)
    refine CB (i+1) ⟨ω,cV a (by assumption) b⟩ ω ?_;exact wB
  ·repeat'(first|refine gD ?_|fail)
   exact T0 (λz=>[I z]) (eH ω b).symm
theorem qi(xs:List aL)(pr:aL->Bool)(a:xs.length<=9223372036854775807):ao Tryz.prog 252 false [.val none (cA .imm xs),.fn (ll Tryz.prog (oQ (some 3) (aL.enc .imm) pr xs))] .one [B (xs.any pr)]:=by
 refine fO 9 [] Tryz.func252 rfl ?_
 repeat'(first|refine gO ?_|(conv=>whnf);first|refine C6 (un xs pr a) ?_)
 exact T0 (λz=>[B z]) (f7 pr xs)
theorem wn(xs:List au)(pr:au->Bool)(g:xs.length<=9223372036854775807):ao Tryz.prog 99 false [.val none (bX .imm xs),.fn (ll Tryz.prog (oQ (some 3) (au.enc .imm) pr xs))] .one [I (cy pr xs)]:=by
 refine fO 19 [] Tryz.func99 rfl ?_
 repeat'(first|refine gO ?_|fail)
 (conv=>whnf)
 refine CD (ι:=Nat) (λi=>[(0,.hold .one (bX .imm xs)),(1,.fv (ll Tryz.prog (oQ (some 3) (au.enc .imm) pr xs))),(7,.hold .one [I xs.length]),(8,.hold .one [I (i:Nat)])]) (λi=>i<=xs.length/\∀(j:Nat)(z:au),j<i->xs[j]? = some z->pr z=false) (λi=>xs.length - i) 0 ?_ ⟨R0 _,λj z h=>ω⟩ λi d=>?_
 ·exact wB
 ·obtain⟨d,b⟩:=d
  by_cases c:i<xs.length
  ·obtain⟨y,a⟩ : ∃y,xs[i]? = some y:=⟨_,U1 c⟩
   repeat'(first|refine gD ?_|(conv=>whnf);first|with_reducible refine CA (aa a) ?_|refine Fv.mk (k:=.one) (rcs:=[B (pr y)]) ⟨y,Q1 a,rfl,rfl,rfl⟩ ?_|refine Bf.P (λe=>?_) (λe=>?_))
   ·exact T0 (λz=>[I z]) (d6 a ‹_› b).symm
   ·(conv=>whnf)
    refine CB (i+1) ⟨ω,cV a (by assumption) b⟩ ω ?_;exact wB
  ·repeat'(first|refine gD ?_|fail)
   exact T0 (λz=>[I z]) (eH ω b).symm
theorem pp(xs:List bB)(pr:bB->Bool)(g:xs.length<=9223372036854775807):ao Tryz.prog 101 false [.val none (mN .imm xs),.fn (ll Tryz.prog (oQ (some 4) (bB.enc .imm) pr xs))] .one [I (cy pr xs)]:=by
 refine fO 19 [] Tryz.func101 rfl ?_
 repeat'(first|refine gO ?_|fail)
 (conv=>whnf)
 refine CD (ι:=Nat) (λi=>[(0,.hold .one (mN .imm xs)),(1,.fv (ll Tryz.prog (oQ (some 4) (bB.enc .imm) pr xs))),(7,.hold .one [I xs.length]),(8,.hold .one [I (i:Nat)])]) (λi=>i<=xs.length/\∀(j:Nat)(z:bB),j<i->xs[j]? = some z->pr z=false) (λi=>xs.length - i) 0 ?_ ⟨R0 _,λj z h=>ω⟩ λi d=>?_
 ·exact wB
 ·obtain⟨d,b⟩:=d
  by_cases c:i<xs.length
  ·obtain⟨y,a⟩ : ∃y,xs[i]? = some y:=⟨_,U1 c⟩
   repeat'(first|refine gD ?_|(conv=>whnf);first|with_reducible refine CA (aa a) ?_|refine Fv.mk (k:=.one) (rcs:=[B (pr y)]) ⟨y,Q1 a,rfl,rfl,rfl⟩ ?_|refine Bf.P (λe=>?_) (λe=>?_))
   ·exact T0 (λz=>[I z]) (d6 a ‹_› b).symm
   ·(conv=>whnf)
    refine CB (i+1) ⟨ω,cV a (by assumption) b⟩ ω ?_;exact wB
  ·repeat'(first|refine gD ?_|fail)
   exact T0 (λz=>[I z]) (eH ω b).symm
theorem rS(xs:List bB)(pr:bB->Bool)(a:xs.length<=9223372036854775807):ao Tryz.prog 168 false [.val none (mN .imm xs),.fn (ll Tryz.prog (oQ (some 4) (bB.enc .imm) pr xs))] .one [B (xs.any pr)]:=by
 refine fO 9 [] Tryz.func168 rfl ?_
 repeat'(first|refine gO ?_|(conv=>whnf);first|refine C6 (pp xs pr a) ?_)
 exact T0 (λz=>[B z]) (f7 pr xs)
theorem LQ{k:Nat}(a:k<=3):IntKind.i64.wrap (1*2 ^ min ((k:Nat):Int).toNat IntKind.i64.bits)=csz (k:Nat):=by
 obtain rfl|rfl|rfl|rfl:k=0\/k=1\/k=2\/k=3:=ω
 all_goals decide
theorem M3{k:Nat}(a:k<=100):IntKind.u64.wrap (k:Nat)=(k:Nat):=by
 unfold IntKind.wrap;simp[IntKind.signed,IntKind.bits];omega
theorem yZ{k:Nat}{z:Int}(a:k<=3)(h:csz (k:Nat)<z)(b:z<=8):k<=2:=by
 have c:csz ((3:Nat):Int)=8:=by decide
 obtain rfl|rfl|rfl|rfl:k=0\/k=1\/k=2\/k=3:=ω
 all_goals omega
theorem uF{k:Nat}{z:Int}(g:k<=3)(h1:1<=z)(a:k=0\/csz ((k - 1:Nat):Int)<z)(b:¬csz (k:Nat)<z):aK z=(k:Nat):=by
 have c:csz ((0:Nat):Int)=1:=by decide
 have d:csz ((1:Nat):Int)=2:=by decide
 have e:csz ((2:Nat):Int)=4:=by decide
 have f:csz ((3:Nat):Int)=8:=by decide
 unfold aK;obtain rfl|rfl|rfl|rfl:k=0\/k=1\/k=2\/k=3:=ω
 all_goals simp only[Nat.reduceSub,c,d,e,f]at a b
 all_goals(repeat' split)<;>omega
theorem j8(z:Int):ao Tryz.prog 233 false [.val none [I z]] .one [I (aK z)]:=by
 refine fO 15 [] Tryz.func233 rfl ?_;by_cases c:1<=z/\z<=8
 ·repeat'(first|refine gD ?_|(conv=>whnf);first|with_reducible refine Bf.D (λb=>?_) (λb=>?_)|refine C6 (aG z 1 8) ?_)
  (conv=>whnf)
  refine CD (ι:=Nat) (λk=>[(0,.hold .one [I (z)]),(3,.hold .one [I ((k:Nat):Int)])]) (λk=>k<=3/\(k=0\/csz ((k - 1:Nat):Int)<z)) (λk=>4 - k) (0) ?_ (⟨ω,.inl rfl⟩) λk a=>?_
  ·exact wB
  obtain⟨a,d⟩:=a
  repeat'(first|refine gO ?_|(conv=>whnf);first|with_reducible refine Bf.D (λb=>?_) (λb=>?_)|refine CJ (M3 ω) ?_|refine CJ (LQ a) ?_|refine CL ω ?_)
  all_goals first
   | exact T0 (λz=>[I z]) (uF a c.1 d (by assumption)).symm
   | ((conv=>whnf);refine CB (k+1) ⟨by have:=yZ a (by assumption) c.2;omega,.inr (by simpa using (by assumption:csz (k:Nat)<z))⟩ (by have:=yZ a (by assumption) c.2;omega) ?_;(exact wB))
 ·repeat'(first|refine gD ?_|(conv=>whnf);first|with_reducible refine Bf.D (λb=>?_) (λb=>?_)|refine C6 (aG z 1 8) ?_)
  all_goals exact T0 (λz=>[I z]) (by unfold aK;(repeat' split)<;>omega)
theorem mG(z:Int):ao Tryz.prog 88 false [.val none [I z]] .one [I (aK z)]:=by
 refine fO 14 [] Tryz.func88 rfl ?_;by_cases c:1<=z/\z<=8
 ·repeat'(first|refine gD ?_|(conv=>whnf);first|with_reducible refine Bf.D (λa=>?_) (λa=>?_)|refine C6 (aM z 1 8) ?_)
  (conv=>whnf)
  refine CD (ι:=Nat) (λk=>[(0,.hold .one [I (z)]),(3,.hold .one [I ((k:Nat):Int)])]) (λk=>k<=3/\(k=0\/csz ((k - 1:Nat):Int)<z)) (λk=>4 - k) (0) ?_ (⟨ω,.inl rfl⟩) λk b=>?_
  ·exact wB
  obtain⟨b,d⟩:=b
  repeat'(first|refine gO ?_|(conv=>whnf);first|with_reducible refine Bf.D (λa=>?_) (λa=>?_)|refine C6 (cm _) ?_)
  all_goals first
   | exact T0 (λz=>[I z]) (uF b c.1 d (by assumption)).symm
   | ((conv=>whnf);refine CB (k+1) ⟨by have:=yZ b (by assumption) c.2;omega,.inr (by simpa using (by assumption:csz (k:Nat)<z))⟩ (by have:=yZ b (by assumption) c.2;omega) ?_;(exact wB))
 ·repeat'(first|refine gD ?_|(conv=>whnf);first|with_reducible refine Bf.D (λa=>?_) (λa=>?_)|refine C6 (aM z 1 8) ?_)
  all_goals exact T0 (λz=>[I z]) (by unfold aK;(repeat' split)<;>omega)
theorem qm(q:bE)(a:Int)(e:bE.sml q):ao Tryz.prog 272 false [.val (some 2) (bE.enc .imm q),.val none [I a]] .one [B (q.Lst.any (cB a))]:=by
 have j:q.Lst.length<=1048576:=e.1;refine fO 21 [] Tryz.func272 rfl ?_
 repeat'(first|refine gO ?_|fail)
 (conv=>whnf)
 refine CD (ι:=Nat) (λi=>[(1,.hold .one [I (a)]),(2,.hold .box (bE.enc .imm q)),(5,.hold .one [I ((i:Nat):Int)])]) (λi=>i<=q.Lst.length/\(q.Lst.take i).any (cB a)=false) (λi=>q.Lst.length - i) (0) ?_ (⟨R0 _,rfl⟩) λi c=>?_
 ·exact wB
 obtain⟨c,d⟩:=c;by_cases g:i<q.Lst.length
 ·have b:=ah g
  repeat'(first|refine gD ?_|(conv=>whnf);first|with_reducible (first|refine CA (aa b) ?_|refine Bf.E (λh=>?_) (λh=>?_)))
  all_goals first
   | exact T0 (λz=>[B z]) ((zS b (O0 (by assumption))).symm)
   | ((conv=>whnf);refine CB (i+1) ⟨ω,vK b d (Q0 (by assumption))⟩ ω ?_;(exact wB))
 ·repeat'(first|refine gD ?_|fail)
  exact T0 (λz=>[B z]) ((FR ω d).symm)
theorem ic(xs:List aL)(i:Nat):quarCells xs (i+1)=quarCells xs i+csz (nth xs i).Class:=rfl
theorem rH(k:Int):0<=csz k/\csz k<=8:=by
 by_cases h:0<=k/\k<=3
 ·rcases bO h with e|e|e|e<;>rw[e]<;>decide
 ·unfold csz;rw[C7 h];decide
theorem t6(xs:List aL)(c:km xs):ao Tryz.prog 273 false [.val none (cA .imm xs)] .one [I (quarCells xs xs.length)]:=by
 have g:=c.1;refine fO 20 [] Tryz.func273 rfl ?_
 repeat'(first|refine gO ?_|fail)
 (conv=>whnf)
 refine CD (ι:=Nat) (λi=>[(0,.hold .one (cA .imm xs)),(3,.hold .one [I (quarCells xs i)]),(4,.hold .one [I ((i:Nat):Int)])]) (λi=>i<=xs.length/\0<=quarCells xs i/\quarCells xs i<=8*i) (λi=>xs.length - i) (0) ?_ (⟨R0 _,by simp[quarCells],by simp[quarCells]⟩) λi b=>?_
 ·exact wB
 obtain⟨b,h,j⟩:=b;by_cases d:i<xs.length
 ·have e:=ah d
  have k:=rH (nth xs i).Class;have a:=ic xs i
  repeat'(first|refine gD ?_|(conv=>whnf);first|with_reducible refine CA (aa e) ?_|refine C6 (cX _) ?_)
  ((conv=>whnf);refine CB (i+1) ⟨ω,ω,ω⟩ ω ?_)
  rw[a];exact wB
 ·repeat'(first|refine gD ?_|fail)
  obtain rfl:i=xs.length:=ω
  rfl
theorem nX(xs:List aL)(c:km xs):ao Tryz.prog 87 false [.val none (cA .imm xs)] .one [I (quarCells xs xs.length)]:=by
 have g:=c.1;refine fO 19 [] Tryz.func87 rfl ?_
 repeat'(first|refine gO ?_|fail)
 (conv=>whnf)
 refine CD (ι:=Nat) (λi=>[(3,.hold .one [I (quarCells xs i)]),(6,.hold .one (cA .imm xs)),(7,.hold .one [I (xs.length)]),(8,.hold .one [I ((i:Nat):Int)])]) (λi=>i<=xs.length/\0<=quarCells xs i/\quarCells xs i<=8*i) (λi=>xs.length - i) (0) ?_ (⟨R0 _,by simp[quarCells],by simp[quarCells]⟩) λi b=>?_
 ·exact wB
 obtain⟨b,h,j⟩:=b;by_cases d:i<xs.length
 ·have e:=ah d
  have k:=rH (nth xs i).Class;have a:=ic xs i
  repeat'(first|refine gD ?_|(conv=>whnf);first|with_reducible refine CA (aa e) ?_|refine C6 (cm _) ?_)
  ((conv=>whnf);refine CB (i+1) ⟨ω,ω,ω⟩ ω ?_)
  rw[a];exact wB
 ·repeat'(first|refine gD ?_|fail)
  obtain rfl:i=xs.length:=ω
  rfl
theorem yK(a:aL):ao Tryz.prog 271 false [.val (some 3) (aL.enc .imm a)] .one [B (decide (0<=a.Class/\a.Class<=3/\0<=a.Addr/\0<=a.Since))]:=by
 refine fO 16 [] Tryz.func271 rfl ?_
 repeat'(first|refine gO ?_|(conv=>whnf);first|with_reducible refine Bf.D (λb=>?_) (λb=>?_)|refine C6 (aG _ 0 3) ?_)
 all_goals exact T0 (λz=>[B z]) ((by first|(symm;exact Q0 ω)|exact decide_eq_decide.2 ω))
theorem KU{xs:List aL}(a:km xs)(i:Nat):km (xs.take i):=⟨by have:=a.1;rw[I1];omega,λ_ _=>trivial⟩
theorem nK(q:bE)(a:bE.sml q):ao Tryz.prog 207 false [.val (some 2) (bE.enc .imm q)] .one [B (eZ q)]:=by
 have l:q.Lst.length<=1048576:=a.1;refine fO 57 [(5,29,[17,18,19,20,21,22,23,24,25,26,27,28,29,30,31,32,33,34,35,36,37,38,39,40,41,42,43,44,45]),(7,11,[46,47,48,49,50,51,52,53,54,55,56])] Tryz.func207 rfl ?_
 repeat'(first|refine gO ?_|fail)
 (conv=>whnf)
 refine CD (ι:=Nat) (λi=>[(1,.hold .box (bE.enc .imm q)),(3,.hold .one [I ((i:Nat):Int)])]) (λi=>i<=q.Lst.length/\cE i (j7 q.Lst)=true) (λi=>q.Lst.length - i) 0 ?_ ⟨R0 _,rfl⟩ λi e=>?_
 ·exact wB
 obtain⟨e,g⟩:=e;by_cases b:i<q.Lst.length
 ·have j:=ah b
  have h:=qm ⟨0,q.Lst.take i⟩ (nth q.Lst i).Addr (KU a i);cases c:(q.Lst.take i).any (cB (nth q.Lst i).Addr)<;>rw[show(bE.mk 0 (q.Lst.take i)).Lst.any (cB (nth q.Lst i).Addr)=_ from c]at h
  all_goals
   repeat'(first|refine gD ?_|(conv=>whnf);first|with_reducible (first|refine CA (aa j) ?_|refine Bf.D (λd=>?_) (λd=>?_))|refine C6 (yK _) ?_|refine CK ω (aa (fD ω b)) ?_|refine CS i rfl (by simp;omega) (λr k=>by obtain⟨z,-,rfl⟩:=T3.1 k;rfl) (Q3 ..) ?_|refine C6 h ?_)
   all_goals first
    | exact T0 (λz=>[B z]) ((by symm;unfold eZ;rw[cg b (by unfold j7;first|(rw[c];simp;done)|(rw[Q0 ω];rfl))];rfl))
    | ((conv=>whnf);refine CB (i+1) ⟨ω,bL g (by unfold j7;rw[c,O0 ω];rfl)⟩ ω ?_;(exact wB))
 ·obtain rfl:i=q.Lst.length:=ω
  repeat'(first|refine gD ?_|(conv=>whnf);first|with_reducible refine Bf.D (λd=>?_) (λd=>?_)|refine C6 (aG _ 0 500) ?_|refine C6 (t6 q.Lst a) ?_)
  all_goals exact T0 (λz=>[B z]) ((by unfold eZ;rw[g];simp only[Bool.true_and];first|(symm;exact Q0 ω)|exact decide_eq_decide.2 ω))
theorem tE(b:aL)(a:Int):ao Tryz.prog 253 false [.val (some 3) (aL.enc .imm b),.ptr [I a]] .one [B (cB a b)]:=by
 refine fO 8 [] Tryz.func253 rfl ?_
 repeat'(first|refine gO ?_|fail)
 exact T0 (λz=>[B z]) ((by unfold cB;rw[Y3];simp))
theorem pq(xs:List aL)(a:Int)(b:xs.length<=9223372036854775807):ao Tryz.prog 179 false [.val none (cA .imm xs),.val none [I a]] .one [B (xs.any (cB a))]:=by
 refine fO 8 [] Tryz.func179 rfl ?_
 repeat'(first|refine gO ?_|(conv=>whnf);first|refine Cq.mk (oQ (some 3) (aL.enc .imm) (cB a) xs) (tE default a).has (λL k rcs c=>?_) ?_|refine C6 (qi xs (cB a) b) ?_)
 ·obtain⟨y,-,rfl,rfl,rfl⟩:=c
  exact tE y a
 ·rfl
def ov(xs:List aL)(a:aL):Bool:=decide (0<=a.Class/\a.Class<=3/\0<=a.Addr/\0<=a.Since/\(xs.length=0\/(nth xs (xs.length - 1)).Since<=a.Since))&&!xs.any (cB a.Addr)
theorem yW(xs:List aL)(b:aL)(g:xs.length<=1048576):ao Tryz.prog 166 false [.val none (cA .imm xs),.val (some 3) (aL.enc .imm b)] .one [B (ov xs b)]:=by
 have c:=pq xs b.Addr ω;cases d:xs.any (cB b.Addr)<;>rw[d]at c
 ·by_cases h:xs.length=0
  ·refine fO 40 [(3,15,[25,26,27,28,29,30,31,32,33,34,35,36,37,38,39])] Tryz.func166 rfl ?_
   repeat'(first|refine gO ?_|(conv=>whnf);first|with_reducible (first|refine Bf.D (λa=>?_) (λa=>?_)|refine Bf.E (λa=>?_) (λa=>?_))|refine C6 (fg _) ?_|refine C6 c ?_)
   all_goals first
    | exact T0 (λz=>[B z]) ((by unfold ov;rw[d,Bool.not_false,Bool.and_true];first|(symm;exact Q0 ω)|(symm;exact O0 ω)|exact decide_eq_decide.2 ω))
    |(exfalso;omega)
    |trace_state
  ·have e:xs[((xs.length:Int) - 1).toNat]? = some (nth xs (xs.length - 1)):=by rw[show((xs.length:Int) - 1).toNat=xs.length - 1 by omega];exact ah ω
   refine fO 40 [(3,15,[25,26,27,28,29,30,31,32,33,34,35,36,37,38,39])] Tryz.func166 rfl ?_
   repeat'(first|refine gO ?_|(conv=>whnf);first|with_reducible (first|refine Bf.D (λa=>?_) (λa=>?_)|refine Bf.E (λa=>?_) (λa=>?_))|refine C6 (fg _) ?_|refine C6 c ?_|refine CK ω (aa e) ?_)
   all_goals first
    | exact T0 (λz=>[B z]) ((by unfold ov;rw[d,Bool.not_false,Bool.and_true];first|(symm;exact Q0 ω)|(symm;exact O0 ω)|exact decide_eq_decide.2 ω))
    |(exfalso;omega)
    |trace_state
 ·refine fO 40 [(3,15,[25,26,27,28,29,30,31,32,33,34,35,36,37,38,39])] Tryz.func166 rfl ?_
  repeat'(first|refine gO ?_|(conv=>whnf);first|with_reducible refine Bf.D (λa=>?_) (λa=>?_)|refine C6 (fg _) ?_|refine C6 c ?_)
  all_goals exact T0 (λz=>[B z]) ((by unfold ov;rw[d];simp))
theorem Er{xs:List aL}{i:Nat}(d:i<xs.length):ov (xs.take i) (nth xs i)=j7 xs i:=by
 unfold ov j7;have a:(xs.take i).length=i:=by rw[I1];omega
 rw[a]
 congr 1
 refine decide_eq_decide.2 ?_;by_cases b:i=0
 ·subst b;simp
 ·have c:nth (xs.take i) (i - 1)=nth xs (i - 1):=by
   have:=ah (xs:=xs) (i:=i - 1) ω;exact bo (by rw[List.getElem?_take_of_lt ω];exact this)
  rw[c]
theorem Db(q:bE)(d:bE.sml q):ao Tryz.prog 71 false [.val (some 2) (bE.enc .imm q)] .one [B (eZ q)]:=by
 have l:q.Lst.length<=1048576:=d.1;refine fO 32 [(4,7,[13,14,15,16,17,18,19]),(7,11,[21,22,23,24,25,26,27,28,29,30,31])] Tryz.func71 rfl ?_
 repeat'(first|refine gO ?_|fail)
 (conv=>whnf)
 refine CD (ι:=Nat) (λi=>[(1,.hold .box (bE.enc .imm q)),(6,.hold .one (cA .imm q.Lst)),(7,.hold .one [I (q.Lst.length)]),(8,.hold .one [I ((i:Nat):Int)])]) (λi=>i<=q.Lst.length/\cE i (j7 q.Lst)=true) (λi=>q.Lst.length - i) 0 ?_ ⟨R0 _,rfl⟩ λi e=>?_
 ·exact wB
 obtain⟨e,g⟩:=e;by_cases a:i<q.Lst.length
 ·have h:=ah a
  have b:=yW (q.Lst.take i) (nth q.Lst i) (by rw[I1];omega);rw[Er a]at b;cases c:j7 q.Lst i<;>rw[c]at b
  all_goals
   repeat'(first|refine gD ?_|(conv=>whnf);first|with_reducible refine CA (aa h) ?_|refine CS i rfl (by simp;omega) (λr j=>by obtain⟨z,-,rfl⟩:=T3.1 j;rfl) (Q3 ..) ?_|refine C6 b ?_)
   all_goals first
    | exact T0 (λz=>[B z]) ((by symm;unfold eZ;rw[cg a c];rfl))
    | ((conv=>whnf);refine CB (i+1) ⟨ω,bL g c⟩ ω ?_;(exact wB))
 ·obtain rfl:i=q.Lst.length:=ω
  repeat'(first|refine gD ?_|(conv=>whnf);first|with_reducible refine Bf.D (λk=>?_) (λk=>?_)|refine C6 (aM _ 0 500) ?_|refine C6 (nX q.Lst d) ?_)
  all_goals exact T0 (λz=>[B z]) ((by unfold eZ;rw[g];simp only[Bool.true_and];first|(symm;exact Q0 ω)|exact decide_eq_decide.2 ω))
def iA(a:List Bool):Nat->Int
 | 0=>0
 | i+1=>iA a i+(if nth a i then 1 else 0)
def fV(f:aV):Int:=if cw f then iA f.Used f.Used.length else 0
theorem y6{a:List Bool}{i:Nat}(h:nth a i=true):iA a (i+1)=iA a i+1:=by show iA a i+(if nth a i then 1 else 0)=_;rw[h];rfl
theorem BF{a:List Bool}{i:Nat}(h:nth a i=false):iA a (i+1)=iA a i:=by show iA a i+(if nth a i then 1 else 0)=_;rw[h];simp
theorem HH(f:aV)(h:aV.sml f):ao Tryz.prog 17 false [.val (some 2) (aV.enc .imm f)] .one [I (fV f)]:=by
 have l:f.Used.length<=1048576:=h.2;have b:=pc f h;cases d:cw f<;>rw[d]at b
 ·refine fO 24 [] Tryz.func17 rfl ?_
  repeat'(first|refine gO ?_|fail)
  (conv=>whnf)
  refine CD (ι:=Nat) (λi=>[(1,.hold .box (aV.enc .imm f)),(3,.hold .one [I ((0:Int))]),(4,.hold .one [I ((i:Nat):Int)])]) (λi=>i=0) (λi=>i) (0) ?_ (rfl) λi c=>?_
  ·exact wB
  subst c
  repeat'(first|refine gO ?_|(conv=>whnf);first|with_reducible refine Bf.D (λj=>?_) (λj=>?_)|refine C6 b ?_)
  all_goals exact T0 (λz=>[I z]) (by unfold fV;rw[d];rfl)
 ·refine fO 24 [] Tryz.func17 rfl ?_
  repeat'(first|refine gO ?_|fail)
  (conv=>whnf)
  refine CD (ι:=Nat) (λi=>[(1,.hold .box (aV.enc .imm f)),(3,.hold .one [I (iA f.Used i)]),(4,.hold .one [I ((i:Nat):Int)])]) (λi=>i<=f.Used.length/\0<=iA f.Used i/\iA f.Used i<=i) (λi=>f.Used.length - i) (0) ?_ (⟨R0 _,by simp[iA],by simp[iA]⟩) λi c=>?_
  ·exact wB
  obtain⟨c,n,o⟩:=c;by_cases k:i<f.Used.length
  ·have e:=ah k
   cases g:nth f.Used i<;>rw[g]at e
   ·have a:=BF g
    repeat'(first|refine gD ?_|(conv=>whnf);first|with_reducible refine CA (aa e) ?_|refine C6 b ?_)
    ((conv=>whnf);refine CB (i+1) ⟨ω,ω,ω⟩ ω ?_)
    rw[a];exact wB
   ·have a:=y6 g
    repeat'(first|refine gD ?_|(conv=>whnf);first|with_reducible refine CA (aa e) ?_|refine C6 b ?_)
    ((conv=>whnf);refine CB (i+1) ⟨ω,ω,ω⟩ ω ?_)
    rw[a];exact wB
  ·obtain rfl:i=f.Used.length:=ω
   repeat'(first|refine gD ?_|(conv=>whnf);first|refine C6 b ?_)
   exact T0 (λz=>[I z]) (by unfold fV;rw[d];rfl)
theorem tU(f:aV)(g:aV.sml f):ao Tryz.prog 64 false [.val (some 2) (aV.enc .imm f)] .one [I (fV f)]:=by
 have k:f.Used.length<=1048576:=g.2;have b:=p6 f g;cases c:cw f<;>rw[c]at b
 ·refine fO 21 [] Tryz.func64 rfl ?_
  repeat'(first|refine gO ?_|(conv=>whnf);first|refine C6 b ?_)
  all_goals exact T0 (λz=>[I z]) (by unfold fV;rw[c];rfl)
 ·refine fO 21 [] Tryz.func64 rfl ?_
  repeat'(first|refine gO ?_|(conv=>whnf);first|refine C6 b ?_)
  (conv=>whnf)
  refine CD (ι:=Nat) (λi=>[(3,.hold .one [I (iA f.Used i)]),(10,.hold .one (nw .imm f.Used)),(11,.hold .one [I (f.Used.length)]),(12,.hold .one [I ((i:Nat):Int)])]) (λi=>i<=f.Used.length/\0<=iA f.Used i/\iA f.Used i<=i) (λi=>f.Used.length - i) (0) ?_ (⟨R0 _,by simp[iA],by simp[iA]⟩) λi h=>?_
  ·exact wB
  obtain⟨h,l,n⟩:=h;by_cases j:i<f.Used.length
  ·have d:=ah j
   cases e:nth f.Used i<;>rw[e]at d
   ·have a:=BF e
    repeat'(first|refine gD ?_|(conv=>whnf);first|with_reducible refine CA (aa d) ?_)
    ((conv=>whnf);refine CB (i+1) ⟨ω,ω,ω⟩ ω ?_)
    rw[a];exact wB
   ·have a:=y6 e
    repeat'(first|refine gD ?_|(conv=>whnf);first|with_reducible refine CA (aa d) ?_)
    ((conv=>whnf);refine CB (i+1) ⟨ω,ω,ω⟩ ω ?_)
    rw[a];exact wB
  ·obtain rfl:i=f.Used.length:=ω
   repeat'(first|refine gD ?_|fail)
   exact T0 (λz=>[I z]) (by unfold fV;rw[c];rfl)
def xl(h:ab):Prop:=aH.sml h.Kernel.Machine.Table
theorem gC(h:ab)(p:Int)(a:xl h):ao Tryz.prog 36 false [.val (some 24) (ab.enc .imm h),.val none [I p]] .one (aD .own (aO h p)):=by
 refine fO 23 [] Tryz.func36 rfl ?_ (.inr (bC _))
 repeat'((conv=>whnf);first|with_reducible (first|refine Lm ?_|refine Wm ω ?_|refine Bf.E (λb=>?_) (λb=>?_)|refine Bn ?_|refine jm.wk rfl ?_)|refine Bt ?_|refine Bu ?_|refine C6 (db h.Kernel.Machine.Table p a) ?_|refine C6 (gg h.Kernel.Machine.Table _ a) ?_)
 all_goals(unfold aO;first|rw[C8 (by assumption)]|rw[C7 (by assumption)])
 all_goals exact⟨rfl,trivial⟩
theorem ug(h:ab)(p:Int)(a:xl h):ao Tryz.prog 26 false [.val (some 24) (ab.enc .imm h),.val none [I p]] .one (aD .own (aO h p)):=by
 refine fO 22 [] Tryz.func26 rfl ?_ (.inr (bC _))
 repeat'((conv=>whnf);first|with_reducible (first|refine Lm ?_|refine Wm ω ?_|refine Bf.E (λb=>?_) (λb=>?_)|refine Bn ?_|refine jm.wk rfl ?_)|refine Bt ?_|refine Bu ?_|refine C6 (kb h.Kernel.Machine.Table p a) ?_|refine C6 (qo h.Kernel.Machine.Table _ a) ?_)
 all_goals(unfold aO;first|rw[C8 (by assumption)]|rw[C7 (by assumption)])
 all_goals exact⟨rfl,trivial⟩
theorem Dn(k:af)(p:Int)(a:aH.sml k.Machine.Table):ao Tryz.prog 163 false [.val (some 5) (af.enc .imm k),.val none [I p]] .one [B (decide ((ar k.Machine.Table p).Mode≠0))]:=by
 refine fO 12 [] Tryz.func163 rfl ?_
 repeat'(first|refine gO ?_|(conv=>whnf);first|refine C6 (kb k.Machine.Table p a) ?_)
 exact T0 (λz=>[B z]) ((by rw[Y3];simp))
theorem nN(z:Int):ao Tryz.prog 75 false [.val none [I z]] .one [B (decide (0<=z/\z<=1073741823))]:=by
 refine fO 5 [] Tryz.func75 rfl ?_
 repeat'(first|refine gO ?_|(conv=>whnf);first|refine C6 (aM z 0 1073741823) ?_)
 rfl
theorem jd(h:ab)(p:Int)(g:h.Spans.length<=1048576):ao Tryz.prog 39 false [.val (some 24) (ab.enc .imm h),.val none [I p]] .one [I (eU h p)]:=by
 refine fO 22 [] Tryz.func39 rfl ?_
 repeat'(first|refine gO ?_|fail)
 (conv=>whnf)
 refine CD (ι:=Nat) (λi=>[(1,.hold .one [I (p)]),(2,.hold .box (ab.enc .imm h)),(5,.hold .one [I ((i:Nat):Int)])]) (λi=>i<=h.Spans.length/\∀(j:Nat)(z:au),j<i->h.Spans[j]? = some z->jr p z=false) (λi=>h.Spans.length - i) (0) ?_ (⟨R0 _,λj z k=>ω⟩) λi c=>?_
 ·exact wB
 obtain⟨c,a⟩:=c;by_cases d:i<h.Spans.length
 ·have b:=ah d
  repeat'(first|refine gD ?_|(conv=>whnf);first|with_reducible (first|refine CA (aa b) ?_|refine Bf.E (λe=>?_) (λe=>?_)))
  all_goals first
   | exact T0 (λz=>[I z]) (d6 b (O0 (by assumption)) a).symm
   | ((conv=>whnf);refine CB (i+1) ⟨ω,cV b (Q0 (by assumption)) a⟩ ω ?_;(exact wB))
 ·repeat'(first|refine gD ?_|fail)
  exact T0 (λz=>[I z]) (eH ω a).symm
theorem yI(s:au)(p:Int):ao Tryz.prog 100 false [.val (some 3) (au.enc .imm s),.ptr [I p]] .one [B (jr p s)]:=by
 refine fO 8 [] Tryz.func100 rfl ?_
 repeat'(first|refine gO ?_|fail)
 exact T0 (λz=>[B z]) ((by unfold jr;rw[Y3];simp))
theorem ta(h:ab)(p:Int)(b:h.Spans.length<=1048576):ao Tryz.prog 27 false [.val (some 24) (ab.enc .imm h),.val none [I p]] .one [I (eU h p)]:=by
 refine fO 9 [] Tryz.func27 rfl ?_
 repeat'(first|refine gO ?_|(conv=>whnf);first|refine Cq.mk (oQ (some 3) (au.enc .imm) (jr p) h.Spans) (yI default p).has (λL k rcs a=>?_) ?_|refine C6 (wn h.Spans (jr p) ω) ?_)
 ·obtain⟨y,-,rfl,rfl,rfl⟩:=a
  exact yI y p
 ·rfl
def flight1(m:aJ)(i:Nat):List Int:=(m.Buffers.take i).flatMap λl=>l.map (·.Addr)
def flight2(m:aJ)(i:Nat):List Int:=(m.Inbox.take i).flatten
theorem mi{m:aJ}{i:Nat}{l:List dd}(h:m.Buffers[i]? = some l):flight1 m (i+1)=flight1 m i++l.map (·.Addr):=by
 unfold flight1;rw[O4,h,List.flatMap_append];simp
theorem mI{m:aJ}{i:Nat}{l:List Int}(h:m.Inbox[i]? = some l):flight2 m (i+1)=flight2 m i++l:=by
 unfold flight2;rw[O4,h,List.flatten_append];simp
theorem nu{m:aJ}(h:bz m=true):aC m=flight1 m m.Buffers.length++flight2 m m.Inbox.length:=by
 unfold aC flight1 flight2;rw[C8 h,v4,v4]
theorem td{m:aJ}(h:bz m=false):aC m=[]:=by
 unfold aC;rw[h];rfl
theorem jD{m:aJ}(h:bz m=true):1<=m.Buffers.length/\m.Buffers.length<=4/\m.Inbox.length=m.Buffers.length:=by
 unfold bz at h;simp only[I0,C0]at h;exact h.1.1
theorem AO{l:List Int} : ∀r∈l.map (rI .imm),r.length=1:=by
 intro r a;obtain⟨z,-,rfl⟩:=T3.1 a;rfl
theorem FH{l:List Int} : ∀r∈l.map (rI .imm),aU r=true:=by
 intro r a;obtain⟨z,-,rfl⟩:=T3.1 a;rfl
theorem xA(m:aJ)(j:aJ.sml m):ao Tryz.prog 277 false [.val (some 2) (aJ.enc .imm m)] .one (aD .own (aC m)):=by
 have l:=kz m j;cases e:bz m<;>rw[e]at l
 ·refine fO 56 [] Tryz.func277 rfl ?_ (.inr (bC _))
  repeat'((conv=>whnf);first|with_reducible (first|refine Lm ?_|refine Wm ω ?_|refine Bn ?_|refine jm.wk rfl ?_)|refine Bt ?_|refine Bu ?_|refine C6 l ?_)
  all_goals(rw[td e];exact⟨rfl,trivial⟩)
 ·obtain⟨D,E,F⟩:=jD e
  refine fO 56 [] Tryz.func277 rfl ?_ (.inr (bC _))
  repeat'(first|refine gO ?_|(conv=>whnf);first|refine C6 l ?_)
  (conv=>whnf)
  refine CD (ι:=Nat × List Int) (λi=>[(1,.hold .box (aJ.enc .imm m)),(3,.hold .one (aD .own i.2)),(4,.hold .one [I ((i.1:Nat):Int)])]) (λi=>i.1<=m.Buffers.length/\i.2=flight1 m i.1/\i.2.length<=1048576*i.1) (λi=>m.Buffers.length - i.1) ((0,[])) ?_ (⟨R0 _,rfl,R0 _⟩) λi n=>?_
  ·exact wB
  obtain⟨i,S⟩:=i;obtain⟨n,o,t⟩:=n;simp only at n o t |-;by_cases q:i<m.Buffers.length
  ·have g:=ah q
   have u:(nth m.Buffers i).length<=1048576:=(j.1.2 _ (am q)).1
   repeat'(first|refine gD ?_|(conv=>whnf);first|with_reducible refine CA (aa g) ?_)
   (conv=>whnf)
   refine CD (ι:=Nat × List Int) (λk=>[(1,.hold .box (aJ.enc .imm m)),(3,.hold .one (aD .own k.2)),(4,.hold .one [I ((i:Nat):Int)]),(5,.hold .one [I ((k.1:Nat):Int)])]) (λk=>k.1<=(nth m.Buffers i).length/\k.2=S++((nth m.Buffers i).take k.1).map (·.Addr)) (λk=>(nth m.Buffers i).length - k.1) ((0,S)) ?_ (⟨R0 _,by simp⟩) λk b=>?_
   ·exact wB
   obtain⟨k,c⟩:=k;obtain⟨b,a⟩:=b;simp only at b a |-;have w:c.length=S.length+k:=by rw[a,U2,W0,I1];omega
   by_cases h:k<(nth m.Buffers i).length
   ·have d:=ah h
    repeat'(first|refine gD ?_|(conv=>whnf);first|with_reducible (first|refine CA (aa g) ?_|refine CA (aa d) ?_)|refine CN bW (λr y=>by rw[Z0.1 y];rfl) (by simp[aU,d4]) (by simp;omega) (by show _*8<=_;simp;omega) rfl ?_)
    ((conv=>whnf)
     refine CB (k+1,c++[(nth (nth m.Buffers i) k).Addr]) ⟨(by simp only;omega),(by simp only;rw[a,O4,d,R4,Q4];simp)⟩ (by simp only;omega) ?_
     (repeat'(first|exact trivial|rfl|exact CI rfl (CI (T0 (C.s d7.own) (by simp[rI])) trivial)|refine CI ?_ ?_)))
   ·obtain rfl:k=(nth m.Buffers i).length:=ω
    rw[v4]at a
    repeat'(first|refine gD ?_|(conv=>whnf);first|with_reducible refine CA (aa g) ?_)
    ((conv=>whnf);refine CB (i+1,c) ⟨(by simp only;omega),(by simp only;rw[mi g,<-o,a]),(by simp only;omega)⟩ (by simp only;omega) ?_;(exact wB))
  ·obtain rfl:i=m.Buffers.length:=ω
   repeat'(first|refine gD ?_|fail)
   (conv=>whnf)
   refine CD (ι:=Nat × List Int) (λk=>[(1,.hold .box (aJ.enc .imm m)),(3,.hold .one (aD .own k.2)),(6,.hold .one [I ((k.1:Nat):Int)])]) (λk=>k.1<=m.Inbox.length/\k.2=S++flight2 m k.1/\k.2.length<=S.length+1048576*k.1) (λk=>m.Inbox.length - k.1) ((0,S)) ?_ (⟨R0 _,by simp[flight2],by simp⟩) λk b=>?_
   ·exact wB
   obtain⟨k,c⟩:=k;obtain⟨b,a,p⟩:=b;simp only at b a p |-;by_cases h:k<m.Inbox.length
   ·have d:=ah h
    have B:(nth m.Inbox k).length<=1048576:=j.2.2 _ (am h)
    repeat'(first|refine gD ?_|(conv=>whnf);first|with_reducible refine CA (aa d) ?_|refine CN bW AO (λ_=>FH) (by simp;omega) (by show _*8<=_;simp;omega) rfl ?_)
    ((conv=>whnf)
     refine CB (k+1,c++nth m.Inbox k) ⟨(by simp only;omega),(by simp only;rw[mI d,a,Q4]),(by simp only;rw[U2];omega)⟩ (by simp only;omega) ?_
     (repeat'(first|exact trivial|rfl|exact CI rfl (CI (T0 (C.s d7.own) (by simp[rI])) trivial)|refine CI ?_ ?_)))
   ·obtain rfl:k=m.Inbox.length:=ω
    repeat'(first|refine gD ?_|fail)
    rw[nu e,<-o,<-a];rfl
theorem iR(m:aJ)(h:aJ.sml m):ao Tryz.prog 78 false [.val (some 2) (aJ.enc .imm m)] .one (aD .own (aC m)):=by
 have j:=tc m h;cases e:bz m<;>rw[e]at j
 ·refine fO 46 [] Tryz.func78 rfl ?_ (.inr (bC _))
  repeat'((conv=>whnf);first|with_reducible (first|refine Lm ?_|refine Wm ω ?_|refine Bn ?_|refine jm.wk rfl ?_)|refine Bt ?_|refine Bu ?_|refine C6 j ?_)
  all_goals(rw[td e];exact⟨rfl,trivial⟩)
 ·obtain⟨D,E,F⟩:=jD e
  refine fO 46 [] Tryz.func78 rfl ?_ (.inr (bC _))
  repeat'(first|refine gO ?_|(conv=>whnf);first|refine C6 j ?_)
  (conv=>whnf)
  refine CD (ι:=Nat × List Int) (λi=>[(1,.hold .box (aJ.enc .imm m)),(3,.hold .one (aD .own i.2)),(15,.hold .one (nP .imm m.Buffers)),(16,.hold .one [I (m.Buffers.length)]),(17,.hold .one [I ((i.1:Nat):Int)])]) (λi=>i.1<=m.Buffers.length/\i.2=flight1 m i.1/\i.2.length<=1048576*i.1) (λi=>m.Buffers.length - i.1) ((0,[])) ?_ (⟨R0 _,rfl,R0 _⟩) λi l=>?_
  ·exact wB
  obtain⟨i,S⟩:=i;obtain⟨l,n,t⟩:=l;simp only at l n t |-;by_cases p:i<m.Buffers.length
  ·have q:=ah p
   have u:(nth m.Buffers i).length<=1048576:=(h.1.2 _ (am p)).1
   repeat'(first|refine gD ?_|(conv=>whnf);first|with_reducible refine CA (aa q) ?_)
   (conv=>whnf)
   refine CD (ι:=Nat × List Int) (λk=>[(1,.hold .box (aJ.enc .imm m)),(3,.hold .one (aD .own k.2)),(15,.hold .one (nP .imm m.Buffers)),(16,.hold .one [I (m.Buffers.length)]),(17,.hold .one [I ((i:Nat):Int)]),(21,.hold .one (cM .imm (nth m.Buffers i))),(22,.hold .one [I ((nth m.Buffers i).length)]),(23,.hold .one [I ((k.1:Nat):Int)])]) (λk=>k.1<=(nth m.Buffers i).length/\k.2=S++((nth m.Buffers i).take k.1).map (·.Addr)) (λk=>(nth m.Buffers i).length - k.1) ((0,S)) ?_ (⟨R0 _,by simp⟩) λk b=>?_
   ·exact wB
   obtain⟨k,c⟩:=k;obtain⟨b,a⟩:=b;simp only at b a |-;have w:c.length=S.length+k:=by rw[a,U2,W0,I1];omega
   by_cases g:k<(nth m.Buffers i).length
   ·have d:=ah g
    repeat'(first|refine gD ?_|(conv=>whnf);first|with_reducible refine CA (aa d) ?_|refine CN bW (λr y=>by rw[Z0.1 y];rfl) (by simp[aU,d4]) (by simp;omega) (by show _*8<=_;simp;omega) rfl ?_)
    ((conv=>whnf)
     refine CB (k+1,c++[(nth (nth m.Buffers i) k).Addr]) ⟨(by simp only;omega),(by simp only;rw[a,O4,d,R4,Q4];simp)⟩ (by simp only;omega) ?_
     (repeat'(first|exact trivial|rfl|exact CI rfl (CI (T0 (C.s d7.own) (by simp[rI])) trivial)|refine CI ?_ ?_)))
   ·obtain rfl:k=(nth m.Buffers i).length:=ω
    rw[v4]at a
    repeat'(first|refine gD ?_|fail)
    ((conv=>whnf);refine CB (i+1,c) ⟨(by simp only;omega),(by simp only;rw[mi q,<-n,a]),(by simp only;omega)⟩ (by simp only;omega) ?_;(exact wB))
  ·obtain rfl:i=m.Buffers.length:=ω
   repeat'(first|refine gD ?_|fail)
   (conv=>whnf)
   refine CD (ι:=Nat × List Int) (λk=>[(3,.hold .one (aD .own k.2)),(35,.hold .one (ir .imm m.Inbox)),(36,.hold .one [I (m.Inbox.length)]),(37,.hold .one [I ((k.1:Nat):Int)])]) (λk=>k.1<=m.Inbox.length/\k.2=S++flight2 m k.1/\k.2.length<=S.length+1048576*k.1) (λk=>m.Inbox.length - k.1) ((0,S)) ?_ (⟨R0 _,by simp[flight2],by simp⟩) λk b=>?_
   ·exact wB
   obtain⟨k,c⟩:=k;obtain⟨b,a,o⟩:=b;simp only at b a o |-;by_cases g:k<m.Inbox.length
   ·have d:=ah g
    have B:(nth m.Inbox k).length<=1048576:=h.2.2 _ (am g)
    repeat'(first|refine gD ?_|(conv=>whnf);first|with_reducible refine CA (aa d) ?_|refine CN bW AO (λ_=>FH) (by simp;omega) (by show _*8<=_;simp;omega) rfl ?_)
    ((conv=>whnf)
     refine CB (k+1,c++nth m.Inbox k) ⟨(by simp only;omega),(by simp only;rw[mI d,a,Q4]),(by simp only;rw[U2];omega)⟩ (by simp only;omega) ?_
     (repeat'(first|exact trivial|rfl|exact CI rfl (CI (T0 (C.s d7.own) (by simp[rI])) trivial)|refine CI ?_ ?_)))
   ·obtain rfl:k=m.Inbox.length:=ω
    repeat'(first|refine gD ?_|fail)
    rw[nu e,<-n,<-a];rfl
end Go.Proofs.YtembpgjjnioagaaGreat.Ab
