/- A function's contract out of the abstract run of its body, where something is lent to it. No condition. -/
import Derived.Test.YtembpgjjnioagaaGreatDc
set_option linter.unusedVariables false
set_option linter.unusedSimpArgs false
set_option linter.constructorNameAsVariable false
namespace Go.Proofs.YtembpgjjnioagaaGreat.Ab
open Go.RowKit
def NE:C->Value->C
 | .s .own rows,v=>.s (.tag v) rows
 | c,_=>c
def xD(u:Nat->Value):Nat->List C->List C
 | _,[]=>[]
 | j,c::cs=>NE c (u j)::xD u (j+1) cs
def uW(u:Nat->Nat->Value):Nat->List MA->List (Nat × AV)
 | _,[]=>[]
 | i,.val a cs::A=>(i,.hold (kq a) cs)::uW u (i+1) A
 | i,.mut a cs::A=>(i,.hold (kq a) (xD (u i) 0 cs))::uW u (i+1) A
 | i,.ptr cs::A=>(i,.hold .box cs)::uW u (i+1) A
def Gd(p:Nat->Value):Nat->List MA->List (Nat × Value)
 | _,[]=>[]
 | i,.ptr _::A=>(i,p i)::Gd p (i+1) A
 | i,_::A=>Gd p (i+1) A
def AG:Nat->List MA->List (Nat × Nat)->List (Option Nat)
 | i,.val _ _::A,_::pl=>none::AG (i+1) A pl
 | i,.mut _ _::A,p::pl=>some p.1::AG (i+1) A pl
 | i,.ptr _::A,_::pl=>some i::AG (i+1) A pl
 | _,_,_=>[]
def DR:List (Option Nat)->Bool
 | []=>true
 | none::l=>DR l
 | some t::l=>l.all (λx=>match x with|some a=>!Nat.beq t a|none=>true)&&DR l
def sles:List (Option Nat)->List Nat
 | []=>[]
 | none::l=>sles l
 | some t::l=>t::sles l
def PJ(v:Value)(c y o:C):Prop:=
 match c with
 | .s .own _=>(match y with|.s (.tag v') rows=>v'=v/\o=.s .own rows|_=>False)
 | .s (.tag _) _=>False
 | .m _=>False
 | .it _ _=>False
 | c=>o=c
def MT(u:Nat->Value):Nat->List C->List C->List C->Prop
 | _,[],_,o=>o=[]
 | j,c::cs,y::xs,o::os=>PJ (u j) c y o/\MT u (j+1) cs xs os
 | _,_,_,_=>False
def gW(u:Nat->Nat->Value)(F:Nat->AV):Nat->List MA->List (Nat × Nat)->List MA->Prop
 | _,[],_,[]=>True
 | i,.val _ _::A,_::pl,.val _ _::B=>gW u F (i+1) A pl B
 | i,.mut ag cs::A,p::pl,.mut a out::B=>(a=ag/\match F p.1 with|.hold _ xs=>MT (u i) 0 cs (xs.drop p.2) out|_=>False)/\gW u F (i+1) A pl B
 | i,.ptr _::A,_::pl,.ptr out::B=>(match F i with|.hold .box xs=>xs=out|_=>False)/\gW u F (i+1) A pl B
 | _,_,_,_=>False
inductive aP(k k':Kd)(cs cs':List C)(Q:Prop):Prop
 |mk_ (h:k=k'/\cs=cs'/\Q)
theorem aP.mk{k b:Kd}{cs a:List C}{Q:Prop}(h1:k=b)(c:cs=a)(d:Q):aP k b cs a Q:=by refine .mk_ ?_;exact⟨h1,c,d⟩
theorem CE:type_of% @aP.mk:=@aP.mk
theorem aP.out{k b:Kd}{cs a:List C}{Q:Prop}(h:aP k b cs a Q):k=b/\cs=a/\Q:=by obtain⟨h⟩:=h;exact h
def NS(TE:Nat->Option TI)(d:List ResultVar)(k:Kd)(rcs:List C)(u:Nat->Nat->Value)(A B:List MA)(a:List (Nat × Nat)):Exit->(Nat->AV)->Prop:=λe F=>
 match e with
 | .normal=>resA TE F d (sles (AG 0 A a)) λb c=>aP (js b) k c rcs (gW u F 0 A a B)
 | .ret=>resA TE F d (sles (AG 0 A a)) λb c=>aP (js b) k c rcs (gW u F 0 A a B)
 | _=>False
section
variable{P:Program}{w0 w w1:World}{M S0 S:ac}{N:eU}{φ:Nat->ac}{F:Nat->AV}{a:Act}{TE:Nat->Option TI}
theorem ef.tag{Y:ac}{c:C}{v:Value}(h:ef w S Y c v):ef w S Y (NE c v) v:=by
 cases h with
 | nil _ o a B=>cases o with
  | own=>exact .nil _ _ _ rfl
  | _=>exact .nil _ _ _ B
 | own _ o g k n l e u f B D E i p t K L M y=>cases o with
  | own=>exact .own _ _ g k n l e u f rfl D E i p t K L M y
  | imm=>exact B.elim
  | tag z=>exact .own _ _ g k n l e u f B D E i p t K L M y
 | v _ x F=>exact .v _ _ F
 | x _ u F=>exact .x _ _ F
 | z _ a=>exact .z _ _
 | imm _ g G k n l e u D E i N y=>exact .imm _ g G k n l e u D E i N y
 | m _ b d O j t H P J q=>exact .m _ b d O j t H P J q
 | it _ r b since Q d seen j cur left t R H q y J T A=>exact .it _ r b since Q d seen j cur left t R H q y J T A
theorem ef.untag{Y:ac}{z v:Value}{rows:List (List C)}(h:ef w S Y (.s (.tag z) rows) v):v=z/\ef w S Y (.s .own rows) v:=by
 cases h with
 | nil _ o a d=>exact⟨Eq.symm d,.nil _ _ _ trivial⟩
 | own _ o g k n e rows u f d i j b c l p q r t=>exact⟨Eq.symm d,.own _ _ g k n e rows u f trivial i j b c l p q r t⟩
theorem nP(u:Nat->Value):∀(j:Nat)(cs:List C),(xD u j cs).length=cs.length
 | _,[]=>rfl
 | j,c::cs=>by simp[xD,nP u (j+1) cs]
theorem BP(u:Nat->Value):∀(a:Nat)(cs:List C)(j:Nat),(xD u a cs)[j]? = (cs[j]?).map λc=>NE c (u (a+j))
 | _,[],j=>by simp[xD]
 | a,c::cs,0=>by simp[xD]
 | a,c::cs,j+1=>by simp only[xD,List.getElem?_cons_succ];rw[BP u (a+1) cs j,show a+1+j=a+(j+1) by omega]
theorem cN.tag{Y:ac}{cs:List C}{u:Nat->Value}(h:cN w S Y cs u):cN w S Y (xD u 0 cs) u:=by
 obtain⟨f,e,g,i⟩:=h;refine⟨f,λj c a=>?_,λj a=>g j (by rwa [nP]at a),λj k a b=>i j k (by rwa [nP]at a) (by rwa [nP]at b)⟩;rw[BP,C5]at a;cases d:cs[j]? with
 | none=>rw[d]at a;cases a
 | some l=>
  rw[d]at a;simp only[z4,U0]at a;subst a;exact(e j l d).tag
def celF(v:Value)(j:Nat):Value:=v.cells.toList.getD j undef
theorem bR.celF{Y:ac}{ag:Option Nat}{cs:List C}{v:Value}(h:bR w S Y ag cs v):cs.length=ag.getD 1/\v=mkv ag (celF v)/\cN w S Y cs (celF v):=by
 obtain⟨b,u,c,d⟩:=h;have g:=ou (ag:=ag) (u:=u) (λe=>by subst e;exact d.one (by simp at b;omega));have f:∀j,j<ag.getD 1->Ab.celF v j=u j:=λj a=>by
  unfold Ab.celF;rw[c,g];simp[List.getD,a]
 exact⟨b,c.trans (gS λj a=>(f j a).symm),d.congr λj a=>f j ω⟩
def MW(u:Nat->Nat->Value)(i:Nat):MA->AV
 | .val a cs=>.hold (kq a) cs
 | .mut a cs=>.hold (kq a) (xD (u i) 0 cs)
 | .ptr cs=>.hold .box cs
theorem xN{u:Nat->Nat->Value} : ∀{A:List MA}{vs:List Value}{V:Nat->ac}(i:Nat),Lr w S V A vs->∀t,(lay (uW u i A) t=.dead)\/(∃m v,i<=t/\vs[t - i]? = some v/\A[t - i]? = some m/\lay (uW u i A) t=MW u t m/\oM w S (V (t - i)) m v)
 | [],_,_,i,_,t=>.inl rfl
 | m::A,[],_,i,h,t=>h.elim
 | m::A,v::vs,V,i,h,t=>by
  have c:lay (uW u i (m::A)) t=bif Nat.beq t i then MW u i m else lay (uW u (i+1) A) t:=by cases m<;>rfl
  rw[c];cases a:Nat.beq t i with
  | true=>
   have:=R1 a;subst this;exact .inr ⟨m,v,Q2 _,by simp,by simp,rfl,by rw[Nat.sub_self];exact h.1⟩
  | false=>
   have d:t≠i:=λe=>by subst e;rw[Nat.beq_refl]at a;cases a
   rcases xN (i+1) h.2 t with b|⟨f,g,b,j,k,l,n⟩
   ·exact .inl b
   ·refine .inr ⟨f,g,ω,?_,?_,l,?_⟩
    ·rw[show t - i=(t - (i+1))+1 by omega];simpa using j
    ·rw[show t - i=(t - (i+1))+1 by omega];simpa using k
    ·rw[show t - i=(t - (i+1))+1 by omega];exact n
theorem Fz:∀{A:List MA}{vs:List Value}{V:Nat->ac},Lr w S V A vs->A.length=vs.length
 | [],[],_,_=>rfl
 | _::_,_::_,_,h=>by simp[Fz h.2]
 | [],_::_,_,h=>h.elim
 | _::_,[],_,h=>h.elim
theorem F9{p:Nat->Value} : ∀{A:List MA}{i:Nat}{q:Nat × Value},q∈Gd p i A->i<=q.1/\q.1<i+A.length/\q.2=p q.1
 | [],_,_,h=>by simp[Gd]at h
 | m::A,i,q,h=>by
  have a:q∈Gd p (i+1) A->i<=q.1/\q.1<i+(m::A).length/\q.2=p q.1:=λh=>by
   obtain⟨c,d,b⟩:=F9 h;exact⟨ω,by simp;omega,b⟩
  cases m with
  | ptr e=>
   rcases List.mem_cons.1 h with rfl|h
   ·exact⟨Q2 _,by simp,rfl⟩
   ·exact a h
  | val=>exact a h
  | «mut»=>exact a h
theorem Gf{p:Nat->Value} : ∀{A:List MA}{i n:Nat}{cs:List C},A[n]? = some (.ptr cs)->(i+n,p (i+n))∈Gd p i A
 | [],_,n,_,h=>by simp at h
 | m::A,i,0,cs,h=>by simp at h;subst h;simp[Gd]
 | m::A,i,n+1,cs,h=>by
  have a:=Gf (p:=p) (i:=i+1) (show A[n]? = some (.ptr cs) by simpa using h);rw[show i+1+n=i+(n+1) by omega]at a;cases m with
  | ptr cs=>exact C4 _ a
  | val=>exact a
  | «mut»=>exact a
def NQ(φ:Nat->ac):Option (Option Nat)->ac
 | some (some t)=>φ t
 | _=>NO
theorem zr{u:Nat->Value} : ∀{a:Nat}{cs xs b:List C},MT u a cs xs b->cs.length=b.length/\∀(j:Nat)(c o:C),cs[j]? = some c->b[j]? = some o->∃y,(d8 c=true->xs[j]? = some y)/\PJ (u (a+j)) c y o
 | _,[],xs,b,h=>by simp only[MT]at h;subst h;exact⟨rfl,λj c o h=>by simp at h⟩
 | _,_::_,[],_,h=>by simp only[MT]at h
 | _,_::_,_::_,[],h=>by simp only[MT]at h
 | a,p::cs,f::xs,q::b,h=>by
  simp only[MT]at h;obtain⟨g,i⟩:=zr h.2;refine⟨by simp[g],λj c o d e=>?_⟩;cases j with
  | zero=>simp at d e;subst d e;exact⟨f,λ_=>rfl,h.1⟩
  | succ j=>
   obtain⟨y,k,l⟩:=i j c o (by simpa using d) (by simpa using e);exact⟨y,λn=>by simpa using k n,by rw[show a+(j+1)=a+1+j by omega];exact l⟩
theorem J7{S' Y F:ac}{u L:Nat->Value}{cs xs G:List C}{off:Nat}(g:bj S w w1)(n:∀b o,S b o->S' b o)(h:cN w S Y cs u)(h':cN w1 S' F xs L)(i:MT u 0 cs (xs.drop off) G):cN w1 S' F G u:=by
 obtain⟨f,M,U,V⟩:=h;obtain⟨H,r,t,A⟩:=h';obtain⟨W,N⟩:=zr i;refine⟨λj b o=>off+j<xs.length/\H (off+j) b o,λj c q=>?_,λj q b o i=>t _ i.1 b o i.2,λj X q O P b o i p=>A _ _ i.1 p.1 ω b o i.2 p.2⟩;have Q:=(V1.1 q).1;have k:cs[j]? = some cs[j]:=U1 ω;obtain⟨y,l,a⟩:=N j _ c k q;rw[C5]at a;have d:=M j _ k;generalize cs[j]=B at k a d l;have keep:d8 B=false->c=B->ef w1 S' (λb o=>off+j<xs.length/\H (off+j) b o) c (u j):=λR e=>by
  subst e;exact((d.bare (F':=NO) R).keep g (λ_ _ h=>h.elim)).mono n (λ_ _ h=>h.elim)
 cases B with
 | v Z=>exact keep rfl a
 | x=>exact keep rfl a
 | z=>exact keep rfl a
 | m es=>exact a.elim
 | it=>exact a.elim
 | s o J=>
  cases o with
  | imm=>exact keep rfl a
  | tag z=>exact a.elim
  | own=>
   have l:=l rfl;rw[List.getElem?_drop]at l;have D:=(V1.1 l).1;simp only[PJ]at a;split at a
   case h_2=>exact a.elim
   rename_i v' E;obtain⟨rfl,rfl⟩:=a;obtain⟨T,K⟩:=(r _ _ l).untag;rw[T]at K;exact K.mono (λ_ _ h=>h) (λb o h=>⟨D,h⟩)
theorem bh.backs{E:World}{S':ac}{u:Nat->Nat->Value}(h:bh w0 M S0 N S' φ F a E)(e:bj S w E)(f:∀b o,S b o->S' b o):∀{A:List MA}{g:List (Nat × Nat)}{B:List MA}{vs:List Value}{V:Nat->ac}{i:Nat},Lr w S V A vs->
  (∀j v,vs[j]? = some v->u (i+j)=celF v)->(∀j v cs,vs[j]? = some v->A[j]? = some (.ptr cs)->tvs a (i+j)=v)->gW u F i A g B->Br E S' (λn=>NQ φ (AG i A g)[n]?) B vs
 | [],g,B,vs,V,i,l,q,r,c=>by
  cases vs with
  | cons _ _=>exact l.elim
  | nil=>cases B with
   | nil=>trivial
   | cons _ _=>simp only[gW]at c
 | m::A,[],B,vs,V,i,l,q,r,c=>by cases m<;>simp only[gW]at c
 | m::A,p::g,[],vs,V,i,l,q,r,c=>by cases m<;>simp only[gW]at c
 | m::A,p::g,G::B,[],V,i,l,q,r,c=>l.elim
 | m::A,p::g,G::B,v::vs,V,i,l,q,r,c=>by
  have next:gW u F (i+1) A g B->Br E S' (λn=>NQ φ (AG (i+1) A g)[n]?) B vs:=λc=>
   bh.backs h e f l.2 (λj v H=>by rw[show i+1+j=i+(j+1) by omega];exact q (j+1) v (by simpa using H))
    (λj v cs H U=>by rw[show i+1+j=i+(j+1) by omega];exact r (j+1) v cs (by simpa using H) (by simpa using U)) c
  cases m with
  | val W cs=>
   cases G with
   | val C X=>simp only[gW]at c;exact⟨trivial,next c⟩
   | ptr=>simp only[gW]at c
   | «mut»=>simp only[gW]at c
  | «mut» W cs=>
   cases G with
   | val=>simp only[gW]at c
   | ptr=>simp only[gW]at c
   | «mut» C out=>
    simp only[gW]at c;obtain⟨⟨rfl,d⟩,J⟩:=c;refine⟨?_,next J⟩;have D:=bR.celF (show bR w S (V 0) C cs v from l.1);have K:u i=celF v:=q 0 v (by simp);have t:=h.slot p.1;cases y:F p.1 with
    | hold k xs=>
     rw[y]at d t;simp only at d;rw[K]at d;obtain⟨P,Y,Q,L,R,T,O⟩:=t;refine⟨by rw[<-(zr d).1];exact D.1,celF v,D.2.1,?_⟩;exact(J7 e f D.2.2 O d).mono (λ_ _ h=>h) (λb o c=>by simpa[AG,NQ] using L b o c)
    | _=>rw[y]at d;exact d.elim
  | ptr cs=>
   cases G with
   | val=>simp only[gW]at c
   | «mut»=>simp only[gW]at c
   | ptr out=>
    simp only[gW]at c;refine⟨?_,next c.2⟩;have D:tvs a i=v:=r 0 v cs (by simp) (by simp);have t:=h.slot i;cases y:F i with
    | hold k xs=>
     cases k with
     | box=>
      rw[y]at c t;have:=c.1;simp only at this;subst this;rw[D]at t;obtain⟨P,Y,Q,L,R,T,O⟩:=t;exact⟨P,Y,λb o c=>by simpa[AG,NQ] using Q b o c,λb o c=>by simpa[AG,NQ] using L b o c,R,T,O⟩
     | _=>rw[y]at c;exact c.1.elim
    | _=>rw[y]at c;exact c.1.elim
theorem rS:∀{l:List (Option Nat)},DR l=true->∀(i a t c:Nat),i≠a->l[i]? = some (some t)->l[a]? = some (some c)->t≠c
 | [],_,i,a,t,c,_,h,_=>by simp at h
 | none::l,b,i,a,t,c,f,h,d=>by
  cases i with
  | zero=>simp at h
  | succ i=>cases a with
   | zero=>simp at d
   | succ a=>exact rS (l:=l) b i a t c ω (by simpa using h) (by simpa using d)
 | some j::l,b,i,a,t,c,f,h,d=>by
  simp only[DR,I0]at b;have g:∀(n s:Nat),l[n]? = some (some s)->j≠s:=λn s k e=>by
   have:=I3.1 b.1 _ (Q1 k);simp only[Bool.not_eq_true']at this;rw[e,Nat.beq_refl]at this;cases this
  cases i with
  | zero=>
   simp at h;subst h;cases a with
   | zero=>exact absurd rfl f
   | succ a=>exact g a c (by simpa using d)
  | succ i=>cases a with
   | zero=>simp at d;subst d;exact λe=>g i t (by simpa using h) e.symm
   | succ a=>exact rS b.2 i a t c ω (by simpa using h) (by simpa using d)
theorem wv:∀{l:List (Option Nat)}{i t:Nat},l[i]? = some (some t)->t∈sles l
 | [],i,t,h=>by simp at h
 | none::l,i,t,h=>by
  cases i with
  | zero=>simp at h
  | succ i=>exact wv (l:=l) (i:=i) (by simpa using h)
 | some a::l,i,t,h=>by
  cases i with
  | zero=>simp at h;subst h;simp[sles]
  | succ i=>exact C4 _ (wv (l:=l) (i:=i) (by simpa using h))
theorem uU{φ:Nat->ac}{x:Option (Option Nat)}{b o:Nat}(h:NQ φ x b o):∃t,x=some (some t)/\φ t b o:=by
 match x,h with
 | some (some t),h=>exact⟨t,rfl,h⟩
 | some none,h=>exact h.elim
 | none,h=>exact h.elim
theorem HB{f : Nat}{E : Func}{c : Code}{sh : Bool}{A B : List MA}{k : Kd}{rcs : List C}{mo : List (Nat × List Nat)}{n : Nat}(Q : List (Nat × Nat))(hTE : ∀t i, TE t = some i -> cm P t i)(hf : P.funcs[f]? = some E)(hn : (E.name == "runtime.NumGoroutine") = false)(a:E.body=some c){ck:Nat->Array Oper->Bool}{D:eU->Nat->Array Oper->((Nat->AV)->Prop)->(Nat->AV)->Prop}(hD:∀N,wq P N ck (D N))(hc:fA ck c=true)(hN:A.length+(E.ntmps - A.length)=n)(hok:DR (AG 0 A Q)=true)(hsh:sh=true\/gF rcs)(hp:∀(u:Nat->Nat->Value)(p:Nat->Value),aw P TE ⟨n,Gd p 0 A,mo⟩ (D ⟨n,Gd p 0 A,mo⟩) c (NS TE E.results.toList k rcs u A B Q) (lay (uW u 0 A))):aS P f sh A B k rcs:=by
 refine⟨⟨E,hf,hn,by rw[a];rfl⟩,λw S V r hS hV hVd hA=>?_⟩;have hlen:=Fz hA;refine calls_of_wp hf a ?_
 let u:Nat->Nat->Value:=λi=>celF (r.getD i undef)
 let p:Nat->Value:=λi=>r.getD i undef
 have htv:∀t v,r[t]? = some v->tvs {tmps:=r.toArray++Array.replicate (E.ntmps - r.toArray.size) undef,defers:=[]} t=v:=λt v l=>by
  have H:=(V1.1 l).1;simp only[tvs,t5];rw[Array.getElem?_append_left (by simpa using H)];simp only[List.getElem?_toArray];rw[l];rfl
 have hst:St w (λb o=>∃i,V i b o) S ⟨n,Gd p 0 A,mo⟩ (lay (uW u 0 A)) {tmps:=r.toArray++Array.replicate (E.ntmps - r.toArray.size) undef,defers:=[]} w:=by
  refine⟨S,V,λt=>?_,hVd,λt b o h=>(hV t b o h).2,λt b o h=>⟨(hV t b o h).1,.inr ⟨t,h⟩⟩,λ_ _ h=>h,λb o h=>⟨hS b o h,.inl h⟩,CU _ _,by simp;omega,rfl,λq hq=>?_⟩
  ·rcases xN (u:=u) 0 hA t with J|⟨m,v,-,l,h2',G,U⟩
   ·rw[J];trivial
   ·rw[G]
    rw[Nat.sub_zero]at l U;rw[htv t v l];have hu:u t=celF v:=by show celF (r.getD t undef)=_;rw[List.getD,l];rfl
    cases m with
    | val O K=>exact(bR.mono (show bR w S NO O K v from U) (λ_ _ h=>h) (λ_ _ h=>h.elim)).slot
    | «mut» O K=>
     obtain⟨e1,e2,e3⟩:=bR.celF (show bR w S (V t) O K v from U);refine bR.slot ⟨by rw[nP];exact e1,celF v,e2,?_⟩;rw[hu];exact e3.tag
    | ptr K=>exact U
  ·obtain⟨-,J,l⟩:=F9 hq
   rw[l];have H:q.1<r.length:=ω
   refine htv _ _ ?_;show r[q.1]? = some (r.getD q.1 undef);rw[List.getD,U1 H];rfl
 refine hB hTE (hD _) c hc _ _ _ _ w (hp u p) hst λe F' W y he hs'=>?_
 obtain⟨S',φ',h⟩:=hs';have fin:resA TE F' E.results.toList (sles (AG 0 A Q)) (λsh K=>aP (js sh) k K rcs (gW u F' 0 A Q B))->W.defers=[]/\∃v,(results E W.tmps).run P y=.ok v y/\(∃v',Ending.returned v=.returned v'/\bI (λb o=>∃i,V i b o) w y/\∃(X:ac)(Z:Nat->ac)(S1:ac),
     (∀b o,X b o->(∃i,V i b o)\/(b<y.heap.size/\w.heap.size<=b))/\(∀i b o,Z i b o->(∃i,V i b o)\/(b<y.heap.size/\w.heap.size<=b))/\
     (∀b o,S1 b o->(sh=true/\S b o)\/(∃i,V i b o)\/(b<y.heap.size/\w.heap.size<=b))/\
     (∀i i',i≠i'->∀b o,Z i b o->¬Z i' b o)/\(∀i b o,X b o->¬Z i b o)/\(∀b o,X b o->¬S1 b o)/\(∀i b o,Z i b o->¬S1 b o)/\
     f9 y NO k rcs.length v'/\cN y S1 X rcs (bW y k v')/\Br y (λb o=>S b o\/S1 b o) Z B r):=by
  intro hr;obtain⟨shs,K,d,u',hfin,hrun,M,hln,hL,hcells,L,hrow⟩:=h.resA hTE hr;obtain⟨rfl,rfl,R⟩:=hfin.out;refine⟨h.defers,?_⟩;have T:(results E W.tmps).run P y=.ok (if h:d.toArray.size=1 then d.toArray[0] else .tuple d.toArray) y:=by
   have e:results E W.tmps=(do let r <-E.results.mapM (Bd W.tmps);pure (if h:r.size=1 then r[0] else .tuple r)):=by
    unfold results
    congr 1
   rw[e,<-Array.toArray_toList (xs:=E.results),List.mapM_toArray];simp only[Sem.run_bind,Sem.run_map,hrun,Result.andThen_ok,Sem.run_pure]
  have hex:∀t b o,φ' t b o->(∃i,V i b o)\/(b<y.heap.size/\w.heap.size<=b):=λt b o a=>(h.ex t b o a).2.elim (λh'=>.inr ⟨(h.ex t b o a).1,h'⟩) .inl
  have hsameS:bj S w y:=λb o a=>by
   have H:=hS b o a;exact⟨h.old.cel b o H (λ⟨i,hi⟩=>(hV i b o hi).2 a),h.old.fro b o H (λ⟨i,hi⟩=>(hV i b o hi).2 a)⟩
  have hm:=h.backs (u:=u) hsameS h.sub hA (λj v hj=>by show celF (r.getD (0+j) undef)=_;rw[C5,List.getD,hj];rfl) (λj v K hj hc=>by
    have:=h.par _ (Gf (p:=p) (i:=0) hc);rw[this];show r.getD (0+j) undef=v;rw[C5,List.getD,hj];rfl) R
  refine⟨_,T,_,rfl,h.old,λb o=>∃t,t∉sles (AG 0 A Q)/\φ' t b o,λi=>NQ φ' (AG 0 A Q)[i]?,λb o=>(sh=true/\S' b o)\/(S' b o/\((∃i,V i b o)\/w.heap.size<=b)),λb o ⟨t,_,a⟩=>hex t b o a,λi b o a=>?_,λb o a=>?_,λi i' hne b o a g=>?_,λi b o ⟨t,ht,a⟩ g=>?_,λb o ⟨t,_,a⟩ g=>h.disS t b o a (g.elim (·.2) (·.1)),λi b o a g=>?_,?_⟩
  ·obtain⟨t,-,a⟩:=uU a
   exact hex t b o a
  ·rcases a with⟨J,l⟩|⟨J,l⟩
   ·rcases(h.sup b o l).2 with G|G|G
    ·exact .inl ⟨J,G⟩
    ·exact .inr (.inr ⟨(h.sup b o l).1,G⟩)
    ·exact .inr (.inl G)
   ·rcases l with l|l
    ·exact .inr (.inl l)
    ·exact .inr (.inr ⟨(h.sup b o J).1,l⟩)
  ·obtain⟨t,e1,a⟩:=uU a
   obtain⟨t',e2,g⟩:=uU g;exact h.dis t t' (rS hok i i' t t' hne e1 e2) b o a g
  ·obtain⟨t',e2,g⟩:=uU g
   exact h.dis t t' (λe=>ht (by rw[e];exact wv e2)) b o a g
  ·obtain⟨t,-,a⟩:=uU a
   exact h.disS t b o a (g.elim (·.2) (·.1))
  ·have hk:f9 y NO (js shs) K.length (if h:d.toArray.size=1 then d.toArray[0] else .tuple d.toArray)/\cN y S' (λb o=>∃t,t∉sles (AG 0 A Q)/\φ' t b o) K (bW y (js shs) (if h:d.toArray.size=1 then d.toArray[0] else .tuple d.toArray)):=by
    match shs,M,L,hL with
    | [],M,_,hL=>
     cases d with
     | cons _ _=>exact M.elim
     | nil=>
      have:K=[]:=R5 (by simpa[oY] using hL.symm);subst this;exact⟨⟨_,rfl,trivial,rfl⟩,cN.nil _ _ _ _⟩
    | [O],_,L,_=>
     obtain⟨v,rfl,hv⟩:=L O rfl;have:=hv.slot (F:=F') (tv:=tvs W);obtain⟨X1,Y,J,l,G,U,h5⟩:=this;refine⟨?_,h5.mono (λ_ _ h=>h) l⟩;cases O<;>exact U
    | O::ag2::sh,M,_,hL=>
     have hsz:¬d.toArray.size=1:=by
      match d,M with
      | [],M=>simp
      | [v],M=>cases O<;>cases ag2<;>exact M.2.elim
      | _::_::_,_=>simp
     rw[dif_neg hsz];refine⟨⟨_,rfl,M,hL⟩,hrow.congr λj hj=>?_⟩;simp only[bW,js,lI,hcells];simp[List.getD,hj]
   refine⟨hk.1,?_,hm.mono λb o a=>?_⟩
   ·rcases hsh with J|J
    ·exact hk.2.mono (λb o a=>.inl ⟨J,a⟩) (λ_ _ h=>h)
    ·exact(hk.2.fresh J).mono (λ_ _ h=>h.elim) (λ_ _ h=>h)
   ·rcases(h.sup b o a).2 with G|G|G
    ·exact .inl G
    ·exact .inr (.inr ⟨a,.inr G⟩)
    ·exact .inr (.inr ⟨a,.inl G⟩)
 cases e with
 | normal=>exact fin he
 | ret=>exact fin he
 | _=>exact he.elim
end
abbrev I(z:Int):C:=.v (.int .i64 z)
abbrev B(b:Bool):C:=.v (.bool b)
def rI(_:d9)(z:Int):List C:=[I z]
def rB(_:d9)(b:Bool):List C:=[B b]
theorem oX(z:Int):gF (rI .own z):=⟨trivial,trivial⟩
theorem AW(b:Bool):gF (rB .own b):=⟨trivial,trivial⟩
def lQ(z:Int):Prop:=-9223372036854775808<=z/\z<=9223372036854775807
def PP(_:Bool):Prop:=True
theorem pM : Tryz.prog.follows .mixedOrders=true:=by kernel_rfl
theorem Pa{n f : Nat}{mo : List (Nat × List Nat)}{a : Func}{c : Code}{sh : Bool}{A : List RA}{k : Kd}{rcs : List C}(d : Tryz.prog.funcs[f]? = some a)(e : (a.name == "runtime.NumGoroutine") = false)(g : a.body = some c){tb : List (Nat × Nat × List Nat)}(h : fA (mI tb) c = true)(i:A.length+(a.ntmps - A.length)=n)(b:sh=true\/gF rcs)(j:aw Tryz.prog TE ⟨n,[],mo⟩ (DF Tryz.prog TE ⟨n,[],mo⟩ tb) c (Ma TE a.results.toList k rcs) (lay (tI 0 A))):ao Tryz.prog f sh A k rcs:=
 GK y7 d e g (pO y7 pM ⟨n,[],mo⟩ tb) h i rfl b j
theorem Pk{n f : Nat}{mo : List (Nat × List Nat)}{a : Func}{c : Code}{sh : Bool}{A B : List MA}{k : Kd}{rcs : List C}(b : List (Nat × Nat))(g : Tryz.prog.funcs[f]? = some a)(h : (a.name == "runtime.NumGoroutine") = false)(i : a.body = some c){tb : List (Nat × Nat × List Nat)}(j : fA (mI tb) c = true)(l:A.length+(a.ntmps - A.length)=n)(d:DR (AG 0 A b)=true)(e:sh=true\/gF rcs)(o:∀(u:Nat->Nat->Value)(p:Nat->Value),aw Tryz.prog TE ⟨n,Gd p 0 A,mo⟩ (DF Tryz.prog TE ⟨n,Gd p 0 A,mo⟩ tb) c (NS TE a.results.toList k rcs u A B b) (lay (uW u 0 A))):aS Tryz.prog f sh A B k rcs:=
 HB b y7 g h i (λN=>pO y7 pM N tb) j l d e o
theorem Ps{n f t : Nat}{mo : List (Nat × List Nat)}{a : Func}{c : Code}{A : List RA}{rcs : List C}(b : Tryz.prog.funcs[f]? = some a)(d : (a.name == "runtime.NumGoroutine") = false)(e : a.body = some c){tb : List (Nat × Nat × List Nat)}(g : fA (mI tb) c = true)(h:A.length+(a.ntmps - A.length)=n)(i:a.results = #[.tmp t])(j:aw Tryz.prog TE ⟨n,[],mo⟩ (DF Tryz.prog TE ⟨n,[],mo⟩ tb) c (Pv t rcs) (lay (tI 0 A))):pX Tryz.prog f true A .box rcs:=
 Hg y7 b d e (pO y7 pM ⟨n,[],mo⟩ tb) g h rfl i j
theorem ek{x:Int}(h1 : -9223372036854775808<=x)(a:x<=9223372036854775807):IntKind.i64.wrap x=x:=IntWalk.i64_in x (by constructor<;>assumption)
def Ke:RA->RA->Prop
 | .val ag cs,.val ag' cs'=>ag=ag'/\cs=cs'
 | .ptr cs,.ptr cs'=>cs=cs'
 | A,a=>A=a
theorem Ke.eq{A a:RA}(h:Ke A a):A=a:=by
 unfold Ke at h;split at h
 ·obtain⟨rfl,rfl⟩:=h;rfl
 ·rw[h]
 ·exact h
def Df:List RA->List RA->Prop
 | [],[]=>True
 | A::As,B::Bs=>Ke A B/\Df As Bs
 | _,_=>False
theorem Df.eq:∀{A a:List RA},Df A a->A=a
 | [],[],_=>rfl
 | A::As,B::Bs,h=>by rw[Ke.eq h.1,Df.eq h.2]
 | [],_::_,h=>h.elim
 | _::_,[],h=>h.elim
theorem Cl.eq{P:Program}{f:Nat}{b:Bool}{A a:List RA}{K:AV->Prop}{k:Kd}{rcs:List C}(h:ao P f false a k rcs)(c:Df A a)(d:K (.hold k rcs)):Cl P f b A K:=by rw[c.eq];exact C6 h d
theorem CF:type_of% @Cl.eq:=@Cl.eq
theorem wT{n b:Nat}(h:n<=1048576)(a:b<=1000):n*b<=140737488355328:=Z3 (Nat.mul_le_mul h a) (by decide)
theorem Bf.NB{a b:Bool}{X Y:Prop}(h1:a≠b->X)(c:a=b->Y):Bf (a != b) X Y:=by
 refine Bf.P (λh=>h1 ?_) (λh=>c ?_)
 ·simpa using h
 ·simpa using h
theorem Rw.one{a:List C}{off i k j:Nat}{K:List C->Nat->Prop}{o:d9}{rows:List (List C)}{r:List C}(h1:a[off]? = some (.s o rows))(b:rows[i]? = some r)(c:r.length=k)(d:K r j):Rw a off [(i,k,j)] K:=
 Rw.mk (r:=r) (j:=j) (by simp[bV,h1,b,c]) d
theorem CG:type_of% @Rw.one:=@Rw.one
section
variable{α:Type}{A B:List α}
end
theorem aa{α β:Type}{f:α->β}{l:List α}{k:Nat}{x:α}(h:l[k]? = some x):(l.map f)[k]? = some (f x):=by simp[h]
def aF(o:d9)(x:List Int):List C:=[.s o (x.map (rI o))]
theorem dS(x:List Int):dE (aF .own x)=aF .imm x:=by simp[dE,aF,rI,dE]
theorem bJ(x:List Int):gF (aF .own x):=⟨⟨.inl λh=>(by cases h),bc _ _ λy _=>oX y⟩,trivial⟩
def iB(x:List Int):Prop:=x.length<=9223372036854775807/\∀y∈x,lQ y
def q8(x:List Int):Prop:=x.length<=1048576
def iq(o:d9)(x:List (List Int)):List C:=[.s o (x.map (aF o))]
theorem NT(x:List (List Int)):dE (iq .own x)=iq .imm x:=by simp[dE,iq,dS,<-bZ,T4]
def zA(x:List (List Int)):Prop:=x.length<=9223372036854775807/\∀y∈x,iB y
def vi(x:List (List Int)):Prop:=x.length<=1048576/\∀y∈x,q8 y
def vC(o:d9)(x:List Bool):List C:=[.s o (x.map (rB o))]
def LI(x:List Bool):Prop:=x.length<=9223372036854775807/\∀y∈x,PP y
def Kf(x:List Bool):Prop:=x.length<=1048576
structure aU where
 Cells:List (List Int)
 Used:List Bool
deriving DecidableEq,Inhabited
def aU.enc(o:d9)(x:aU):List C:=[.s o (x.Cells.map (aF o)),.s o (x.Used.map (rB o))]
theorem aU.enc_fz(x:aU):dE (aU.enc .own x)=aU.enc .imm x:=by simp[dE,aU.enc,rB,dS,<-bZ,T4]
theorem aU.enc_fr(x:aU):gF (aU.enc .own x):=⟨⟨.inl λh=>(by cases h),bc _ _ λy _=>bJ y⟩,⟨.inl λh=>(by cases h),bc _ _ λy _=>AW y⟩,trivial⟩
def aU.wf(x:aU):Prop:=zA x.Cells/\LI x.Used
def aU.sml(x:aU):Prop:=vi x.Cells/\Kf x.Used
structure bi where
 Mode:Int
 Frame:Int
deriving DecidableEq,Inhabited
def bi.enc(o:d9)(x:bi):List C:=[I x.Mode,I x.Frame]
theorem bi.enc_fz(x:bi):dE (bi.enc .own x)=bi.enc .imm x:=by simp[dE,bi.enc]
theorem bi.enc_fr(x:bi):gF (bi.enc .own x):=⟨trivial,trivial,trivial⟩
def bi.wf(x:bi):Prop:=lQ x.Mode/\lQ x.Frame
def bi.sml(_:bi):Prop:=True
def uI(o:d9)(x:List bi):List C:=[.s o (x.map (bi.enc o))]
def Hk(x:List bi):Prop:=x.length<=9223372036854775807/\∀y∈x,bi.wf y
def Ew(x:List bi):Prop:=x.length<=1048576/\∀y∈x,bi.sml y
structure aH where
 Entries:List bi
deriving DecidableEq,Inhabited
def aH.enc(o:d9)(x:aH):List C:=[.s o (x.Entries.map (bi.enc o))]
theorem aH.enc_fz(x:aH):dE (aH.enc .own x)=aH.enc .imm x:=by simp[dE,aH.enc,bi.enc_fz,<-bZ,T4]
theorem CV:type_of% @aH.enc_fz:=@aH.enc_fz
theorem aH.enc_fr(x:aH):gF (aH.enc .own x):=⟨⟨.inl λh=>(by cases h),bc _ _ λy _=>bi.enc_fr y⟩,trivial⟩
def aH.wf(x:aH):Prop:=Hk x.Entries
def aH.sml(x:aH):Prop:=Ew x.Entries
structure aT where
 Frames:aU
 Table:aH
deriving DecidableEq,Inhabited
def aT.enc(o:d9)(x:aT):List C:=[.s o (x.Frames.Cells.map (aF o)),.s o (x.Frames.Used.map (rB o)),.s o (x.Table.Entries.map (bi.enc o))]
theorem aT.enc_fz(x:aT):dE (aT.enc .own x)=aT.enc .imm x:=by simp[dE,aT.enc,bi.enc_fz,rB,dS,<-bZ,T4]
theorem aT.enc_fr(x:aT):gF (aT.enc .own x):=⟨⟨.inl λh=>(by cases h),bc _ _ λy _=>bJ y⟩,⟨.inl λh=>(by cases h),bc _ _ λy _=>AW y⟩,⟨.inl λh=>(by cases h),bc _ _ λy _=>bi.enc_fr y⟩,trivial⟩
def aT.wf(x:aT):Prop:=aU.wf x.Frames/\aH.wf x.Table
def aT.sml(x:aT):Prop:=aU.sml x.Frames/\aH.sml x.Table
structure af where
 Machine:aT
 Calls:Int
 Refuse:List Int
deriving DecidableEq,Inhabited
def af.enc(o:d9)(x:af):List C:=[.s o (x.Machine.Frames.Cells.map (aF o)),.s o (x.Machine.Frames.Used.map (rB o)),.s o (x.Machine.Table.Entries.map (bi.enc o)),I x.Calls,.s o (x.Refuse.map (rI o))]
theorem af.enc_fz(x:af):dE (af.enc .own x)=af.enc .imm x:=by simp[dE,af.enc,bi.enc_fz,rB,rI,dS,<-bZ,T4]
theorem CO:type_of% @af.enc_fz:=@af.enc_fz
theorem af.enc_fr(x:af):gF (af.enc .own x):=⟨⟨.inl λh=>(by cases h),bc _ _ λy _=>bJ y⟩,⟨.inl λh=>(by cases h),bc _ _ λy _=>AW y⟩,⟨.inl λh=>(by cases h),bc _ _ λy _=>bi.enc_fr y⟩,trivial,⟨.inl λh=>(by cases h),bc _ _ λy _=>oX y⟩,trivial⟩
def af.wf(x:af):Prop:=aT.wf x.Machine/\lQ x.Calls/\iB x.Refuse
def af.sml(x:af):Prop:=aT.sml x.Machine/\q8 x.Refuse
structure a7 where
 At:Int
 Len:Int
deriving DecidableEq,Inhabited
def a7.enc(o:d9)(x:a7):List C:=[I x.At,I x.Len]
theorem a7.enc_fz(x:a7):dE (a7.enc .own x)=a7.enc .imm x:=by simp[dE,a7.enc]
theorem a7.enc_fr(x:a7):gF (a7.enc .own x):=⟨trivial,trivial,trivial⟩
def a7.wf(x:a7):Prop:=lQ x.At/\lQ x.Len
def a7.sml(_:a7):Prop:=True
def bB(o:d9)(x:List a7):List C:=[.s o (x.map (a7.enc o))]
theorem d7(x:List a7):dE (bB .own x)=bB .imm x:=by simp[dE,bB,a7.enc_fz,<-bZ,T4]
theorem nD(x:List a7):gF (bB .own x):=⟨⟨.inl λh=>(by cases h),bc _ _ λy _=>a7.enc_fr y⟩,trivial⟩
def HH(x:List a7):Prop:=x.length<=9223372036854775807/\∀y∈x,a7.wf y
def iE(x:List a7):Prop:=x.length<=1048576/\∀y∈x,a7.sml y
structure au where
 Page:Int
 Class:Int
 Bits:Int
deriving DecidableEq,Inhabited
def au.enc(o:d9)(x:au):List C:=[I x.Page,I x.Class,I x.Bits]
theorem au.enc_fz(x:au):dE (au.enc .own x)=au.enc .imm x:=by simp[dE,au.enc]
theorem au.enc_fr(x:au):gF (au.enc .own x):=⟨trivial,trivial,trivial,trivial⟩
def au.wf(x:au):Prop:=lQ x.Page/\lQ x.Class/\lQ x.Bits
def au.sml(_:au):Prop:=True
def cg(o:d9)(x:List au):List C:=[.s o (x.map (au.enc o))]
theorem wJ(x:List au):dE (cg .own x)=cg .imm x:=by simp[dE,cg,au.enc_fz,<-bZ,T4]
theorem Ei(x:List au):gF (cg .own x):=⟨⟨.inl λh=>(by cases h),bc _ _ λy _=>au.enc_fr y⟩,trivial⟩
def JY(x:List au):Prop:=x.length<=9223372036854775807/\∀y∈x,au.wf y
def du(x:List au):Prop:=x.length<=1048576/\∀y∈x,au.sml y
structure a8 where
 Page:Int
 Pages:Int
 Size:Int
deriving DecidableEq,Inhabited
def a8.enc(o:d9)(x:a8):List C:=[I x.Page,I x.Pages,I x.Size]
theorem a8.enc_fz(x:a8):dE (a8.enc .own x)=a8.enc .imm x:=by simp[dE,a8.enc]
theorem a8.enc_fr(x:a8):gF (a8.enc .own x):=⟨trivial,trivial,trivial,trivial⟩
def a8.wf(x:a8):Prop:=lQ x.Page/\lQ x.Pages/\lQ x.Size
def a8.sml(_:a8):Prop:=True
def bS(o:d9)(x:List a8):List C:=[.s o (x.map (a8.enc o))]
theorem AO(x:List a8):dE (bS .own x)=bS .imm x:=by simp[dE,bS,a8.enc_fz,<-bZ,T4]
def Ho(x:List a8):Prop:=x.length<=9223372036854775807/\∀y∈x,a8.wf y
def dr(x:List a8):Prop:=x.length<=1048576/\∀y∈x,a8.sml y
structure bx where
 Id:Int
 Addr:Int
 Size:Int
 Thread:Int
deriving DecidableEq,Inhabited
def bx.enc(o:d9)(x:bx):List C:=[I x.Id,I x.Addr,I x.Size,I x.Thread]
theorem bx.enc_fz(x:bx):dE (bx.enc .own x)=bx.enc .imm x:=by simp[dE,bx.enc]
theorem bx.enc_fr(x:bx):gF (bx.enc .own x):=⟨trivial,trivial,trivial,trivial,trivial⟩
def bx.wf(x:bx):Prop:=lQ x.Id/\lQ x.Addr/\lQ x.Size/\lQ x.Thread
def bx.sml(_:bx):Prop:=True
def lv(o:d9)(x:List bx):List C:=[.s o (x.map (bx.enc o))]
theorem Hp(x:List bx):dE (lv .own x)=lv .imm x:=by simp[dE,lv,bx.enc_fz,<-bZ,T4]
def MH(x:List bx):Prop:=x.length<=9223372036854775807/\∀y∈x,bx.wf y
def Ja(x:List bx):Prop:=x.length<=1048576/\∀y∈x,bx.sml y
structure aA where
 Lists:List (List Int)
deriving DecidableEq,Inhabited
def aA.enc(o:d9)(x:aA):List C:=[.s o (x.Lists.map (aF o))]
theorem aA.enc_fz(x:aA):dE (aA.enc .own x)=aA.enc .imm x:=by simp[dE,aA.enc,dS,<-bZ,T4]
theorem aA.enc_fr(x:aA):gF (aA.enc .own x):=⟨⟨.inl λh=>(by cases h),bc _ _ λy _=>bJ y⟩,trivial⟩
def aA.wf(x:aA):Prop:=zA x.Lists
def aA.sml(x:aA):Prop:=vi x.Lists
def jm(o:d9)(x:List aA):List C:=[.s o (x.map (aA.enc o))]
def GG(x:List aA):Prop:=x.length<=9223372036854775807/\∀y∈x,aA.wf y
def Ft(x:List aA):Prop:=x.length<=1048576/\∀y∈x,aA.sml y
structure dh where
 To:Int
 Addr:Int
deriving DecidableEq,Inhabited
def dh.enc(o:d9)(x:dh):List C:=[I x.To,I x.Addr]
theorem dh.enc_fz(x:dh):dE (dh.enc .own x)=dh.enc .imm x:=by simp[dE,dh.enc]
theorem dh.enc_fr(x:dh):gF (dh.enc .own x):=⟨trivial,trivial,trivial⟩
def dh.wf(x:dh):Prop:=lQ x.To/\lQ x.Addr
def dh.sml(_:dh):Prop:=True
def cZ(o:d9)(x:List dh):List C:=[.s o (x.map (dh.enc o))]
theorem pN(x:List dh):dE (cZ .own x)=cZ .imm x:=by simp[dE,cZ,dh.enc_fz,<-bZ,T4]
theorem pG(x:List dh):gF (cZ .own x):=⟨⟨.inl λh=>(by cases h),bc _ _ λy _=>dh.enc_fr y⟩,trivial⟩
def K3(x:List dh):Prop:=x.length<=9223372036854775807/\∀y∈x,dh.wf y
def GB(x:List dh):Prop:=x.length<=1048576/\∀y∈x,dh.sml y
def DM(o:d9)(x:List (List dh)):List C:=[.s o (x.map (cZ o))]
def GO(x:List (List dh)):Prop:=x.length<=9223372036854775807/\∀y∈x,K3 y
def Fh(x:List (List dh)):Prop:=x.length<=1048576/\∀y∈x,GB y
structure aK where
 Buffers:List (List dh)
 Inbox:List (List Int)
deriving DecidableEq,Inhabited
def aK.enc(o:d9)(x:aK):List C:=[.s o (x.Buffers.map (cZ o)),.s o (x.Inbox.map (aF o))]
theorem aK.enc_fz(x:aK):dE (aK.enc .own x)=aK.enc .imm x:=by simp[dE,aK.enc,pN,dS,<-bZ,T4]
theorem aK.enc_fr(x:aK):gF (aK.enc .own x):=⟨⟨.inl λh=>(by cases h),bc _ _ λy _=>pG y⟩,⟨.inl λh=>(by cases h),bc _ _ λy _=>bJ y⟩,trivial⟩
def aK.wf(x:aK):Prop:=GO x.Buffers/\zA x.Inbox
def aK.sml(x:aK):Prop:=Fh x.Buffers/\vi x.Inbox
structure aL where
 Addr:Int
 Class:Int
 Since:Int
deriving DecidableEq,Inhabited
def aL.enc(o:d9)(x:aL):List C:=[I x.Addr,I x.Class,I x.Since]
theorem aL.enc_fz(x:aL):dE (aL.enc .own x)=aL.enc .imm x:=by simp[dE,aL.enc]
theorem aL.enc_fr(x:aL):gF (aL.enc .own x):=⟨trivial,trivial,trivial,trivial⟩
def aL.wf(x:aL):Prop:=lQ x.Addr/\lQ x.Class/\lQ x.Since
def aL.sml(_:aL):Prop:=True
def cE(o:d9)(x:List aL):List C:=[.s o (x.map (aL.enc o))]
theorem Dj(x:List aL):dE (cE .own x)=cE .imm x:=by simp[dE,cE,aL.enc_fz,<-bZ,T4]
theorem t6(x:List aL):gF (cE .own x):=⟨⟨.inl λh=>(by cases h),bc _ _ λy _=>aL.enc_fr y⟩,trivial⟩
def HD(x:List aL):Prop:=x.length<=9223372036854775807/\∀y∈x,aL.wf y
def ke(x:List aL):Prop:=x.length<=1048576/\∀y∈x,aL.sml y
structure bF where
 Room:Int
 Lst:List aL
deriving DecidableEq,Inhabited
def bF.enc(o:d9)(x:bF):List C:=[I x.Room,.s o (x.Lst.map (aL.enc o))]
theorem bF.enc_fz(x:bF):dE (bF.enc .own x)=bF.enc .imm x:=by simp[dE,bF.enc,aL.enc_fz,<-bZ,T4]
theorem bF.enc_fr(x:bF):gF (bF.enc .own x):=⟨trivial,⟨.inl λh=>(by cases h),bc _ _ λy _=>aL.enc_fr y⟩,trivial⟩
def bF.wf(x:bF):Prop:=lQ x.Room/\HD x.Lst
def bF.sml(x:bF):Prop:=ke x.Lst
structure cB where
 Keep:Int
 Move:Int
 Cells:List Int
deriving DecidableEq,Inhabited
def cB.enc(o:d9)(x:cB):List C:=[I x.Keep,I x.Move,.s o (x.Cells.map (rI o))]
theorem cB.enc_fz(x:cB):dE (cB.enc .own x)=cB.enc .imm x:=by simp[dE,cB.enc,rI,<-bZ,T4]
theorem cB.enc_fr(x:cB):gF (cB.enc .own x):=⟨trivial,trivial,⟨.inl λh=>(by cases h),bc _ _ λy _=>oX y⟩,trivial⟩
def cB.wf(x:cB):Prop:=lQ x.Keep/\lQ x.Move/\iB x.Cells
def cB.sml(x:cB):Prop:=q8 x.Cells
structure cP where
 Plan:cB
 Phase:Int
 Next:Int
deriving DecidableEq,Inhabited
def cP.enc(o:d9)(x:cP):List C:=[I x.Plan.Keep,I x.Plan.Move,.s o (x.Plan.Cells.map (rI o)),I x.Phase,I x.Next]
theorem cP.enc_fz(x:cP):dE (cP.enc .own x)=cP.enc .imm x:=by simp[dE,cP.enc,rI,<-bZ,T4]
theorem cP.enc_fr(x:cP):gF (cP.enc .own x):=⟨trivial,trivial,⟨.inl λh=>(by cases h),bc _ _ λy _=>oX y⟩,trivial,trivial,trivial⟩
def cP.wf(x:cP):Prop:=cB.wf x.Plan/\lQ x.Phase/\lQ x.Next
def cP.sml(x:cP):Prop:=cB.sml x.Plan
structure ab where
 Kernel:af
 Free:List a7
 Spans:List au
 Larges:List a8
 Objs:List bx
 Caches:List aA
 Mail:aK
 Quar:bF
 Seed:Int
 Clock:Int
 Limit:Int
 Next:Int
 Meshing:Bool
 Job:cP
deriving DecidableEq,Inhabited
def ab.enc(o:d9)(x:ab):List C:=[.s o (x.Kernel.Machine.Frames.Cells.map (aF o)),.s o (x.Kernel.Machine.Frames.Used.map (rB o)),.s o (x.Kernel.Machine.Table.Entries.map (bi.enc o)),I x.Kernel.Calls,.s o (x.Kernel.Refuse.map (rI o)),.s o (x.Free.map (a7.enc o)),.s o (x.Spans.map (au.enc o)),.s o (x.Larges.map (a8.enc o)),.s o (x.Objs.map (bx.enc o)),.s o (x.Caches.map (aA.enc o)),.s o (x.Mail.Buffers.map (cZ o)),.s o (x.Mail.Inbox.map (aF o)),I x.Quar.Room,.s o (x.Quar.Lst.map (aL.enc o)),I x.Seed,I x.Clock,I x.Limit,I x.Next,B x.Meshing,I x.Job.Plan.Keep,I x.Job.Plan.Move,.s o (x.Job.Plan.Cells.map (rI o)),I x.Job.Phase,I x.Job.Next]
theorem ab.enc_fz(x:ab):dE (ab.enc .own x)=ab.enc .imm x:=by simp[dE,ab.enc,aA.enc_fz,bi.enc_fz,a8.enc_fz,bx.enc_fz,a7.enc_fz,au.enc_fz,aL.enc_fz,rB,pN,rI,dS,<-bZ,T4]
theorem ab.enc_fr(x:ab):gF (ab.enc .own x):=⟨⟨.inl λh=>(by cases h),bc _ _ λy _=>bJ y⟩,⟨.inl λh=>(by cases h),bc _ _ λy _=>AW y⟩,⟨.inl λh=>(by cases h),bc _ _ λy _=>bi.enc_fr y⟩,trivial,⟨.inl λh=>(by cases h),bc _ _ λy _=>oX y⟩,⟨.inl λh=>(by cases h),bc _ _ λy _=>a7.enc_fr y⟩,⟨.inl λh=>(by cases h),bc _ _ λy _=>au.enc_fr y⟩,⟨.inl λh=>(by cases h),bc _ _ λy _=>a8.enc_fr y⟩,⟨.inl λh=>(by cases h),bc _ _ λy _=>bx.enc_fr y⟩,⟨.inl λh=>(by cases h),bc _ _ λy _=>aA.enc_fr y⟩,⟨.inl λh=>(by cases h),bc _ _ λy _=>pG y⟩,⟨.inl λh=>(by cases h),bc _ _ λy _=>bJ y⟩,trivial,⟨.inl λh=>(by cases h),bc _ _ λy _=>aL.enc_fr y⟩,trivial,trivial,trivial,trivial,trivial,trivial,trivial,⟨.inl λh=>(by cases h),bc _ _ λy _=>oX y⟩,trivial,trivial,trivial⟩
def ab.wf(x:ab):Prop:=af.wf x.Kernel/\HH x.Free/\JY x.Spans/\Ho x.Larges/\MH x.Objs/\GG x.Caches/\aK.wf x.Mail/\bF.wf x.Quar/\lQ x.Seed/\lQ x.Clock/\lQ x.Limit/\lQ x.Next/\PP x.Meshing/\cP.wf x.Job
def ab.sml(x:ab):Prop:=af.sml x.Kernel/\iE x.Free/\du x.Spans/\dr x.Larges/\Ja x.Objs/\Ft x.Caches/\aK.sml x.Mail/\bF.sml x.Quar/\cP.sml x.Job
structure iF where
 Kind:Int
 Index:Int
 Slot:Int
 Offset:Int
deriving DecidableEq,Inhabited
def iF.enc(o:d9)(x:iF):List C:=[I x.Kind,I x.Index,I x.Slot,I x.Offset]
theorem iF.enc_fr(x:iF):gF (iF.enc .own x):=⟨trivial,trivial,trivial,trivial,trivial⟩
structure PQ where
 Id:Int
 Size:Int
 Sum:Int
deriving DecidableEq,Inhabited
structure bD where
 Id:Int
 Cells:List Int
deriving DecidableEq,Inhabited
def bD.enc(o:d9)(x:bD):List C:=[I x.Id,.s o (x.Cells.map (rI o))]
theorem bD.enc_fz(x:bD):dE (bD.enc .own x)=bD.enc .imm x:=by simp[dE,bD.enc,rI,<-bZ,T4]
theorem bD.enc_fr(x:bD):gF (bD.enc .own x):=⟨trivial,⟨.inl λh=>(by cases h),bc _ _ λy _=>oX y⟩,trivial⟩
def bD.sml(x:bD):Prop:=q8 x.Cells
def DN(x:List bD):Prop:=x.length<=1048576/\∀y∈x,bD.sml y
structure ax where
 Next:Int
 Objs:List bD
deriving DecidableEq,Inhabited
def ax.enc(o:d9)(x:ax):List C:=[I x.Next,.s o (x.Objs.map (bD.enc o))]
theorem ax.enc_fz(x:ax):dE (ax.enc .own x)=ax.enc .imm x:=by simp[dE,ax.enc,bD.enc_fz,<-bZ,T4]
theorem CW:type_of% @ax.enc_fz:=@ax.enc_fz
theorem ax.enc_fr(x:ax):gF (ax.enc .own x):=⟨trivial,⟨.inl λh=>(by cases h),bc _ _ λy _=>bD.enc_fr y⟩,trivial⟩
def ax.sml(x:ax):Prop:=DN x.Objs
structure bH where
 Heap:ab
 Ref:ax
deriving DecidableEq,Inhabited
def bH.enc(o:d9)(x:bH):List C:=[.s o (x.Heap.Kernel.Machine.Frames.Cells.map (aF o)),.s o (x.Heap.Kernel.Machine.Frames.Used.map (rB o)),.s o (x.Heap.Kernel.Machine.Table.Entries.map (bi.enc o)),I x.Heap.Kernel.Calls,.s o (x.Heap.Kernel.Refuse.map (rI o)),.s o (x.Heap.Free.map (a7.enc o)),.s o (x.Heap.Spans.map (au.enc o)),.s o (x.Heap.Larges.map (a8.enc o)),.s o (x.Heap.Objs.map (bx.enc o)),.s o (x.Heap.Caches.map (aA.enc o)),.s o (x.Heap.Mail.Buffers.map (cZ o)),.s o (x.Heap.Mail.Inbox.map (aF o)),I x.Heap.Quar.Room,.s o (x.Heap.Quar.Lst.map (aL.enc o)),I x.Heap.Seed,I x.Heap.Clock,I x.Heap.Limit,I x.Heap.Next,B x.Heap.Meshing,I x.Heap.Job.Plan.Keep,I x.Heap.Job.Plan.Move,.s o (x.Heap.Job.Plan.Cells.map (rI o)),I x.Heap.Job.Phase,I x.Heap.Job.Next,I x.Ref.Next,.s o (x.Ref.Objs.map (bD.enc o))]
theorem bH.enc_fr(x:bH):gF (bH.enc .own x):=⟨⟨.inl λh=>(by cases h),bc _ _ λy _=>bJ y⟩,⟨.inl λh=>(by cases h),bc _ _ λy _=>AW y⟩,⟨.inl λh=>(by cases h),bc _ _ λy _=>bi.enc_fr y⟩,trivial,⟨.inl λh=>(by cases h),bc _ _ λy _=>oX y⟩,⟨.inl λh=>(by cases h),bc _ _ λy _=>a7.enc_fr y⟩,⟨.inl λh=>(by cases h),bc _ _ λy _=>au.enc_fr y⟩,⟨.inl λh=>(by cases h),bc _ _ λy _=>a8.enc_fr y⟩,⟨.inl λh=>(by cases h),bc _ _ λy _=>bx.enc_fr y⟩,⟨.inl λh=>(by cases h),bc _ _ λy _=>aA.enc_fr y⟩,⟨.inl λh=>(by cases h),bc _ _ λy _=>pG y⟩,⟨.inl λh=>(by cases h),bc _ _ λy _=>bJ y⟩,trivial,⟨.inl λh=>(by cases h),bc _ _ λy _=>aL.enc_fr y⟩,trivial,trivial,trivial,trivial,trivial,trivial,trivial,⟨.inl λh=>(by cases h),bc _ _ λy _=>oX y⟩,trivial,trivial,trivial,⟨.inl λh=>(by cases h),bc _ _ λy _=>bD.enc_fr y⟩,trivial⟩
structure cv where
 Pages:Int
 Mapped:Int
 Frames:Int
 Held:Int
 Live:Int
 Cached:Int
 Stale:Int
 Posted:Int
deriving DecidableEq,Inhabited
def cv.enc(o:d9)(x:cv):List C:=[I x.Pages,I x.Mapped,I x.Frames,I x.Held,I x.Live,I x.Cached,I x.Stale,I x.Posted]
theorem cv.enc_fz(x:cv):dE (cv.enc .own x)=cv.enc .imm x:=by simp[dE,cv.enc]
theorem cv.enc_fr(x:cv):gF (cv.enc .own x):=⟨trivial,trivial,trivial,trivial,trivial,trivial,trivial,trivial,trivial⟩
theorem Lm{α β:Type}{f:α->β}{l:List α}{K:Nat->Prop}(h:K l.length):Ln (l.map f).length K:=Ln.mk (W0 ..) h
theorem Wm{z:Int}{K:Int->Prop}(h : -9223372036854775808<=z/\z<=9223372036854775807)(a:K z):Wr .i64 z K:=CJ (ek h.1 h.2) a
theorem dT{p:Prop}[Decidable p]{X Y:Prop}(h:p)(a:p->X):Bf (decide p) X Y:=.D a λe=>absurd h e
theorem dF{p:Prop}[Decidable p]{X Y:Prop}(h:¬p)(a:¬p->Y):Bf (decide p) X Y:=.D (λe=>absurd e h) a
theorem nT{a b:Int}{X Y:Prop}(h:a≠b)(c:a≠b->X):Bf (a != b) X Y:=.N c λe=>absurd e h
theorem nF{a b:Int}{X Y:Prop}(h:a=b)(c:a=b->Y):Bf (a != b) X Y:=.N (λe=>absurd h e) c
theorem eT{a b:Int}{X Y:Prop}(h:a=b)(c:a=b->X):Bf (a == b) X Y:=.E c λe=>absurd h e
theorem eF{a b:Int}{X Y:Prop}(h:a≠b)(c:a≠b->Y):Bf (a == b) X Y:=.E (λe=>absurd e h) c
theorem Bn{b:Bool}{X Y:Prop}(h:Bf b Y X):Bf (!b) X Y:=.not h
theorem Bt{X Y:Prop}(h:X):Bf true X Y:=.t rfl h
theorem Bu{X Y:Prop}(h:Y):Bf false X Y:=.f rfl h
theorem Fm{k b:Kd}{cs a:List C}(h1:k=b)(h:cs=a):jt k b cs a:=.mk h1 h
theorem dV{p:Prop}[Decidable p]{X Y:Prop}(h:p)(a:X):Bf (decide p) X Y:=.D (λ_=>a) λe=>absurd h e
theorem dW{p:Prop}[Decidable p]{X Y:Prop}(h:¬p)(a:Y):Bf (decide p) X Y:=.D (λe=>absurd e h) λ_=>a
theorem nV{a b:Int}{X Y:Prop}(h:a≠b)(c:X):Bf (a != b) X Y:=.N (λ_=>c) λe=>absurd e h
theorem nW{a b:Int}{X Y:Prop}(h:a=b)(c:Y):Bf (a != b) X Y:=.N (λe=>absurd h e) λ_=>c
theorem eV{a b:Int}{X Y:Prop}(h:a=b)(c:X):Bf (a == b) X Y:=.E (λ_=>c) λe=>absurd h e
theorem eW{a b:Int}{X Y:Prop}(h:a≠b)(c:Y):Bf (a == b) X Y:=.E (λe=>absurd e h) λ_=>c
structure Nd(Y:Prop):Prop where
 out:Y
theorem gO{X Y:Prop}(y:Y)(h:Nd Y->X:=by intro y;(conv=>whnf);(first|with_reducible (first|refine Lm ?_|refine Wm ω ?_|refine Bn ?_|refine Fm rfl ?_)|refine Bt ?_|refine Bu ?_|fail);exact y.out):X:=h ⟨y⟩
theorem gD{X Y:Prop}(y:Y)(h:Nd Y->X:=by intro y;(conv=>whnf);(first|with_reducible (first|refine Lm ?_|refine Wm ω ?_|refine dV ω ?_|refine dW ω ?_|refine Bn ?_|refine Fm rfl ?_)|refine Bt ?_|refine Bu ?_|fail);exact y.out):X:=h ⟨y⟩
theorem gA{X Y:Prop}(y:Y)(h:Nd Y->X:=by intro y;(conv=>whnf);(first|with_reducible (first|refine Lm ?_|refine Wm ω ?_|refine dV ω ?_|refine dW ω ?_|refine nV ω ?_|refine nW ω ?_|refine eV ω ?_|refine eW ω ?_|refine Bn ?_|refine Fm rfl ?_)|refine Bt ?_|refine Bu ?_|fail);exact y.out):X:=h ⟨y⟩
theorem Pm{z1 z2:Int}(h:z1=z2):Mx (I z1) (I z2):=by subst h;rfl
theorem P7(c:C):Mx c c:=(lD [c]).1
theorem wA{X:Prop}(h:X:=by repeat'(first|exact trivial|rfl|refine CI ?_ ?_)):X:=h
theorem wB{X:Prop}(h:X:=by repeat'(first|exact trivial|rfl|refine CI ?_ ?_|(exact Pm (by first|omega|(simp only;omega)|(simp;omega))))):X:=h
theorem wC{X:Prop}(h:X:=by repeat'(first|exact trivial|rfl|exact P7 _|refine CI ?_ ?_|(exact Pm (by first|omega|(simp only;omega)|(simp;omega))))):X:=h
theorem fO(n : Nat){f : Nat}{a : Func}{c : Code}{sh : Bool}{A : List RA}{k : Kd}{rcs : List C}(tb : List (Nat × Nat × List Nat))(d : Tryz.prog.funcs[f]? = some a)(e : a.body = some c)(g : aw Tryz.prog TE ⟨n, [], []⟩ (DF Tryz.prog TE ⟨n, [], []⟩ tb) c (Ma TE a.results.toList k rcs) (lay (tI 0 A)))(b : sh = true \/ gF rcs := by exact .inr ⟨trivial, trivial⟩)(h : (a.name == "runtime.NumGoroutine") = false := by kernel_rfl)(i : fA (mI tb) c = true := by kernel_rfl)(j : A.length + (a.ntmps - A.length) = n := by rfl) : ao Tryz.prog f sh A k rcs := Pa d h e i j b g
theorem fP(n : Nat){f : Nat}{a : Func}{c : Code}{sh : Bool}{A : List RA}{k : Kd}{rcs : List C}(mo : List (Nat × List Nat))(tb : List (Nat × Nat × List Nat))(d : Tryz.prog.funcs[f]? = some a)(e : a.body = some c)(g : aw Tryz.prog TE ⟨n, [], mo⟩ (DF Tryz.prog TE ⟨n, [], mo⟩ tb) c (Ma TE a.results.toList k rcs) (lay (tI 0 A)))(b : sh = true \/ gF rcs := by exact .inr ⟨trivial, trivial⟩)(h : (a.name == "runtime.NumGoroutine") = false := by kernel_rfl)(i : fA (mI tb) c = true := by kernel_rfl)(j : A.length + (a.ntmps - A.length) = n := by rfl) : ao Tryz.prog f sh A k rcs := Pa d h e i j b g
theorem fM(n : Nat){f : Nat}{a : Func}{c : Code}{sh : Bool}{A B : List MA}{k : Kd}{rcs : List C}(mo : List (Nat × List Nat))(tb : List (Nat × Nat × List Nat))(b : List (Nat × Nat))(g : Tryz.prog.funcs[f]? = some a)(h : a.body = some c)(i : ∀(u : Nat -> Nat -> Value)(p : Nat -> Value), aw Tryz.prog TE ⟨n, Gd p 0 A, mo⟩ (DF Tryz.prog TE ⟨n, Gd p 0 A, mo⟩ tb) c (NS TE a.results.toList k rcs u A B b) (lay (uW u 0 A)))(d : sh = true \/ gF rcs := by exact .inr ⟨trivial, trivial⟩)(j : (a.name == "runtime.NumGoroutine") = false := by kernel_rfl)(l : fA (mI tb) c = true := by kernel_rfl)(o : A.length + (a.ntmps - A.length) = n := by rfl)(e : DR (AG 0 A b) = true := by rfl) : aS Tryz.prog f sh A B k rcs := Pk b g j h l o e d i
section
variable{α:Type}{l:List α}{p:α->Bool}{i:Nat}{x:α}
theorem cy(h:l[i]? = some x)(a:(l.take i).all p=true)(b:p x=true):(l.take (i+1)).all p=true:=by
 rw[O4,h,List.all_append,a];simp[b]
theorem ec(h:l[i]? = some x)(a:p x=false):l.all p=false:=by
 rw[List.all_eq_false];exact⟨x,Q1 h,by simp[a]⟩
theorem gc(a:l.length<=i)(b:(l.take i).all p=true):l.all p=true:=by
 rwa [O5 a]at b
end
theorem uo{α β:Type}{a:List α}{b:List β}{i:Nat}{x:α}{y:β}(h1:a[i]? = some x)(c:b[i]? = some y):(a.zip b)[i]? = some (x,y):=by
 rw[List.getElem?_zip_eq_some];exact⟨h1,c⟩
def nth{α:Type}[Inhabited α](xs:List α)(i:Nat):α:=xs.getD i default
theorem ah{α:Type}[Inhabited α]{xs:List α}{i:Nat}(h:i<xs.length):xs[i]? = some (nth xs i):=by
 unfold nth;rw[Z1,U1 h];rfl
theorem bp{α:Type}[Inhabited α]{xs:List α}{i:Nat}{y:α}(h:xs[i]? = some y):nth xs i=y:=by
 unfold nth;rw[Z1,h];rfl
theorem am{α:Type}[Inhabited α]{xs:List α}{i:Nat}(h:i<xs.length):nth xs i∈xs:=Q1 (ah h)
def cw(n:Nat)(p:Nat->Bool):Bool:=(List.range n).all p
theorem cn{n:Nat}{p:Nat->Bool} : cw n p=true↔∀j,j<n->p j=true:=by
 unfold cw;simp
theorem bE{n:Nat}{p:Nat->Bool}(h:cw n p=true)(a:p n=true):cw (n+1) p=true:=by
 rw[cn]at *;grind
theorem ca{n i:Nat}{p:Nat->Bool}(a:i<n)(b:p i=false):cw n p=false:=by
 by_cases h:cw n p=true
 ·rw[cn]at h;grind
 ·simpa using h
theorem d5{n i:Nat}{p:Nat->Bool}(h:cw n p=true)(a:i<n):p i=true:=cn.1 h i a
def iA(u:Bool)(v:Int):Bool:=decide (0<=v/\v<=999)&&(u || decide (v=0))
def gX(r:List Int)(u:Bool):Bool:=decide (r.length=16)&&r.all (iA u)
def cC(f:aU):Bool:=decide (1<=f.Cells.length/\f.Cells.length<=32)&&(decide (f.Used.length=f.Cells.length)&&(f.Cells.zip f.Used).all λq=>gX q.1 q.2)
theorem gR{f:aU}{i:Nat}{r:List Int}{u:Bool}(h1:f.Cells[i]? = some r)(a:f.Used[i]? = some u)(b:gX r u=false):cC f=false:=by
 unfold cC;rw[ec (p:=λq=>gX q.1 q.2) (uo h1 a) b];simp
theorem rr{r:List Int}{u:Bool}{k:Nat}{v:Int}(h1:r[k]? = some v)(a:iA u v=false):gX r u=false:=by
 unfold gX;rw[ec h1 a];simp
theorem yS{f:aU}(h:cC f=true):1<=f.Cells.length/\f.Cells.length<=32/\f.Used.length=f.Cells.length:=by
 unfold cC at h;simp only[I0,C0]at h;exact⟨h.1.1,h.1.2,h.2.1⟩
def jW(a:Int)(e:bi):Bool:=decide (0<=e.Mode/\e.Mode<=2/\(e.Mode=0->e.Frame=0)/\(e.Mode≠0->0<=e.Frame/\e.Frame<a))
def fE(t:aH)(a:Int):Bool:=cw t.Entries.length (λi=>jW a (nth t.Entries i))&&decide (1<=t.Entries.length/\t.Entries.length<=32)
def HN(t:aH)(f:Int)(i:Nat):Bool:=decide ((nth t.Entries i).Mode≠0/\(nth t.Entries i).Frame=f)
def je(t:aH)(f:Int)(n:Nat):List Int:=((List.range n).filter (HN t f)).map λ(i:Nat)=>(i:Int)
def pagesOn(t:aH)(f:Int):List Int:=je t f t.Entries.length
theorem yB{t:aH}{f:Int}{n:Nat}(h:HN t f n=true):je t f (n+1)=je t f n++[(n:Int)]:=by
 unfold je;rw[List.range_succ,List.filter_append,R4];simp[h]
theorem AA{t:aH}{f:Int}{n:Nat}(h:HN t f n=false):je t f (n+1)=je t f n:=by
 unfold je;rw[List.range_succ,List.filter_append,R4];simp[h]
theorem r8(t:aH)(f:Int)(n:Nat):(je t f n).length<=n:=by
 unfold je;rw[W0];exact Z3 (List.length_filter_le ..) (by simp)
def ar(t:aH)(p:Int):bi:=if 0<=p/\p<t.Entries.length then nth t.Entries p.toNat else⟨0,0⟩
def nC(m:aT)(i:Nat):Bool:=nth m.Frames.Used i == decide (0<(pagesOn m.Table (i:Int)).length)
def dt(m:aT):Bool:=(cC m.Frames&&fE m.Table m.Frames.Used.length)&&cw m.Frames.Used.length (nC m)
def aB(k:af):Bool:=(cw k.Refuse.length (λi=>decide (0<=nth k.Refuse i))&&dt k.Machine)&&decide (0<=k.Calls/\k.Calls<=100000/\k.Refuse.length<=40)
def rangeIn(pages:Int)(r:a7):Bool:=decide (1<=r.Len/\r.Len<=pages/\0<=r.At/\r.At<=pages - r.Len)
def fD(pages:Int)(xs:List a7)(i:Nat):Bool:=rangeIn pages (nth xs i)&&decide (i=0\/(nth xs (i - 1)).At+(nth xs (i - 1)).Len<(nth xs i).At)
def bv(pages:Int)(xs:List a7):Bool:=cw xs.length (fD pages xs)&&decide (1<=pages/\pages<=32)
def pP(page:Int)(r:a7):Bool:=decide (r.At<=page)&&decide (page<IntKind.i64.wrap (r.At+r.Len))
def lim(k:Int):Int:=if k=0 then 65535 else if k=1 then 255 else if k=2 then 15 else if k=3 then 3 else 0
def slots(k:Int):Int:=if k=0 then 16 else if k=1 then 8 else if k=2 then 4 else if k=3 then 2 else 0
def aY(s:au):Bool:=decide (0<=s.Page/\s.Page<=31/\0<=s.Class/\s.Class<=3/\0<=s.Bits/\s.Bits<=lim s.Class)
def eM(n:Int):Int:=if 9<=n/\n<=1000 then(n+15) / 16 else 0
def bO(l:a8):Bool:=decide (9<=l.Size/\l.Size<=1000/\l.Pages=(l.Size+15) / 16/\0<=l.Page/\l.Page<=32 - l.Pages)
def lpgs(l:a8)(n:Nat):List Int:=(List.range n).map λ(i:Nat)=>l.Page+i
def pgs(sp:List au)(la:List a8):List Int:=sp.map (·.Page)++la.flatMap λl=>lpgs l l.Pages.toNat
def bf(sp:List au)(la:List a8):Bool:=(sp.all aY&&la.all bO)&&decide (pgs sp la).Nodup
def ch(s:au)(a:Int):Bool:=aY s&&decide (16*s.Page<=a/\a<=16*s.Page+15)
def aQ(b i:Int):Bool:=decide (0<=b/\0<=i/\i<=15/\b / 2 ^ i.toNat % 2=1)
def bk(l:a8)(a:Int):Bool:=bO l&&decide (16*l.Page<=a/\a<=16*l.Page+l.Size - 1)
def csz(k:Int):Int:=if 0<=k/\k<=3 then 2 ^ k.toNat else 0
def iv(s:au)(a:Int):Int × Int:=if ch s a then((a - 16*s.Page) / csz s.Class,(a - 16*s.Page) % csz s.Class) else(-1,-1)
def mX(i:Nat)(s:au)(a:Int):iF:=⟨if aQ s.Bits ((a - 16*s.Page) / csz s.Class) then 1 else 2,i,(a - 16*s.Page) / csz s.Class,(a - 16*s.Page) % csz s.Class⟩
def denotes(sp:List au)(la:List a8)(a:Int):iF:=
 match sp.findIdx? (ch · a) with
 | some i=>mX i (nth sp i) a
 | none=>match la.findIdx? (bk · a) with
  | some i=>⟨3,i,0,a - 16*(nth la i).Page⟩
  | none=>⟨0,0,0,0⟩
theorem un{α:Type}{pr:α->Bool}{xs:List α}{i:Nat}{y:α}(a:xs[i]? = some y)(b:pr y=true)(c:∀(j:Nat)(z:α),j<i->xs[j]? = some z->pr z=false):xs.findIdx? pr=some i:=by
 obtain⟨d,rfl⟩:=V1.1 a;exact I5.2 ⟨d,b,λj e=>by
   have:=c j _ e (U1 ω);simp[this]⟩
theorem vk{α:Type}{pr:α->Bool}{xs:List α}{i:Nat}(d:xs.length<=i)(b:∀(j:Nat)(z:α),j<i->xs[j]? = some z->pr z=false):xs.findIdx? pr=none:=
 List.findIdx?_eq_none_iff.2 λz c=>by
  obtain⟨j,a⟩:=List.mem_iff_getElem?.1 c;exact b j z (by have:=(V1.1 a).1;omega) a
theorem cX{α:Type}{pr:α->Bool}{xs:List α}{i:Nat}{y:α}(c:xs[i]? = some y)(d:pr y=false)(e:∀(j:Nat)(z:α),j<i->xs[j]? = some z->pr z=false):∀(j:Nat)(z:α),j<i+1->xs[j]? = some z->pr z=false:=by
 intro j z f a;rcases Nat.lt_or_ge j i with b|b
 ·exact e j z b a
 ·obtain rfl:j=i:=ω
  rw[c]at a;cases a;exact d
def df{α:Type}(pr:α->Bool)(xs:List α):Int:=match xs.findIdx? pr with|some i=>(i:Nat)|none=>-1
theorem d2{α:Type}{pr:α->Bool}{xs:List α}{i:Nat}{y:α}(a:xs[i]? = some y)(b:pr y=true)(c:∀(j:Nat)(z:α),j<i->xs[j]? = some z->pr z=false):df pr xs=(i:Nat):=by
 unfold df;rw[un a b c]
theorem eB{α:Type}{pr:α->Bool}{xs:List α}{i:Nat}(a:xs.length<=i)(b:∀(j:Nat)(z:α),j<i->xs[j]? = some z->pr z=false):df pr xs = -1:=by
 unfold df;rw[vk a b]
theorem fY{α:Type}(pr:α->Bool)(xs:List α):decide (df pr xs≥0)=xs.any pr:=by
 unfold df;cases h:xs.findIdx? pr with
 | none=>
  have:=List.findIdx?_eq_none_iff.1 h;have a:xs.any pr=false:=by rw[List.any_eq_false];intro y b;simp[this y b]
  rw[a];rfl
 | some i=>
  obtain⟨c,d,-⟩:=I5.1 h;have a:xs.any pr=true:=C3.2 ⟨_,List.getElem_mem c,d⟩;rw[a];simp
def meshable(s t:au):Bool:=(aY s&&aY t)&&decide (s.Class=t.Class/\s.Page≠t.Page/\s.Bits.toNat &&& t.Bits.toNat=0)
def mF(n:Int)(p:dh):Bool:=decide (0<=p.To/\p.To<=n - 1/\0<=p.Addr)
def MD(z:Int):Bool:=decide (0<=z)
def fZ(m:aK)(i:Nat):Bool:=(nth m.Buffers i).all (mF m.Buffers.length)&&(nth m.Inbox i).all MD
def bq(m:aK):Nat->Int
 | 0=>0
 | i+1=>bq m i+((nth m.Buffers i).length+(nth m.Inbox i).length)
def bA(m:aK):Bool:=(decide (1<=m.Buffers.length/\m.Buffers.length<=4/\m.Inbox.length=m.Buffers.length)&&cw m.Buffers.length (fZ m))&&decide (bq m m.Buffers.length<=30)
def aC(m:aK):List Int:=if bA m then(m.Buffers.flatMap λl=>l.map (·.Addr))++m.Inbox.flatten else []
def dl(a:Int)(y:aL):Bool:=decide (y.Addr=a)
def iM(xs:List aL)(i:Nat):Bool:=decide (0<=(nth xs i).Class/\(nth xs i).Class<=3/\0<=(nth xs i).Addr/\0<=(nth xs i).Since/\(i=0\/(nth xs (i - 1)).Since<=(nth xs i).Since))&&!(xs.take i).any (dl (nth xs i).Addr)
def quarCells(xs:List aL):Nat->Int
 | 0=>0
 | i+1=>quarCells xs i+csz (nth xs i).Class
def eK(q:bF):Bool:=cw q.Lst.length (iM q.Lst)&&decide (0<=q.Room/\q.Room<=500/\quarCells q.Lst q.Lst.length<=q.Room)
def mg(xs:List Int)(i:Nat):Bool:=decide (0<=nth xs i/\nth xs i<=15/\(i=0\/nth xs (i - 1)<nth xs i))
def eN(p:cB):Bool:=cw p.Cells.length (mg p.Cells)&&decide (0<=p.Keep/\p.Keep<=31/\0<=p.Move/\p.Move<=31/\p.Keep≠p.Move)
def jh(j:cP):Bool:=eN j.Plan&&decide (0<=j.Phase/\j.Phase<=5/\0<=j.Next/\j.Next<=j.Plan.Cells.length)
def qK(j:cP):Bool:=decide (j.Plan.Keep=0/\j.Plan.Move=0/\j.Plan.Cells.length=0/\j.Phase=0/\j.Next=0)
def aO(h:ab)(p:Int):List Int:=if(ar h.Kernel.Machine.Table p).Mode=0 then [] else pagesOn h.Kernel.Machine.Table (ar h.Kernel.Machine.Table p).Frame
def iG(p:Int)(s:au):Bool:=decide (s.Page=p)
def dU(h:ab)(p:Int):Int:=df (iG p) h.Spans
def aI(n:Int):Int:=if n<1 then -1 else if n<=1 then 0 else if n<=2 then 1 else if n<=4 then 2 else if n<=8 then 3 else -1
set_option maxRecDepth 20000
set_option maxHeartbeats 2000000
theorem aG(n lo a:Int):ao Tryz.prog 152 false [.val none [I n],.val none [I lo],.val none [I a]] .one [B (decide (lo<=n/\n<=a))]:=by
 refine fO 15 [] Tryz.func152 rfl ?_
 repeat'(first|refine gO ?_|(conv=>whnf);first|with_reducible refine Bf.D (λb=>?_) (λb=>?_))
 all_goals exact T0 (λz=>[B z]) (by simp;try omega)
theorem aM(n lo a:Int):ao Tryz.prog 76 false [.val none [I n],.val none [I lo],.val none [I a]] .one [B (decide (lo<=n/\n<=a))]:=by
 refine fO 15 [] Tryz.func76 rfl ?_
 repeat'(first|refine gO ?_|(conv=>whnf);first|with_reducible refine Bf.D (λb=>?_) (λb=>?_))
 all_goals exact T0 (λz=>[B z]) (by simp;try omega)
theorem fh(k:Int):ao Tryz.prog 167 false [.val none [I k]] .one [B (decide (0<=k/\k<=3))]:=by
 refine fO 5 [] Tryz.func167 rfl ?_
 repeat'(first|refine gO ?_|(conv=>whnf);first|refine C6 (aM k 0 3) ?_)
 rfl
theorem ci(k:Int):ao Tryz.prog 89 false [.val none [I k]] .one [I (csz k)]:=by
 by_cases b:0<=k/\k<=3
 ·obtain rfl|rfl|rfl|rfl:k=0\/k=1\/k=2\/k=3:=ω
  all_goals
   refine fO 8 [] Tryz.func89 rfl ?_
   repeat'(first|refine gD ?_|(conv=>whnf);first|with_reducible refine Bf.D (λa=>?_) (λa=>?_)|refine C6 (fh _) ?_|refine CL (by decide) ?_|refine CJ rfl ?_)
   exact T0 (λz=>[I z]) (by decide)
 ·refine fO 8 [] Tryz.func89 rfl ?_
  repeat'(first|refine gD ?_|(conv=>whnf);first|with_reducible refine Bf.D (λa=>?_) (λa=>?_)|refine C6 (fh _) ?_)
  exact T0 (λz=>[I z]) (by unfold csz;rw[C7 b])
theorem cR(k:Int):ao Tryz.prog 274 false [.val none [I k]] .one [I (csz k)]:=by
 by_cases b:0<=k/\k<=3
 ·obtain rfl|rfl|rfl|rfl:k=0\/k=1\/k=2\/k=3:=ω
  all_goals
   refine fO 9 [] Tryz.func274 rfl ?_
   repeat'(first|refine gD ?_|(conv=>whnf);first|with_reducible refine Bf.D (λa=>?_) (λa=>?_)|refine C6 (aG _ 0 3) ?_|refine CL (by decide) ?_|refine CJ rfl ?_)
   exact T0 (λz=>[I z]) (by decide)
 ·refine fO 9 [] Tryz.func274 rfl ?_
  repeat'(first|refine gD ?_|(conv=>whnf);first|with_reducible refine Bf.D (λa=>?_) (λa=>?_)|refine C6 (aG _ 0 3) ?_)
  exact T0 (λz=>[I z]) (by unfold csz;rw[C7 b])
theorem lN(xs:List Int)(a:Int)(j:xs.length<=9223372036854775807):ao Tryz.prog 268 false [.val none (aF .imm xs),.val none [I a]] .one [B (decide (a∈xs))]:=by
 refine fO 18 [] Tryz.func268 rfl ?_
 repeat'(first|refine gO ?_|fail)
 (conv=>whnf)
 refine CD (ι:=Nat) (λi=>[(0,.hold .one (aF .imm xs)),(1,.hold .one [I a]),(5,.hold .one [I (i:Nat)])]) (λi=>i<=xs.length/\a∉xs.take i) (λi=>xs.length - i) 0 ?_ ⟨R0 _,by simp⟩ λi g=>?_
 ·exact wB
 ·obtain⟨g,b⟩:=g
  by_cases c:i<xs.length
  ·obtain⟨y,d⟩ : ∃y,xs[i]? = some y:=⟨_,U1 c⟩
   repeat'(first|refine gD ?_|(conv=>whnf);first|with_reducible (first|refine CA (aa d) ?_|refine Bf.E (λh=>?_) (λh=>?_)))
   ·exact T0 (λz=>[B z]) (by symm;simp;rw[<-‹y=a›];exact Q1 d)
   ·(conv=>whnf)
    refine CB (i+1) ⟨ω,?_⟩ ω ?_
    ·rw[O4,d]
     simp only[Option.toList_some,O2,Z0,not_or];exact⟨b,λe=>‹y≠a› e.symm⟩
    ·exact wB
  ·repeat'(first|refine gD ?_|fail)
   rw[O5 ω]at b;exact T0 (λz=>[B z]) (by symm;simpa using b)
set_option maxHeartbeats 4000000
def good(k:Int)(s:List Int)(a:Int):Prop:=0<=a/\a<=511/\a.tmod (csz k)=0/\a∉s
instance (k:Int) (s:List Int) (a:Int):Decidable (good k s a):=by unfold good;exact inferInstance
def qh(k:Int):List Int->List Int->Option (List Int)
 | s,[]=>some s
 | s,a::l=>if good k s a then qh k (s++[a]) l else none
def ee(k:Nat)(s l:List Int):Option (List Int):=if l.length<=8/\k<=3 then qh k s l else none
def fI:Nat->List Int->List (List Int)->Option (List Int)
 | _,s,[]=>some s
 | k,s,l::ls=>(ee k s l).bind λa=>fI (k+1) a ls
def bm(c:aA):Bool:=decide (c.Lists.length=4)&&(fI 0 [] c.Lists).isSome
theorem pF(k:Int):∀(a s b:List Int),qh k s (a++b)=(qh k s a).bind λc=>qh k c b
 | [],s,b=>rfl
 | x::a,s,b=>by
  simp only[List.cons_append,qh];split
  ·exact pF k a _ b
  ·rfl
theorem nQ:∀(a:List (List Int))(k:Nat)(s:List Int)(b:List (List Int)),fI k s (a++b)=(fI k s a).bind λc=>fI (k+a.length) c b
 | [],k,s,b=>rfl
 | l::a,k,s,b=>by
  simp only[List.cons_append,fI,Option.bind_assoc,List.length_cons]
  congr 1;funext c
  rw[nQ a (k+1) c b,show k+1+a.length=k+(a.length+1) by omega]
theorem FM{k:Int}{l b s:List Int}{j:Nat}{a:Int}(c:l[j]? = some a)(h:qh k b (l.take j)=some s)(d:good k s a):qh k b (l.take (j+1))=some (s++[a]):=by
 rw[O4,c,Option.toList_some,pF,h];simp[qh,d]
theorem K9{k:Nat}{l c s:List Int}{j:Nat}{a:Int}(d:l[j]? = some a)(h:qh k c (l.take j)=some s)(e:¬good k s a):ee k c l=none:=by
 unfold ee;split
 ·have:l=l.take j++(a::l.drop (j+1)):=by
   obtain⟨b,rfl⟩:=V1.1 d;rw[<-List.drop_eq_getElem_cons b,List.take_append_drop]
  rw[this,pF,h];simp[qh,e]
 ·rfl
theorem Ac{k:Int} : ∀{l s b:List Int},qh k s l=some b->b.length=s.length+l.length
 | [],s,b,h=>by simp only[qh,U0]at h;subst h;simp
 | a::l,s,b,h=>by
  simp only[qh]at h;split at h
  ·have:=Ac h;simp at this |-;omega
  ·cases h
theorem rM{a:List (List Int)}{i:Nat}{l s:List Int}(b:a[i]? = some l)(h:fI 0 [] (a.take i)=some s):fI 0 [] (a.take (i+1))=ee i s l:=by
 have c:=(V1.1 b).1;rw[O4,b,Option.toList_some,nQ,h];simp only[Option.bind_some,fI,C5,I1,Nat.min_eq_left (Nat.le_of_lt c)];cases ee i s l<;>rfl
theorem jT{c:aA}{i:Nat}{l s:List Int}(b:c.Lists[i]? = some l)(h:fI 0 [] (c.Lists.take i)=some s)(d:ee i s l=none):bm c=false:=by
 have a:=rM b h;rw[d]at a;have e:fI 0 [] c.Lists=none:=by
  rw[<-List.take_append_drop (i+1) c.Lists,nQ,a];rfl
 unfold bm;rw[e];simp
theorem AP:∀{b:List (List Int)}{k:Nat}{s a:List Int},fI k s b=some a->a.length<=s.length+8*b.length
 | [],k,s,a,h=>by simp only[fI,U0]at h;subst h;simp
 | l::b,k,s,a,h=>by
  simp only[fI]at h;unfold ee at h;split at h
  ·cases c:qh k s l with
   | none=>rw[c]at h;cases h
   | some d=>
    rw[c]at h;have e:=Ac c;have f:=AP (show fI (k+1) d b=some a from h);simp only[List.length_cons];omega
  ·cases h
theorem JW{i:Nat}(h:i<=3):csz (i:Int)≠0:=by
 obtain rfl|rfl|rfl|rfl:i=0\/i=1\/i=2\/i=3:=ω
 all_goals decide
theorem co{l:List Int} : ∀r∈l.map (rI .own),r.length=1:=by
 intro r a;obtain⟨z,-,rfl⟩:=T3.1 a;rfl
theorem m9(c:aA)(u:aA.sml c):ao Tryz.prog 208 false [.val (some 1) (aA.enc .imm c)] .one [B (bm c)]:=by
 have H:=u.1;refine fO 60 [] Tryz.func208 rfl ?_
 repeat'(first|refine gO ?_|(conv=>whnf);first|with_reducible refine Bf.N (λe=>?_) (λe=>?_))
 ·exact T0 (λz=>[B z]) (by symm;unfold bm;rw[Q0 ω];rfl)
 have w:c.Lists.length=4:=ω
 (conv=>whnf)
 refine CD (ι:=Nat × List Int) (λi=>[(1,.hold .box (aA.enc .imm c)),(3,.hold .one (aF .own i.2)),(4,.hold .one [I (i.1:Nat)])]) (λi=>i.1<=4/\fI 0 [] (c.Lists.take i.1)=some i.2) (λi=>4 - i.1) (0,[]) ?_ ⟨R0 _,rfl⟩ λi k=>?_
 ·exact wB
 ·obtain⟨i,s⟩:=i
  obtain⟨k,b⟩:=k;simp only at k b |-;have g:=AP b;rw[I1]at g;simp only[List.length_nil]at g;by_cases E:i<4
  ·obtain⟨l,d⟩ : ∃l,c.Lists[i]? = some l:=⟨_,U1 ω⟩
   have F:l.length<=1048576:=u.2 l (Q1 d)
   repeat'(first|refine gD ?_|(conv=>whnf);first|with_reducible (first|refine CA (aa d) ?_|refine Bf.D (λe=>?_) (λe=>?_)))
   ·exact T0 (λz=>[B z]) (jT d b (by unfold ee;rw[C7 ω])).symm
   have n:l.length<=8:=ω
   (conv=>whnf)
   refine CD (ι:=Nat × List Int) (λj=>[(1,.hold .box (aA.enc .imm c)),(3,.hold .one (aF .own j.2)),(4,.hold .one [I (i:Nat)]),(5,.hold .one [I (j.1:Nat)])]) (λj=>j.1<=l.length/\qh i s (l.take j.1)=some j.2) (λj=>l.length - j.1) (0,s) ?_ ⟨R0 _,rfl⟩ λj o=>?_
   ·exact wB
   ·obtain⟨j,p⟩:=j
    obtain⟨o,a⟩:=o;simp only at o a |-;have h:=Ac a;rw[I1]at h;by_cases q:j<l.length
    ·obtain⟨y,t⟩ : ∃y,l[j]? = some y:=⟨_,U1 q⟩
     repeat'(first|refine gD ?_|(conv=>whnf);first|with_reducible (first|refine CA (aa d) ?_|refine CA (aa t) ?_|refine Bf.D (λe=>?_) (λe=>?_)|refine Bf.N (λe=>?_) (λe=>?_))|refine C6 (aG y 0 511) ?_|refine C6 (cR (i:Nat)) ?_|refine CL (JW ω) ?_|refine CR rfl ?_|refine CF (lN p y ω) ⟨⟨rfl,dS _⟩,⟨rfl,rfl⟩,trivial⟩ ?_|refine CP co (λr G=>by rw[Z0.1 G];rfl) (by simp[aV,d8]) (by simp;omega) (by simp only[W0];exact wT (by simp;omega) (by decide)) rfl ?_)
     all_goals first
      | exact T0 (λz=>[B z]) (jT d b (K9 t a λ⟨J,K,L,M⟩=>by first|contradiction|omega)).symm
      | ((conv=>whnf)
         refine CB (j+1,p++[y]) ⟨(by simp only;omega),FM t a ⟨ω,ω,(by assumption),(by assumption)⟩⟩ (by simp only;omega) ?_
         (repeat'(first|exact trivial|rfl|exact CI rfl (CI (T0 (C.s d9.own) (by simp[rI])) trivial)|refine CI ?_ ?_)))
    ·repeat'(first|refine gD ?_|(conv=>whnf);first|with_reducible refine CA (aa d) ?_)
     (conv=>whnf)
     rw[O5 ω]at a;refine CB (i+1,p) ⟨(by simp only;omega),(by rw[rM d b];unfold ee;rw[C8 ⟨n,ω⟩];exact a)⟩ (by simp only;omega) ?_;exact wB
  ·repeat'(first|refine gD ?_|fail)
   rw[O5 ω]at b;exact T0 (λz=>[B z]) (by symm;unfold bm;rw[b,O0 w];rfl)
def eQ(s:List Int):List (Int × Value):=s.map λa=>(a,.bool true)
theorem mC(a:Int):∀(s:List Int),mlook (eQ s) a (.bool false)=.bool (decide (a∈s))
 | []=>by simp[eQ,mlook]
 | x::s=>by
  have b:=mC a s;simp only[eQ,U4,mlook]at b |-;by_cases h:x=a
  ·rw[C8 h];simp[h]
  ·rw[C7 h,b]
   congr 1
   simp[show ¬a=x from λe=>h e.symm]
theorem r7{a:Int} : ∀{s:List Int},a∉s->eQ (s++[a])=mput (eQ s) a (.bool true)
 | [],_=>rfl
 | x::s,h=>by
  simp only[List.mem_cons,not_or]at h;have b:=r7 h.2;simp only[eQ,List.cons_append,U4,mput]at b |-;rw[C7 λe=>h.1 e.symm,b]
theorem mc(c:aA)(u:aA.sml c):ao Tryz.prog 72 false [.val (some 1) (aA.enc .imm c)] .one [B (bm c)]:=by
 have C:=u.1;refine fO 54 [] Tryz.func72 rfl ?_
 repeat'(first|refine gO ?_|fail)
 (conv=>whnf)
 refine CD (ι:=Nat × List Int) (λi=>[(1,.hold .box (aA.enc .imm c)),(3,.hold .one [.m (eQ i.2)]),(10,.hold .one (iq .imm c.Lists)),(11,.hold .one [I c.Lists.length]),(12,.hold .one [I (i.1:Nat)])]) (λi=>i.1<=c.Lists.length/\fI 0 [] (c.Lists.take i.1)=some i.2) (λi=>c.Lists.length - i.1) (0,[]) ?_ ⟨R0 _,rfl⟩ λi h=>?_
 ·exact wB
 ·obtain⟨i,s⟩:=i
  obtain⟨h,b⟩:=h;simp only at h b |-;by_cases k:i<c.Lists.length
  ·obtain⟨l,d⟩ : ∃l,c.Lists[i]? = some l:=⟨_,U1 k⟩
   have w:l.length<=1048576:=u.2 l (Q1 d)
   repeat'(first|refine gD ?_|(conv=>whnf);first|with_reducible (first|refine CA (aa d) ?_|refine Bf.D (λe=>?_) (λe=>?_))|refine C6 (fh (i:Nat)) ?_)
   ·exact T0 (λz=>[B z]) (jT d b (by unfold ee;rw[C7 ω])).symm
   rotate_left
   ·exact T0 (λz=>[B z]) (jT d b (by unfold ee;rw[C7 ω])).symm
   have n:l.length<=8:=ω
   have o:i<=3:=ω
   (conv=>whnf)
   refine CD (ι:=Nat × List Int) (λj=>[(1,.hold .box (aA.enc .imm c)),(3,.hold .one [.m (eQ j.2)]),(4,.hold .one [I (i:Nat)]),(10,.hold .one (iq .imm c.Lists)),(11,.hold .one [I c.Lists.length]),(12,.hold .one [I (i:Nat)]),(25,.hold .one (aF .imm l)),(26,.hold .one [I l.length]),(27,.hold .one [I (j.1:Nat)])]) (λj=>j.1<=l.length/\qh i s (l.take j.1)=some j.2) (λj=>l.length - j.1) (0,s) ?_ ⟨R0 _,rfl⟩ λj p=>?_
   ·exact wB
   ·obtain⟨j,q⟩:=j
    obtain⟨p,a⟩:=p;simp only at p a |-;by_cases r:j<l.length
    ·obtain⟨y,t⟩ : ∃y,l[j]? = some y:=⟨_,U1 r⟩
     repeat'(first|refine gD ?_|(conv=>whnf);first|with_reducible (first|refine CA (aa d) ?_|refine CA (aa t) ?_|refine Bf.D (λe=>?_) (λe=>?_)|refine Bf.N (λe=>?_) (λe=>?_))|refine C6 (aM y 0 511) ?_|refine C6 (ci (i:Nat)) ?_|refine CL (JW ω) ?_|refine CR rfl ?_|refine Ml.mk (mC y q) ?_|refine Mu.mk (r7 (by assumption)) ?_)
     all_goals first
      | exact T0 (λz=>[B z]) (jT d b (K9 t a λ⟨E,F,G,H⟩=>by first|contradiction|omega)).symm
      | ((conv=>whnf)
         refine CB (j+1,q++[y]) ⟨(by simp only;omega),FM t a ⟨ω,ω,(by assumption),(by assumption)⟩⟩ (by simp only;omega) ?_
         (exact wA))
    ·repeat'(first|refine gD ?_|fail)
     (conv=>whnf)
     rw[O5 ω]at a;refine CB (i+1,q) ⟨(by simp only;omega),(by rw[rM d b];unfold ee;rw[C8 ⟨n,o⟩];exact a)⟩ (by simp only;omega) ?_;exact wB
  ·repeat'(first|refine gD ?_|fail)
   rw[O5 ω]at b;have g:((c.Lists.length:Int) == 4)=decide (c.Lists.length=4):=by
    by_cases g:c.Lists.length=4
    ·simp[g]
    ·rw[Q0 g];simp;omega
   exact T0 (λz=>[B z]) (g.trans (by unfold bm;rw[b];simp))
def cY:Nat->List (List Int)->Int
 | _,[]=>0
 | k,l::ls=>l.length*csz k+cY (k+1) ls
def ce(c:aA):Int:=if bm c then cY 0 c.Lists else 0
theorem mR:∀(a:List (List Int))(k:Nat)(l:List Int),cY k (a++[l])=cY k a+l.length*csz (k+a.length:Nat)
 | [],k,l=>by simp[cY]
 | x::a,k,l=>by
  simp only[List.cons_append,cY,List.length_cons];rw[mR a (k+1) l,show k+1+a.length=k+(a.length+1) by omega];omega
theorem kS{a:List (List Int)}{i:Nat}{l:List Int}(b:a[i]? = some l):cY 0 (a.take (i+1))=cY 0 (a.take i)+l.length*csz i:=by
 have c:=(V1.1 b).1;rw[O4,b,Option.toList_some,mR];simp only[C5,I1,Nat.min_eq_left (Nat.le_of_lt c)]
theorem FI:∀{b:List (List Int)}{k:Nat}{s c:List Int},fI k s b=some c->∀l∈b,l.length<=8
 | [],k,s,c,h,l,a=>by simp at a
 | x::b,k,s,c,h,l,a=>by
  simp only[fI]at h;unfold ee at h;split at h
  ·rename_i e
   rcases List.mem_cons.1 a with rfl|a
   ·exact e.1
   ·cases d:qh k s x with
    | none=>rw[d]at h;cases h
    | some f=>rw[d]at h;exact FI (show fI (k+1) f b=some c from h) l a
  ·cases h
theorem kB{c:aA}(h:bm c=true):c.Lists.length=4/\∀l∈c.Lists,l.length<=8:=by
 unfold bm at h;simp only[I0,C0]at h;obtain⟨s,a⟩:=Option.isSome_iff_exists.1 h.2;exact⟨h.1,FI a⟩
theorem Ka(i:Nat):0<=csz (i:Int)/\csz (i:Int)<=8:=by
 by_cases h:i<=3
 ·obtain rfl|rfl|rfl|rfl:i=0\/i=1\/i=2\/i=3:=ω
  all_goals decide
 ·unfold csz;rw[C7 ω];decide
theorem Fu{n:Nat}{k:Int}(b:n<=8)(a:0<=k)(c:k<=8):0<=(n:Int)*k/\(n:Int)*k<=64:=by
 refine⟨Int.mul_nonneg ω a,?_⟩;have d:(n:Int)*k<=8*k:=Int.mul_le_mul_of_nonneg_right ω a;omega
theorem oW(f:aU)(n:aU.sml f):ao Tryz.prog 63 false [.val (some 2) (aU.enc .imm f)] .one [B (cC f)]:=by
 have C:=n.1.1;have E:f.Used.length<=1048576:=n.2;refine fO 61 [] Tryz.func63 rfl ?_
 repeat'(first|refine gO ?_|(conv=>whnf);first|with_reducible (first|refine Bf.D (λa=>?_) (λa=>?_)|refine Bf.N (λa=>?_) (λa=>?_))|refine C6 (aG f.Cells.length 1 32) ?_)
 ·exact T0 (λz=>[B z]) (by symm;unfold cC;rw[Q0 (by omega:¬(f.Used.length=f.Cells.length))];simp)
 rotate_left
 ·exact T0 (λz=>[B z]) (by symm;unfold cC;rw[Q0 (by omega:¬(1<=f.Cells.length/\f.Cells.length<=32))];rfl)
 have h:1<=f.Cells.length/\f.Cells.length<=32:=ω
 have j:f.Used.length=f.Cells.length:=ω
 (conv=>whnf)
 refine CD (ι:=Nat) (λi=>[(1,.hold .box (aU.enc .imm f)),(3,.hold .one [I (i:Nat)])]) (λi=>i<=f.Cells.length/\((f.Cells.zip f.Used).take i).all (λq=>gX q.1 q.2)=true) (λi=>f.Cells.length - i) 0 ?_ ⟨R0 _,rfl⟩ λi o=>?_
 ·exact wB
 ·obtain⟨o,t⟩:=o
  by_cases l:i<f.Cells.length
  ·obtain⟨r,c⟩ : ∃r,f.Cells[i]? = some r:=⟨_,U1 l⟩
   obtain⟨u,b⟩ : ∃u,f.Used[i]? = some u:=⟨_,U1 ω⟩
   repeat'(first|refine gD ?_|(conv=>whnf);first|with_reducible (first|refine CA (aa c) ?_|refine Bf.N (λa=>?_) (λa=>?_)))
   ·exact T0 (λz=>[B z]) (gR c b (by unfold gX;rw[Q0 ω];rfl)).symm
   have g:r.length=16:=ω
   (conv=>whnf)
   refine CD (ι:=Nat) (λk=>[(1,.hold .box (aU.enc .imm f)),(3,.hold .one [I (i:Nat)]),(4,.hold .one [I (k:Nat)])]) (λk=>k<=16/\(r.take k).all (iA u)=true) (λk=>16 - k) 0 ?_ ⟨R0 _,rfl⟩ λk w=>?_
   ·exact wB
   ·obtain⟨w,d⟩:=w
    by_cases y:k<16
    ·obtain⟨v,e⟩ : ∃v,r[k]? = some v:=⟨_,U1 ω⟩
     cases u with
     | true=>
      repeat'(first|refine gD ?_|(conv=>whnf);first|with_reducible (first|refine CA (aa c) ?_|refine CA (aa b) ?_|refine CA (aa e) ?_|refine Bf.D (λa=>?_) (λa=>?_)|refine Bf.N (λa=>?_) (λa=>?_))|refine C6 (aG v 0 999) ?_)
      all_goals first
       | exact T0 (λz=>[B z]) (gR c b (rr e (by first|(unfold iA;rw[Q0 ω];rfl)|(unfold iA;rw[Q0 (p:=v=0) ω];simp)))).symm
       | ((conv=>whnf)
          refine CB (ι:=Nat) (k+1) ⟨ω,cy e d (by unfold iA;first|(rw[O0 ω];rfl)|(rw[O0 (p:=0<=v/\v<=999) ω,O0 (p:=v=0) ω];rfl))⟩ ω ?_
          (exact wA))
     | false=>
      repeat'(first|refine gD ?_|(conv=>whnf);first|with_reducible (first|refine CA (aa c) ?_|refine CA (aa b) ?_|refine CA (aa e) ?_|refine Bf.D (λa=>?_) (λa=>?_)|refine Bf.N (λa=>?_) (λa=>?_))|refine C6 (aG v 0 999) ?_)
      all_goals first
       | exact T0 (λz=>[B z]) (gR c b (rr e (by first|(unfold iA;rw[Q0 ω];rfl)|(unfold iA;rw[Q0 (p:=v=0) ω];simp)))).symm
       | ((conv=>whnf)
          refine CB (ι:=Nat) (k+1) ⟨ω,cy e d (by unfold iA;first|(rw[O0 ω];rfl)|(rw[O0 (p:=0<=v/\v<=999) ω,O0 (p:=v=0) ω];rfl))⟩ ω ?_
          (exact wA))
    ·repeat'(first|refine gD ?_|fail)
     (conv=>whnf)
     refine CB (i+1) ⟨ω,cy (uo c b) t (by unfold gX;rw[gc ω d];simp[g])⟩ ω ?_;exact wB
  ·repeat'(first|refine gD ?_|fail)
   exact T0 (λz=>[B z]) (by symm;unfold cC;rw[gc (by rw[List.length_zip];omega) t];simp[h,j])
theorem pc(f:aU)(h:aU.sml f):ao Tryz.prog 153 false [.val (some 2) (aU.enc .imm f)] .one [B (cC f)]:=by
 have C:=h.1.1;have E:f.Used.length<=1048576:=h.2;refine fO 55 [] Tryz.func153 rfl ?_
 repeat'(first|refine gO ?_|(conv=>whnf);first|with_reducible (first|refine Bf.D (λa=>?_) (λa=>?_)|refine Bf.N (λa=>?_) (λa=>?_))|refine C6 (aM f.Cells.length 1 32) ?_)
 ·exact T0 (λz=>[B z]) (by symm;unfold cC;rw[Q0 (by omega:¬(f.Used.length=f.Cells.length))];simp)
 rotate_left
 ·exact T0 (λz=>[B z]) (by symm;unfold cC;rw[Q0 (by omega:¬(1<=f.Cells.length/\f.Cells.length<=32))];rfl)
 have j:1<=f.Cells.length/\f.Cells.length<=32:=ω
 have l:f.Used.length=f.Cells.length:=ω
 (conv=>whnf)
 refine CD (ι:=Nat) (λi=>[(1,.hold .box (aU.enc .imm f)),(22,.hold .one (iq .imm f.Cells)),(23,.hold .one [I (f.Cells.length)]),(24,.hold .one [I ((i:Nat):Int)])]) (λi=>i<=f.Cells.length/\((f.Cells.zip f.Used).take i).all (λq=>gX q.1 q.2)=true) (λi=>f.Cells.length - i) (0) ?_ (⟨R0 _,rfl⟩) λi o=>?_
 ·exact wB
 obtain⟨o,p⟩:=o;by_cases n:i<f.Cells.length
 ·obtain⟨r,c⟩ : ∃r,f.Cells[i]? = some r:=⟨_,U1 n⟩
  obtain⟨u,b⟩ : ∃u,f.Used[i]? = some u:=⟨_,U1 ω⟩
  have y:r.length<=1048576:=h.1.2 r (Q1 c)
  repeat'(first|refine gD ?_|(conv=>whnf);first|with_reducible (first|refine CA (aa c) ?_|refine Bf.N (λa=>?_) (λa=>?_)))
  ·exact T0 (λz=>[B z]) (gR c b (by unfold gX;rw[Q0 ω];rfl)).symm
  have g:r.length=16:=ω
  (conv=>whnf)
  refine CD (ι:=Nat) (λk=>[(1,.hold .box (aU.enc .imm f)),(3,.hold .one [I ((i:Nat):Int)]),(22,.hold .one (iq .imm f.Cells)),(23,.hold .one [I (f.Cells.length)]),(24,.hold .one [I ((i:Nat):Int)]),(32,.hold .one (aF .imm r)),(33,.hold .one [I (r.length)]),(34,.hold .one [I ((k:Nat):Int)])]) (λk=>k<=r.length/\(r.take k).all (iA u)=true) (λk=>r.length - k) (0) ?_ (⟨R0 _,rfl⟩) λk t=>?_
  ·exact wB
  obtain⟨t,d⟩:=t;by_cases w:k<r.length
  ·obtain⟨v,e⟩ : ∃v,r[k]? = some v:=⟨_,U1 ω⟩
   cases u with
   | true=>
    repeat'(first|refine gD ?_|(conv=>whnf);first|with_reducible (first|refine CA (aa c) ?_|refine CA (aa b) ?_|refine CA (aa e) ?_|refine Bf.D (λa=>?_) (λa=>?_)|refine Bf.N (λa=>?_) (λa=>?_))|refine C6 (aM v 0 999) ?_)
    all_goals first
     | exact T0 (λz=>[B z]) (gR c b (rr e (by unfold iA;grind))).symm
     | ((conv=>whnf)
        refine CB (ι:=Nat) (k+1) ⟨ω,cy e d (by unfold iA;grind)⟩ ω ?_
        (exact wA))
   | false=>
    repeat'(first|refine gD ?_|(conv=>whnf);first|with_reducible (first|refine CA (aa c) ?_|refine CA (aa b) ?_|refine CA (aa e) ?_|refine Bf.D (λa=>?_) (λa=>?_)|refine Bf.N (λa=>?_) (λa=>?_))|refine C6 (aM v 0 999) ?_)
    all_goals first
     | exact T0 (λz=>[B z]) (gR c b (rr e (by unfold iA;grind))).symm
     | ((conv=>whnf)
        refine CB (ι:=Nat) (k+1) ⟨ω,cy e d (by unfold iA;grind)⟩ ω ?_
        (exact wA))
  ·repeat'(first|refine gD ?_|fail)
   (conv=>whnf)
   refine CB (i+1) ⟨ω,cy (uo c b) p (by unfold gX;rw[gc ω d];simp[g])⟩ ω ?_;exact wB
 ·repeat'(first|refine gD ?_|fail)
  exact T0 (λz=>[B z]) (by symm;unfold cC;rw[gc (by rw[List.length_zip];omega) p];simp[j,l])
theorem A3(t:aH)(b:Int)(g:aH.sml t):ao Tryz.prog 327 false [.val (some 1) (aH.enc .imm t),.val none [I b]] .one [B (fE t b)]:=by
 have k:=g.1;refine fO 54 [] Tryz.func327 rfl ?_
 repeat'(first|refine gO ?_|fail)
 (conv=>whnf)
 refine CD (ι:=Nat) (λi=>[(1,.hold .one [I (b)]),(2,.hold .box (aH.enc .imm t)),(5,.hold .one [I ((i:Nat):Int)])]) (λi=>i<=t.Entries.length/\cw i (λj=>jW b (nth t.Entries j))=true) (λi=>t.Entries.length - i) 0 ?_ ⟨R0 _,rfl⟩ λi c=>?_
 ·exact wB
 obtain⟨c,d⟩:=c;by_cases e:i<t.Entries.length
 ·have h:=ah e
  repeat'(first|refine gD ?_|(conv=>whnf);first|with_reducible (first|refine CA (aa h) ?_|refine Bf.D (λa=>?_) (λa=>?_)|refine Bf.N (λa=>?_) (λa=>?_)|refine Bf.E (λa=>?_) (λa=>?_))|refine C6 (aG _ 0 2) ?_)
  all_goals first
   | exact T0 (λz=>[B z]) ((by symm;unfold fE;rw[ca e (Q0 (by grind))];rfl))
   | ((conv=>whnf);refine CB (i+1) ⟨ω,bE d (O0 (by grind))⟩ ω ?_;(exact wB))
 ·repeat'(first|refine gD ?_|(conv=>whnf);first|refine C6 (aG _ 1 32) ?_)
  obtain rfl:i=t.Entries.length:=ω
  exact T0 (λz=>[B z]) ((by unfold fE;rw[d,Bool.true_and];exact decide_eq_decide.2 ω))
theorem Ar(t:aH)(b:Int)(g:aH.sml t):ao Tryz.prog 236 false [.val (some 1) (aH.enc .imm t),.val none [I b]] .one [B (fE t b)]:=by
 have k:=g.1;refine fO 49 [] Tryz.func236 rfl ?_
 repeat'(first|refine gO ?_|fail)
 (conv=>whnf)
 refine CD (ι:=Nat) (λi=>[(1,.hold .one [I (b)]),(2,.hold .box (aH.enc .imm t)),(8,.hold .one (uI .imm t.Entries)),(9,.hold .one [I (t.Entries.length)]),(10,.hold .one [I ((i:Nat):Int)])]) (λi=>i<=t.Entries.length/\cw i (λj=>jW b (nth t.Entries j))=true) (λi=>t.Entries.length - i) 0 ?_ ⟨R0 _,rfl⟩ λi c=>?_
 ·exact wB
 obtain⟨c,d⟩:=c;by_cases e:i<t.Entries.length
 ·have h:=ah e
  repeat'(first|refine gD ?_|(conv=>whnf);first|with_reducible (first|refine CA (aa h) ?_|refine Bf.D (λa=>?_) (λa=>?_)|refine Bf.N (λa=>?_) (λa=>?_)|refine Bf.E (λa=>?_) (λa=>?_))|refine C6 (aM _ 0 2) ?_)
  all_goals first
   | exact T0 (λz=>[B z]) ((by symm;unfold fE;rw[ca e (Q0 (by grind))];rfl))
   | ((conv=>whnf);refine CB (i+1) ⟨ω,bE d (O0 (by grind))⟩ ω ?_;(exact wB))
 ·repeat'(first|refine gD ?_|(conv=>whnf);first|refine C6 (aM _ 1 32) ?_)
  obtain rfl:i=t.Entries.length:=ω
  exact T0 (λz=>[B z]) ((by unfold fE;rw[d,Bool.true_and];exact decide_eq_decide.2 ω))
theorem gi(t:aH)(f:Int)(c:aH.sml t):ao Tryz.prog 111 false [.val (some 1) (aH.enc .imm t),.val none [I f]] .one (aF .own (pagesOn t f)):=by
 have j:=c.1;refine fO 37 [] Tryz.func111 rfl ?_ (.inr (bJ _))
 repeat'(first|refine gO ?_|fail)
 (conv=>whnf)
 refine CD (ι:=Nat) (λi=>[(1,.hold .one [I (f)]),(2,.hold .box (aH.enc .imm t)),(5,.hold .one (aF .own (je t f i))),(6,.hold .one [I ((i:Nat):Int)])]) (λi=>i<=t.Entries.length) (λi=>t.Entries.length - i) (0) ?_ (R0 _) λi k=>?_
 ·exact wB
 have d:=r8 t f i;by_cases e:i<t.Entries.length
 ·have g:=ah e
  repeat'(first|refine gD ?_|(conv=>whnf);first|with_reducible (first|refine CA (aa g) ?_|refine Bf.D (λb=>?_) (λb=>?_)|refine Bf.N (λb=>?_) (λb=>?_)|refine Bf.E (λb=>?_) (λb=>?_))|refine CP co (λr h=>by rw[Z0.1 h];rfl) (by simp[aV,d8]) (by simp;omega) (by simp only[W0];exact wT (by simp;omega) (by decide)) rfl ?_)
  all_goals first
   |(have a:HN t f i=true:=O0 (by grind)
     (conv=>whnf)
     refine CB (i+1) ω ω ?_;rw[yB a]
     (repeat'(first|exact trivial|rfl|exact CI rfl (CI (T0 (C.s d9.own) (by simp[rI])) trivial)|refine CI ?_ ?_)))
   |(have a:HN t f i=false:=Q0 (by grind)
     (conv=>whnf)
     refine CB (i+1) ω ω ?_;rw[AA a]
     (exact wA))
 ·repeat'(first|refine gD ?_|fail)
  obtain rfl:i=t.Entries.length:=ω
  rfl
theorem qr(t:aH)(f:Int)(c:aH.sml t):ao Tryz.prog 98 false [.val (some 1) (aH.enc .imm t),.val none [I f]] .one (aF .own (pagesOn t f)):=by
 have j:=c.1;refine fO 32 [] Tryz.func98 rfl ?_ (.inr (bJ _))
 repeat'(first|refine gO ?_|fail)
 (conv=>whnf)
 refine CD (ι:=Nat) (λi=>[(1,.hold .one [I (f)]),(5,.hold .one (aF .own (je t f i))),(10,.hold .one (uI .imm t.Entries)),(11,.hold .one [I (t.Entries.length)]),(12,.hold .one [I ((i:Nat):Int)])]) (λi=>i<=t.Entries.length) (λi=>t.Entries.length - i) (0) ?_ (R0 _) λi k=>?_
 ·exact wB
 have d:=r8 t f i;by_cases e:i<t.Entries.length
 ·have g:=ah e
  repeat'(first|refine gD ?_|(conv=>whnf);first|with_reducible (first|refine CA (aa g) ?_|refine Bf.D (λb=>?_) (λb=>?_)|refine Bf.N (λb=>?_) (λb=>?_)|refine Bf.E (λb=>?_) (λb=>?_))|refine CP co (λr h=>by rw[Z0.1 h];rfl) (by simp[aV,d8]) (by simp;omega) (by simp only[W0];exact wT (by simp;omega) (by decide)) rfl ?_)
  all_goals first
   |(have a:HN t f i=true:=O0 (by grind)
     (conv=>whnf)
     refine CB (i+1) ω ω ?_;rw[yB a]
     (repeat'(first|exact trivial|rfl|exact CI rfl (CI (T0 (C.s d9.own) (by simp[rI])) trivial)|refine CI ?_ ?_)))
   |(have a:HN t f i=false:=Q0 (by grind)
     (conv=>whnf)
     refine CB (i+1) ω ω ?_;rw[AA a]
     (exact wA))
 ·repeat'(first|refine gD ?_|fail)
  obtain rfl:i=t.Entries.length:=ω
  rfl
theorem cQ(t:aH)(p:Int)(b:aH.sml t):ao Tryz.prog 110 false [.val (some 1) (aH.enc .imm t),.val none [I p]] .agg (bi.enc .own (ar t p)):=by
 have d:=b.1;refine fO 18 [] Tryz.func110 rfl ?_ (.inr (bi.enc_fr _));by_cases a:0<=p/\p<t.Entries.length
 ·have c:=ah (xs:=t.Entries) (i:=p.toNat) ω
  repeat'(first|refine gD ?_|(conv=>whnf);first|refine C6 (aG _ 0 _) ?_|refine CK a.1 (aa c) ?_)
  all_goals(unfold ar;rw[C8 a];rfl)
 ·repeat'(first|refine gD ?_|(conv=>whnf);first|refine C6 (aG _ 0 _) ?_)
  all_goals(unfold ar;rw[C7 a];rfl)
theorem jV(t:aH)(p:Int)(b:aH.sml t):ao Tryz.prog 97 false [.val (some 1) (aH.enc .imm t),.val none [I p]] .agg (bi.enc .own (ar t p)):=by
 have d:=b.1;refine fO 18 [] Tryz.func97 rfl ?_ (.inr (bi.enc_fr _));by_cases a:0<=p/\p<t.Entries.length
 ·have c:=ah (xs:=t.Entries) (i:=p.toNat) ω
  repeat'(first|refine gD ?_|(conv=>whnf);first|refine C6 (aM _ 0 _) ?_|refine CK a.1 (aa c) ?_)
  all_goals(unfold ar;rw[C8 a];rfl)
 ·repeat'(first|refine gD ?_|(conv=>whnf);first|refine C6 (aM _ 0 _) ?_)
  all_goals(unfold ar;rw[C7 a];rfl)
theorem pR(t:aH)(f:Int):(pagesOn t f).length<=t.Entries.length:=r8 ..
theorem og(m:aT)(b:aT.sml m):ao Tryz.prog 266 false [.val (some 3) (aT.enc .imm m)] .one [B (dt m)]:=by
 have q:m.Frames.Used.length<=1048576:=b.1.2;have l:m.Frames.Cells.length<=1048576:=b.1.1.1;have c:=oW m.Frames b.1;have e:=A3 m.Table m.Frames.Cells.length b.2;cases a:cC m.Frames with
 | false=>
  rw[a]at c;refine fO 39 [(6,13,[26,27,28,29,30,31,32,33,34,35,36,37,38])] Tryz.func266 rfl ?_
  repeat'(first|refine gO ?_|(conv=>whnf);first|refine C6 c ?_)
  exact T0 (λz=>[B z]) ((by unfold dt;rw[a];rfl))
 | true=>
  have g:=yS a;rw[a]at c;cases d:fE m.Table m.Frames.Used.length with
  | false=>
   rw[show(m.Frames.Cells.length:Int)=m.Frames.Used.length by omega,d]at e;refine fO 39 [(6,13,[26,27,28,29,30,31,32,33,34,35,36,37,38])] Tryz.func266 rfl ?_
   repeat'(first|refine gO ?_|(conv=>whnf);first|refine C6 c ?_|refine C6 ((show(m.Frames.Cells.length:Int)=m.Frames.Used.length by omega) ▸ e) ?_)
   exact T0 (λz=>[B z]) ((by unfold dt;rw[a,d];rfl))
  | true=>
   rw[show(m.Frames.Cells.length:Int)=m.Frames.Used.length by omega,d]at e;refine fO 39 [(6,13,[26,27,28,29,30,31,32,33,34,35,36,37,38])] Tryz.func266 rfl ?_
   repeat'(first|refine gO ?_|(conv=>whnf);first|refine C6 c ?_|refine C6 ((show(m.Frames.Cells.length:Int)=m.Frames.Used.length by omega) ▸ e) ?_)
   (conv=>whnf)
   refine CD (ι:=Nat) (λi=>[(1,.hold .box (aT.enc .imm m)),(3,.hold .one [I ((i:Nat):Int)])]) (λi=>i<=m.Frames.Used.length/\cw i (nC m)=true) (λi=>m.Frames.Used.length - i) 0 ?_ ⟨R0 _,rfl⟩ λi h=>?_
   ·exact wB
   obtain⟨h,j⟩:=h;by_cases k:i<m.Frames.Used.length
   ·have n:=ah k
    have o:=pR m.Table (i:Nat)
    repeat'(first|refine gD ?_|(conv=>whnf);first|with_reducible (first|refine CA (aa n) ?_|refine Bf.NB (λp=>?_) (λp=>?_))|refine C6 (gi m.Table (i:Nat) b.2) ?_)
    all_goals first
     | exact T0 (λz=>[B z]) ((by symm;unfold dt;rw[a,d,ca k (by unfold nC;grind)];rfl))
     | ((conv=>whnf);refine CB (i+1) ⟨ω,bE j (by unfold nC;grind)⟩ ω ?_;(exact wB))
   ·repeat'(first|refine gD ?_|fail)
    obtain rfl:i=m.Frames.Used.length:=ω
    exact T0 (λz=>[B z]) ((by unfold dt;rw[a,d,j];rfl))
theorem uG(m:aT)(d:aT.sml m):ao Tryz.prog 144 false [.val (some 3) (aT.enc .imm m)] .one [B (dt m)]:=by
 have o:m.Frames.Used.length<=1048576:=d.1.2;have b:=pc m.Frames d.1;have e:=Ar m.Table m.Frames.Used.length d.2;cases a:cC m.Frames with
 | false=>
  rw[a]at b;refine fO 37 [] Tryz.func144 rfl ?_
  repeat'(first|refine gO ?_|(conv=>whnf);first|refine C6 b ?_)
  exact T0 (λz=>[B z]) ((by unfold dt;rw[a];rfl))
 | true=>
  rw[a]at b;cases c:fE m.Table m.Frames.Used.length with
  | false=>
   rw[c]at e;refine fO 37 [] Tryz.func144 rfl ?_
   repeat'(first|refine gO ?_|(conv=>whnf);first|refine C6 b ?_|refine C6 e ?_)
   exact T0 (λz=>[B z]) ((by unfold dt;rw[a,c];rfl))
  | true=>
   rw[c]at e;refine fO 37 [] Tryz.func144 rfl ?_
   repeat'(first|refine gO ?_|(conv=>whnf);first|refine C6 b ?_|refine C6 e ?_)
   (conv=>whnf)
   refine CD (ι:=Nat) (λi=>[(1,.hold .box (aT.enc .imm m)),(21,.hold .one (vC .imm m.Frames.Used)),(22,.hold .one [I (m.Frames.Used.length)]),(23,.hold .one [I ((i:Nat):Int)])]) (λi=>i<=m.Frames.Used.length/\cw i (nC m)=true) (λi=>m.Frames.Used.length - i) 0 ?_ ⟨R0 _,rfl⟩ λi g=>?_
   ·exact wB
   obtain⟨g,h⟩:=g;by_cases j:i<m.Frames.Used.length
   ·have k:=ah j
    have l:=pR m.Table (i:Nat)
    repeat'(first|refine gD ?_|(conv=>whnf);first|with_reducible (first|refine CA (aa k) ?_|refine Bf.NB (λn=>?_) (λn=>?_))|refine C6 (qr m.Table (i:Nat) d.2) ?_)
    all_goals first
     | exact T0 (λz=>[B z]) ((by symm;unfold dt;rw[a,c,ca j (by unfold nC;grind)];rfl))
     | ((conv=>whnf);refine CB (i+1) ⟨ω,bE h (by unfold nC;grind)⟩ ω ?_;(exact wB))
   ·repeat'(first|refine gD ?_|fail)
    obtain rfl:i=m.Frames.Used.length:=ω
    exact T0 (λz=>[B z]) ((by unfold dt;rw[a,c,h];rfl))
theorem kU(k:af)(d:af.sml k):ao Tryz.prog 201 false [.val (some 5) (af.enc .imm k)] .one [B (aB k)]:=by
 have n:k.Refuse.length<=1048576:=d.2;have a:=og k.Machine d.1;refine fO 31 [] Tryz.func201 rfl ?_
 repeat'(first|refine gO ?_|fail)
 (conv=>whnf)
 refine CD (ι:=Nat) (λi=>[(1,.hold .box (af.enc .imm k)),(3,.hold .one [I ((i:Nat):Int)])]) (λi=>i<=k.Refuse.length/\cw i (λj=>decide (0<=nth k.Refuse j))=true) (λi=>k.Refuse.length - i) 0 ?_ ⟨R0 _,rfl⟩ λi e=>?_
 ·exact wB
 obtain⟨e,g⟩:=e;by_cases h:i<k.Refuse.length
 ·have l:=ah h
  repeat'(first|refine gD ?_|(conv=>whnf);first|with_reducible (first|refine CA (aa l) ?_|refine Bf.D (λc=>?_) (λc=>?_)))
  all_goals first
   | exact T0 (λz=>[B z]) ((by symm;unfold aB;rw[ca h (Q0 ω)];rfl))
   | ((conv=>whnf);refine CB (i+1) ⟨ω,bE g (O0 ω)⟩ ω ?_;(exact wB))
 ·obtain rfl:i=k.Refuse.length:=ω
  cases b:dt k.Machine with
  | false=>
   rw[b]at a
   repeat'(first|refine gD ?_|(conv=>whnf);first|refine C6 a ?_)
   all_goals exact T0 (λz=>[B z]) ((by unfold aB;rw[b];simp))
  | true=>
   rw[b]at a
   repeat'(first|refine gD ?_|(conv=>whnf);first|with_reducible refine Bf.D (λc=>?_) (λc=>?_)|refine C6 a ?_|refine C6 (aG _ 0 100000) ?_)
   all_goals exact T0 (λz=>[B z]) ((by unfold aB;rw[b,g];simp only[Bool.true_and];first|exact decide_eq_decide.2 ω|(symm;exact Q0 ω)|(symm;exact O0 ω)))
theorem xl(k:af)(b:af.sml k):ao Tryz.prog 57 false [.val (some 5) (af.enc .imm k)] .one [B (aB k)]:=by
 have l:k.Refuse.length<=1048576:=b.2;have g:=uG k.Machine b.1;refine fO 29 [] Tryz.func57 rfl ?_
 repeat'(first|refine gO ?_|fail)
 (conv=>whnf)
 refine CD (ι:=Nat) (λi=>[(1,.hold .box (af.enc .imm k)),(6,.hold .one (aF .imm k.Refuse)),(7,.hold .one [I (k.Refuse.length)]),(8,.hold .one [I ((i:Nat):Int)])]) (λi=>i<=k.Refuse.length/\cw i (λj=>decide (0<=nth k.Refuse j))=true) (λi=>k.Refuse.length - i) 0 ?_ ⟨R0 _,rfl⟩ λi c=>?_
 ·exact wB
 obtain⟨c,d⟩:=c;by_cases e:i<k.Refuse.length
 ·have h:=ah e
  repeat'(first|refine gD ?_|(conv=>whnf);first|with_reducible (first|refine CA (aa h) ?_|refine Bf.D (λa=>?_) (λa=>?_)))
  all_goals first
   | exact T0 (λz=>[B z]) ((by symm;unfold aB;rw[ca e (Q0 ω)];rfl))
   | ((conv=>whnf);refine CB (i+1) ⟨ω,bE d (O0 ω)⟩ ω ?_;(exact wB))
 ·obtain rfl:i=k.Refuse.length:=ω
  repeat'(first|refine gD ?_|(conv=>whnf);first|with_reducible refine Bf.D (λa=>?_) (λa=>?_)|refine C6 g ?_|refine C6 (aM _ 0 100000) ?_)
  all_goals exact T0 (λz=>[B z]) ((by unfold aB;rw[d];cases dt k.Machine<;>simp only[Bool.true_and,Bool.false_and]<;>first|rfl|exact decide_eq_decide.2 ω|(symm;exact Q0 ω)|(symm;exact O0 ω)))
theorem uR(pages:Int)(r:a7)(b:0<=pages/\pages<=1048576):ao Tryz.prog 267 false [.val none [I pages],.val (some 2) (a7.enc .imm r)] .one [B (rangeIn pages r)]:=by
 refine fO 18 [] Tryz.func267 rfl ?_
 repeat'(first|refine gO ?_|(conv=>whnf);first|with_reducible refine Bf.D (λa=>?_) (λa=>?_)|refine C6 (aG _ 1 _) ?_|refine C6 (aG _ 0 _) ?_)
 all_goals exact T0 (λz=>[B z]) ((by unfold rangeIn;first|(symm;exact Q0 ω)|exact decide_eq_decide.2 ω))
theorem EV(pages:Int)(r:a7)(b:0<=pages/\pages<=1048576):ao Tryz.prog 159 false [.val none [I pages],.val (some 2) (a7.enc .imm r)] .one [B (rangeIn pages r)]:=by
 refine fO 18 [] Tryz.func159 rfl ?_
 repeat'(first|refine gO ?_|(conv=>whnf);first|with_reducible refine Bf.D (λa=>?_) (λa=>?_)|refine C6 (aM _ 1 _) ?_|refine C6 (aM _ 0 _) ?_)
 all_goals exact T0 (λz=>[B z]) ((by unfold rangeIn;first|(symm;exact Q0 ω)|exact decide_eq_decide.2 ω))
theorem lV(k:Int):ao Tryz.prog 194 false [.val none [I k]] .one [I (slots k)]:=by
 by_cases b:0<=k/\k<=3
 ·obtain rfl|rfl|rfl|rfl:k=0\/k=1\/k=2\/k=3:=ω
  all_goals
   refine fO 9 [] Tryz.func194 rfl ?_
   repeat'(first|refine gD ?_|(conv=>whnf);first|with_reducible refine Bf.D (λa=>?_) (λa=>?_)|refine C6 (aG _ 0 3) ?_|refine CL (by decide) ?_|refine CJ rfl ?_|refine CR rfl ?_)
   exact T0 (λz=>[I z]) (by decide)
 ·refine fO 9 [] Tryz.func194 rfl ?_
  repeat'(first|refine gD ?_|(conv=>whnf);first|with_reducible refine Bf.D (λa=>?_) (λa=>?_)|refine C6 (aG _ 0 3) ?_)
  exact T0 (λz=>[I z]) (by unfold slots;rw[C7 ω,C7 ω,C7 ω,C7 ω])
theorem ig(k:Int):ao Tryz.prog 172 false [.val none [I k]] .one [I (slots k)]:=by
 by_cases b:0<=k/\k<=3
 ·obtain rfl|rfl|rfl|rfl:k=0\/k=1\/k=2\/k=3:=ω
  all_goals
   refine fO 9 [] Tryz.func172 rfl ?_
   repeat'(first|refine gD ?_|(conv=>whnf);first|with_reducible refine Bf.D (λa=>?_) (λa=>?_)|refine C6 (fh _) ?_|refine C6 (ci _) ?_|refine CL (by decide) ?_|refine CJ rfl ?_|refine CR rfl ?_)
   exact T0 (λz=>[I z]) (by decide)
 ·refine fO 9 [] Tryz.func172 rfl ?_
  repeat'(first|refine gD ?_|(conv=>whnf);first|with_reducible refine Bf.D (λa=>?_) (λa=>?_)|refine C6 (fh _) ?_)
  exact T0 (λz=>[I z]) (by unfold slots;rw[C7 ω,C7 ω,C7 ω,C7 ω])
def KQ(k b:Int):Bool:=decide (0<=k/\k<=3/\0<=b/\b<=lim k)
theorem pk(k b:Int):ao Tryz.prog 193 false [.val none [I (slots k)],.val none [I b]] .one [B (KQ k b)]:=by
 by_cases d:0<=k/\k<=3
 ·obtain rfl|rfl|rfl|rfl:k=0\/k=1\/k=2\/k=3:=ω
  all_goals
   first|rw[show slots 0=16 from rfl]|rw[show slots 1=8 from rfl]|rw[show slots 2=4 from rfl]|rw[show slots 3=2 from rfl]
   refine fO 15 [] Tryz.func193 rfl ?_
   repeat'(first|refine gD ?_|(conv=>whnf);first|with_reducible refine Bf.D (λa=>?_) (λa=>?_)|refine C6 (aG _ 1 16) ?_|refine C6 (aG _ 0 _) ?_|refine CL (by decide) ?_|refine CJ (show _=(65536:Int) by decide) ?_|refine CJ (show _=(65535:Int) by decide) ?_|refine CJ (show _=(256:Int) by decide) ?_|refine CJ (show _=(255:Int) by decide) ?_|refine CJ (show _=(16:Int) by decide) ?_|refine CJ (show _=(15:Int) by decide) ?_|refine CJ (show _=(4:Int) by decide) ?_|refine CJ (show _=(8:Int) by decide) ?_|refine CJ (show _=(2:Int) by decide) ?_|refine CJ (show _=(3:Int) by decide) ?_)
   all_goals exact T0 (λz=>[B z]) ((decide_eq_decide.2 (by simp[lim])))
 ·have c:slots k=0:=by unfold slots;rw[C7 ω,C7 ω,C7 ω,C7 ω]
  rw[c];refine fO 15 [] Tryz.func193 rfl ?_
  repeat'(first|refine gD ?_|(conv=>whnf);first|with_reducible refine Bf.D (λa=>?_) (λa=>?_)|refine C6 (aG _ 1 16) ?_)
  exact T0 (λz=>[B z]) ((by symm;exact Q0 ω))
theorem xm(k b:Int):ao Tryz.prog 244 false [.val none [I (slots k)],.val none [I b]] .one [B (KQ k b)]:=by
 by_cases d:0<=k/\k<=3
 ·obtain rfl|rfl|rfl|rfl:k=0\/k=1\/k=2\/k=3:=ω
  all_goals
   first|rw[show slots 0=16 from rfl]|rw[show slots 1=8 from rfl]|rw[show slots 2=4 from rfl]|rw[show slots 3=2 from rfl]
   refine fO 14 [] Tryz.func244 rfl ?_
   repeat'(first|refine gD ?_|(conv=>whnf);first|with_reducible refine Bf.D (λa=>?_) (λa=>?_)|refine C6 (aM _ 1 16) ?_|refine C6 (aM _ 0 _) ?_|refine CL (by decide) ?_|refine CJ (ek (by decide) (by decide)) ?_)
   all_goals exact T0 (λz=>[B z]) ((decide_eq_decide.2 (by simp[lim,IntKind.bits])))
 ·have c:slots k=0:=by unfold slots;rw[C7 ω,C7 ω,C7 ω,C7 ω]
  rw[c];refine fO 14 [] Tryz.func244 rfl ?_
  repeat'(first|refine gD ?_|(conv=>whnf);first|with_reducible refine Bf.D (λa=>?_) (λa=>?_)|refine C6 (aM _ 1 16) ?_)
  exact T0 (λz=>[B z]) ((by symm;exact Q0 ω))
theorem eR(s:au):ao Tryz.prog 113 false [.val (some 3) (au.enc .imm s)] .one [B (aY s)]:=by
 refine fO 14 [(1,12,[3,4,5,6,7,8,9,10,11,12,13,2])] Tryz.func113 rfl ?_
 repeat'(first|refine gO ?_|(conv=>whnf);first|with_reducible refine Bf.D (λa=>?_) (λa=>?_)|refine C6 (aG _ 0 31) ?_|refine C6 (lV _) ?_|refine C6 (pk _ _) ?_)
 all_goals exact T0 (λz=>[B z]) ((by unfold aY;first|(symm;exact Q0 ω)|exact decide_eq_decide.2 ω))
theorem gQ(s:au):ao Tryz.prog 161 false [.val (some 3) (au.enc .imm s)] .one [B (aY s)]:=by
 refine fO 19 [(1,17,[3,4,5,6,7,8,9,10,11,12,13,14,15,16,17,18,2])] Tryz.func161 rfl ?_
 repeat'(first|refine gO ?_|(conv=>whnf);first|with_reducible refine Bf.D (λa=>?_) (λa=>?_)|refine C6 (aM _ 0 31) ?_|refine C6 (fh _) ?_|refine C6 (ig _) ?_|refine C6 (xm _ _) ?_)
 all_goals exact T0 (λz=>[B z]) ((by unfold aY;first|(symm;exact Q0 ω)|exact decide_eq_decide.2 ω))
section
variable{α:Type}{xs:List α}{p:α->Bool}{i:Nat}{y:α}
theorem A4(h:xs[i]? = some y)(a:p y=true):xs.any p=true:=C3.2 ⟨y,Q1 h,a⟩
theorem vZ(h:xs[i]? = some y)(a:(xs.take i).any p=false)(b:p y=false):(xs.take (i+1)).any p=false:=by
 rw[O4,h,List.any_append,a];simp[b]
theorem FB(a:xs.length<=i)(b:(xs.take i).any p=false):xs.any p=false:=by
 rwa [O5 a]at b
theorem fC[Inhabited α](a:0<i)(b:i<xs.length):xs[((i:Int) - 1).toNat]? = some (nth xs (i - 1)):=by
 rw[show((i:Int) - 1).toNat=i - 1 by omega];exact ah ω
end
theorem vU{pages:Int}{xs:List a7}{i n:Nat}(a:cw n (fD pages xs)=true)(b:i<n):1<=(nth xs i).Len/\(nth xs i).Len<=pages/\0<=(nth xs i).At/\(nth xs i).At<=pages - (nth xs i).Len:=by
 have:=d5 a b;unfold fD rangeIn at this;simp only[I0,C0]at this;exact this.1
theorem kQ(pages:Int)(xs:List a7)(e:0<=pages/\pages<=1048576)(k:iE xs):ao Tryz.prog 202 false [.val none [I pages],.val none (bB .imm xs)] .one [B (bv pages xs)]:=by
 have n:=k.1;refine fO 46 [(4,32,[12,13,14,15,16,17,18,19,20,21,22,23,24,25,26,27,28,29,30,31,32,33,34,35,36,37,38,39,40,41,42,43])] Tryz.func202 rfl ?_
 repeat'(first|refine gO ?_|fail)
 (conv=>whnf)
 refine CD (ι:=Nat) (λi=>[(0,.hold .one [I (pages)]),(1,.hold .one (bB .imm xs)),(5,.hold .one [I ((i:Nat):Int)])]) (λi=>i<=xs.length/\cw i (fD pages xs)=true) (λi=>xs.length - i) 0 ?_ ⟨R0 _,rfl⟩ λi g=>?_
 ·exact wB
 obtain⟨g,d⟩:=g;by_cases c:i<xs.length
 ·have j:=ah c
  have o:0<i->1<=(nth xs (i - 1)).Len/\(nth xs (i - 1)).Len<=pages/\0<=(nth xs (i - 1)).At/\(nth xs (i - 1)).At<=pages - (nth xs (i - 1)).Len:=λh=>vU d ω
  cases a:rangeIn pages (nth xs i) with
  | false=>
   have b:=uR pages (nth xs i) e;rw[a]at b
   repeat'(first|refine gD ?_|(conv=>whnf);first|with_reducible refine CA (aa j) ?_|refine C6 b ?_)
   exact T0 (λz=>[B z]) ((by symm;unfold bv;rw[ca c (by unfold fD;rw[a];rfl)];rfl))
  | true=>
   have b:=uR pages (nth xs i) e;rw[a]at b
   repeat'(first|refine gD ?_|(conv=>whnf);first|with_reducible (first|refine CA (aa j) ?_|refine Bf.D (λl=>?_) (λl=>?_))|refine C6 b ?_|refine CK ω (aa (fC ω c)) ?_)
   all_goals first
    | exact T0 (λz=>[B z]) ((by symm;unfold bv;rw[ca c (by unfold fD;rw[a,Q0 ω];rfl)];rfl))
    | ((conv=>whnf);refine CB (i+1) ⟨ω,bE d (by unfold fD;rw[a,O0 ω];rfl)⟩ ω ?_;(exact wB))
 ·repeat'(first|refine gD ?_|(conv=>whnf);first|refine C6 (aG pages 1 32) ?_)
  obtain rfl:i=xs.length:=ω
  exact T0 (λz=>[B z]) ((by unfold bv;rw[d];rfl))
theorem xu(pages:Int)(xs:List a7)(j:0<=pages/\pages<=1048576)(k:iE xs):ao Tryz.prog 67 false [.val none [I pages],.val none (bB .imm xs)] .one [B (bv pages xs)]:=by
 have n:=k.1;refine fO 43 [(4,26,[14,15,16,17,18,19,20,21,22,23,24,25,26,27,28,29,30,31,32,33,34,35,36,37,38,39])] Tryz.func67 rfl ?_
 repeat'(first|refine gO ?_|fail)
 (conv=>whnf)
 refine CD (ι:=Nat) (λi=>[(0,.hold .one [I (pages)]),(1,.hold .one (bB .imm xs)),(7,.hold .one (bB .imm xs)),(8,.hold .one [I (xs.length)]),(9,.hold .one [I ((i:Nat):Int)])]) (λi=>i<=xs.length/\cw i (fD pages xs)=true) (λi=>xs.length - i) 0 ?_ ⟨R0 _,rfl⟩ λi e=>?_
 ·exact wB
 obtain⟨e,d⟩:=e;by_cases b:i<xs.length
 ·have g:=ah b
  have o:0<i->1<=(nth xs (i - 1)).Len/\(nth xs (i - 1)).Len<=pages/\0<=(nth xs (i - 1)).At/\(nth xs (i - 1)).At<=pages - (nth xs (i - 1)).Len:=λh=>vU d ω
  have c:=EV pages (nth xs i) j;cases a:rangeIn pages (nth xs i) with
  | false=>
   rw[a]at c
   repeat'(first|refine gD ?_|(conv=>whnf);first|with_reducible refine CA (aa g) ?_|refine C6 c ?_)
   exact T0 (λz=>[B z]) ((by symm;unfold bv;rw[ca b (by unfold fD;rw[a];rfl)];rfl))
  | true=>
   rw[a]at c
   repeat'(first|refine gD ?_|(conv=>whnf);first|with_reducible (first|refine CA (aa g) ?_|refine Bf.D (λl=>?_) (λl=>?_))|refine C6 c ?_|refine CK ω (aa (fC ω b)) ?_)
   all_goals first
    | exact T0 (λz=>[B z]) ((by symm;unfold bv;rw[ca b (by unfold fD;rw[a,Q0 ω];rfl)];rfl))
    | ((conv=>whnf);refine CB (i+1) ⟨ω,bE d (by unfold fD;rw[a,O0 ω];rfl)⟩ ω ?_;(exact wB))
 ·repeat'(first|refine gD ?_|(conv=>whnf);first|refine C6 (aM pages 1 32) ?_)
  obtain rfl:i=xs.length:=ω
  exact T0 (λz=>[B z]) ((by unfold bv;rw[d];rfl))
theorem xk(xs:List a7)(page:Int)(g:xs.length<=9223372036854775807):ao Tryz.prog 270 false [.val none (bB .imm xs),.val none [I page]] .one [B (xs.any (pP page))]:=by
 refine fO 34 [(4,22,[12,13,14,15,16,17,18,19,20,21,22,23,24,25,26,27,28,29,30,31,32,33])] Tryz.func270 rfl ?_
 repeat'(first|refine gO ?_|fail)
 (conv=>whnf)
 refine CD (ι:=Nat) (λi=>[(0,.hold .one (bB .imm xs)),(1,.hold .one [I (page)]),(5,.hold .one [I ((i:Nat):Int)])]) (λi=>i<=xs.length/\(xs.take i).any (pP page)=false) (λi=>xs.length - i) (0) ?_ (⟨R0 _,rfl⟩) λi b=>?_
 ·exact wB
 obtain⟨b,c⟩:=b;by_cases d:i<xs.length
 ·have a:=ah d
  repeat'(first|refine gD ?_|(conv=>whnf);first|with_reducible (first|refine CA (aa a) ?_|refine Bf.D (λe=>?_) (λe=>?_))|refine CJ rfl ?_)
  all_goals first
   | exact T0 (λz=>[B z]) ((A4 a (by unfold pP;rw[O0 (by assumption),O0 (by assumption)];rfl)).symm)
   | ((conv=>whnf);refine CB (i+1) ⟨ω,vZ a c (by unfold pP;first|(rw[Q0 (by assumption:¬(nth xs i).At<=page)];rfl)|(rw[Q0 (by assumption:¬page<_)];simp))⟩ ω ?_;(exact wB))
 ·repeat'(first|refine gD ?_|fail)
  exact T0 (λz=>[B z]) ((FB ω c).symm)
theorem tdiv16{z:Int}(h:0<=z):z.tdiv 16=z / 16:=Int.tdiv_eq_ediv_of_nonneg h
theorem kR(z:Int):ao Tryz.prog 293 false [.val none [I z]] .one [I (eM z)]:=by
 refine fO 10 [] Tryz.func293 rfl ?_;by_cases b:9<=z/\z<=1000
 ·repeat'(first|refine gD ?_|(conv=>whnf);first|with_reducible refine Bf.D (λa=>?_) (λa=>?_)|refine C6 (aG z 9 1000) ?_|refine CL (by decide) ?_|refine CJ ((T0 _ (tdiv16 ω)).trans (ek ω ω)) ?_)
  all_goals exact T0 (λz=>[I z]) (by unfold eM;rw[C8 b];omega)
 ·repeat'(first|refine gD ?_|(conv=>whnf);first|with_reducible refine Bf.D (λa=>?_) (λa=>?_)|refine C6 (aG z 9 1000) ?_)
  all_goals exact T0 (λz=>[I z]) (by unfold eM;rw[C7 b])
theorem xy(z:Int):ao Tryz.prog 217 false [.val none [I z]] .one [I (eM z)]:=by
 refine fO 10 [] Tryz.func217 rfl ?_;by_cases b:9<=z/\z<=1000
 ·repeat'(first|refine gD ?_|(conv=>whnf);first|with_reducible refine Bf.D (λa=>?_) (λa=>?_)|refine C6 (aM z 9 1000) ?_|refine CL (by decide) ?_|refine CJ ((T0 _ (tdiv16 ω)).trans (ek ω ω)) ?_)
  all_goals exact T0 (λz=>[I z]) (by unfold eM;rw[C8 b];omega)
 ·repeat'(first|refine gD ?_|(conv=>whnf);first|with_reducible refine Bf.D (λa=>?_) (λa=>?_)|refine C6 (aM z 9 1000) ?_)
  all_goals exact T0 (λz=>[I z]) (by unfold eM;rw[C7 b])
theorem lS(l:a8):ao Tryz.prog 269 false [.val (some 3) (a8.enc .imm l)] .one [B (bO l)]:=by
 have b:=kR l.Size;by_cases c:9<=l.Size/\l.Size<=1000
 ·rw[show eM l.Size=(l.Size+15) / 16 from C8 c]at b
  refine fO 22 [] Tryz.func269 rfl ?_
  repeat'(first|refine gO ?_|(conv=>whnf);first|with_reducible (first|refine Bf.D (λa=>?_) (λa=>?_)|refine Bf.E (λa=>?_) (λa=>?_))|refine C6 b ?_|refine C6 (aG _ 0 _) ?_)
  all_goals exact T0 (λz=>[B z]) ((by unfold bO;first|(symm;exact Q0 ω)|exact decide_eq_decide.2 ω))
 ·rw[show eM l.Size=0 from C7 c]at b
  refine fO 22 [] Tryz.func269 rfl ?_
  repeat'(first|refine gD ?_|(conv=>whnf);first|with_reducible refine Bf.D (λa=>?_) (λa=>?_)|refine C6 b ?_)
  all_goals exact T0 (λz=>[B z]) ((by unfold bO;symm;exact Q0 ω))
theorem qY(l:a8):ao Tryz.prog 162 false [.val (some 3) (a8.enc .imm l)] .one [B (bO l)]:=by
 have b:=xy l.Size;by_cases c:9<=l.Size/\l.Size<=1000
 ·rw[show eM l.Size=(l.Size+15) / 16 from C8 c]at b
  refine fO 22 [(1,20,[3,4,5,6,7,8,9,10,11,12,13,14,15,16,17,18,19,20,21,2])] Tryz.func162 rfl ?_
  repeat'(first|refine gD ?_|(conv=>whnf);first|with_reducible (first|refine Bf.D (λa=>?_) (λa=>?_)|refine Bf.E (λa=>?_) (λa=>?_))|refine C6 b ?_|refine C6 (aM _ 9 1000) ?_|refine C6 (aM _ 0 _) ?_)
  all_goals exact T0 (λz=>[B z]) ((by unfold bO;first|(symm;exact Q0 ω)|exact decide_eq_decide.2 ω))
 ·refine fO 22 [(1,20,[3,4,5,6,7,8,9,10,11,12,13,14,15,16,17,18,19,20,21,2])] Tryz.func162 rfl ?_
  repeat'(first|refine gD ?_|(conv=>whnf);first|with_reducible refine Bf.D (λa=>?_) (λa=>?_)|refine C6 (aM _ 9 1000) ?_)
  all_goals exact T0 (λz=>[B z]) ((by unfold bO;symm;exact Q0 ω))
theorem my{z:Int}(h:0<=z/\z<=9223372036854775807):(BitVec.ofInt IntKind.i64.bits z).toNat=z.toNat:=by
 show(BitVec.ofInt 64 z).toNat=z.toNat;rw[BitVec.toNat_ofInt]
 congr 1
 exact Int.emod_eq_of_lt h.1 (by show z<((2 ^ 64:Nat):Int);have:=h.2;norm_cast;omega)
theorem and64{z1 z2:Int}(h1:0<=z1/\z1<=9223372036854775807)(a:0<=z2/\z2<=9223372036854775807):IntKind.i64.wrap ((BitVec.ofInt IntKind.i64.bits z1 &&& BitVec.ofInt IntKind.i64.bits z2).toNat:Nat)=((z1.toNat &&& z2.toNat:Nat):Int):=by
 rw[BitVec.toNat_and,my h1,my a];have:z1.toNat &&& z2.toNat<=z1.toNat:=Nat.and_le_left;exact ek ω ω
theorem Fg(k:Int):lim k<=65535:=by
 unfold lim
 (repeat' split)<;>decide
theorem dM{s:au}(h:aY s=true):0<=s.Bits/\s.Bits<=9223372036854775807:=by
 unfold aY at h;simp only[C0]at h;have:=Fg s.Class;omega
theorem kT(b c:au):ao Tryz.prog 40 false [.val (some 3) (au.enc .imm b),.val (some 3) (au.enc .imm c)] .one [B (meshable b c)]:=by
 have g:=eR b;have h:=eR c;cases d:aY b<;>rw[d]at g<;>cases e:aY c<;>rw[e]at h
 all_goals
  refine fO 33 [] Tryz.func40 rfl ?_
  repeat'(first|refine gO ?_|(conv=>whnf);first|with_reducible (first|refine Bf.D (λa=>?_) (λa=>?_)|refine Bf.N (λa=>?_) (λa=>?_)|refine Bf.E (λa=>?_) (λa=>?_))|refine C6 g ?_|refine C6 h ?_|refine CJ (and64 (dM d) (dM e)) ?_)
  all_goals exact T0 (λz=>[B z]) ((by unfold meshable;rw[d,e];first|rfl|(symm;exact Q0 ω)|(rw[Y3];simp;omega)))
theorem xG(b c:au):ao Tryz.prog 165 false [.val (some 3) (au.enc .imm b),.val (some 3) (au.enc .imm c)] .one [B (meshable b c)]:=by
 have g:=gQ b;have h:=gQ c;cases d:aY b<;>rw[d]at g<;>cases e:aY c<;>rw[e]at h
 all_goals
  refine fO 33 [] Tryz.func165 rfl ?_
  repeat'(first|refine gO ?_|(conv=>whnf);first|with_reducible (first|refine Bf.D (λa=>?_) (λa=>?_)|refine Bf.N (λa=>?_) (λa=>?_)|refine Bf.E (λa=>?_) (λa=>?_))|refine C6 g ?_|refine C6 h ?_|refine CJ (and64 (dM d) (dM e)) ?_)
  all_goals exact T0 (λz=>[B z]) ((by unfold meshable;rw[d,e];first|rfl|(symm;exact Q0 ω)|(rw[Y3];simp;omega)))
theorem Hj(k:Int):ao Tryz.prog 247 false [.val none [I k]] .one [B (decide (0<=k/\k<=15))]:=by
 refine fO 5 [] Tryz.func247 rfl ?_
 repeat'(first|refine gO ?_|(conv=>whnf);first|refine C6 (aM k 0 15) ?_)
 rfl
theorem sX(p:cB)(e:cB.sml p):ao Tryz.prog 279 false [.val (some 3) (cB.enc .imm p)] .one [B (eN p)]:=by
 have h:p.Cells.length<=1048576:=e;refine fO 51 [(4,25,[11,12,13,14,15,16,17,18,19,20,21,22,23,24,25,26,27,28,29,30,31,32,33,34,35])] Tryz.func279 rfl ?_
 repeat'(first|refine gO ?_|fail)
 (conv=>whnf)
 refine CD (ι:=Nat) (λi=>[(1,.hold .box (cB.enc .imm p)),(3,.hold .one [I ((i:Nat):Int)])]) (λi=>i<=p.Cells.length/\cw i (mg p.Cells)=true) (λi=>p.Cells.length - i) 0 ?_ ⟨R0 _,rfl⟩ λi c=>?_
 ·exact wB
 obtain⟨c,d⟩:=c;by_cases b:i<p.Cells.length
 ·have g:=ah b
  repeat'(first|refine gD ?_|(conv=>whnf);first|with_reducible (first|refine CA (aa g) ?_|refine Bf.D (λa=>?_) (λa=>?_))|refine C6 (aG _ 0 15) ?_|refine CK ω (aa (fC ω b)) ?_)
  all_goals first
   | exact T0 (λz=>[B z]) ((by symm;unfold eN;rw[ca b (Q0 ω)];rfl))
   | ((conv=>whnf);refine CB (i+1) ⟨ω,bE d (O0 ω)⟩ ω ?_;(exact wB))
 ·obtain rfl:i=p.Cells.length:=ω
  repeat'(first|refine gD ?_|(conv=>whnf);first|with_reducible (first|refine Bf.D (λa=>?_) (λa=>?_)|refine Bf.NB (λa=>?_) (λa=>?_)|refine Bf.N (λa=>?_) (λa=>?_))|refine C6 (aG _ 0 31) ?_)
  all_goals exact T0 (λz=>[B z]) ((by unfold eN;rw[d];simp only[Bool.true_and];first|(symm;exact Q0 ω)|exact decide_eq_decide.2 ω|(rw[Y3];simp;omega)))
theorem BQ(p:cB)(e:cB.sml p):ao Tryz.prog 171 false [.val (some 3) (cB.enc .imm p)] .one [B (eN p)]:=by
 have h:p.Cells.length<=1048576:=e;refine fO 46 [] Tryz.func171 rfl ?_
 repeat'(first|refine gO ?_|fail)
 (conv=>whnf)
 refine CD (ι:=Nat) (λi=>[(1,.hold .box (cB.enc .imm p)),(6,.hold .one (aF .imm p.Cells)),(7,.hold .one [I (p.Cells.length)]),(8,.hold .one [I ((i:Nat):Int)])]) (λi=>i<=p.Cells.length/\cw i (mg p.Cells)=true) (λi=>p.Cells.length - i) 0 ?_ ⟨R0 _,rfl⟩ λi c=>?_
 ·exact wB
 obtain⟨c,d⟩:=c;by_cases b:i<p.Cells.length
 ·have g:=ah b
  repeat'(first|refine gD ?_|(conv=>whnf);first|with_reducible (first|refine CA (aa g) ?_|refine Bf.D (λa=>?_) (λa=>?_))|refine C6 (Hj _) ?_|refine CK ω (aa (fC ω b)) ?_)
  all_goals first
   | exact T0 (λz=>[B z]) ((by symm;unfold eN;rw[ca b (Q0 ω)];rfl))
   | ((conv=>whnf);refine CB (i+1) ⟨ω,bE d (O0 ω)⟩ ω ?_;(exact wB))
 ·obtain rfl:i=p.Cells.length:=ω
  repeat'(first|refine gD ?_|(conv=>whnf);first|with_reducible (first|refine Bf.D (λa=>?_) (λa=>?_)|refine Bf.NB (λa=>?_) (λa=>?_)|refine Bf.N (λa=>?_) (λa=>?_))|refine C6 (aM _ 0 31) ?_)
  all_goals exact T0 (λz=>[B z]) ((by unfold eN;rw[d];simp only[Bool.true_and];first|(symm;exact Q0 ω)|exact decide_eq_decide.2 ω|(rw[Y3];simp;omega)))
theorem vo(j:cP)(a:cP.sml j):ao Tryz.prog 212 false [.val (some 5) (cP.enc .imm j)] .one [B (jh j)]:=by
 have e:j.Plan.Cells.length<=1048576:=a;have b:=sX j.Plan a;cases c:eN j.Plan<;>rw[c]at b
 all_goals
  refine fO 20 [] Tryz.func212 rfl ?_
  repeat'(first|refine gO ?_|(conv=>whnf);first|with_reducible refine Bf.D (λd=>?_) (λd=>?_)|refine C6 b ?_|refine C6 (aG _ 0 5) ?_|refine C6 (aG _ 0 _) ?_)
  all_goals exact T0 (λz=>[B z]) ((by unfold jh;rw[c];first|rfl|(symm;exact Q0 ω)|(rw[Y3];simp;omega)))
theorem Eo(j:cP)(a:cP.sml j):ao Tryz.prog 77 false [.val (some 5) (cP.enc .imm j)] .one [B (jh j)]:=by
 have e:j.Plan.Cells.length<=1048576:=a;have b:=BQ j.Plan a;cases c:eN j.Plan<;>rw[c]at b
 all_goals
  refine fO 20 [] Tryz.func77 rfl ?_
  repeat'(first|refine gO ?_|(conv=>whnf);first|with_reducible refine Bf.D (λd=>?_) (λd=>?_)|refine C6 b ?_|refine C6 (aM _ 0 5) ?_|refine C6 (aM _ 0 _) ?_)
  all_goals exact T0 (λz=>[B z]) ((by unfold jh;rw[c];first|rfl|(symm;exact Q0 ω)|(rw[Y3];simp;omega)))
theorem jO(l:a8)(k:Nat):lpgs l (k+1)=lpgs l k++[l.Page+(k:Nat)]:=by
 unfold lpgs;rw[List.range_succ,R4];rfl
theorem Dz(l:a8)(k:Nat):(lpgs l k).length=k:=by unfold lpgs;simp
theorem KJ(l:a8){k n:Nat}(h:k<=n):lpgs l k <+: lpgs l n:=by
 induction n with
 | zero=>
  obtain rfl:k=0:=ω
  exact List.prefix_refl _
 | succ n b=>
  rcases Nat.lt_or_ge n k with a|a
  ·obtain rfl:k=n+1:=ω
   exact List.prefix_refl _
  ·rw[jO];exact(b a).trans (List.prefix_append ..)
theorem nZ(sp:List au){la:List a8}{i:Nat}{l:a8}(h:la[i]? = some l):pgs sp (la.take (i+1))=pgs sp (la.take i)++lpgs l l.Pages.toNat:=by
 unfold pgs;rw[O4,h,List.flatMap_append];simp
theorem Mi(sp:List au)(la:List a8)(i:Nat):pgs sp (la.take i) <+: pgs sp la:=by
 unfold pgs;refine(List.prefix_append_right_inj _).2 ?_
 conv=>rhs;rw[<-List.take_append_drop i la,List.flatMap_append]
 exact List.prefix_append ..
theorem J3{S all:List Int}{p:Int}(h:(S++[p]) <+: all)(b:p∈S):decide all.Nodup=false:=by
 refine Q0 λc=>?_
 have a:=c.sublist h.sublist;rw[List.nodup_append]at a;exact a.2.2 p b p (by simp) rfl
theorem ka{S:List Int}{p:Int}(h:S.Nodup)(b:p∉S):(S++[p]).Nodup:=by
 rw[List.nodup_append];exact⟨h,by simp,λx c y a e=>by simp at a;subst a;subst e;exact b c⟩
theorem BK{sp:List au}{la:List a8}{i:Nat}{s:au}(h:sp[i]? = some s):((sp.take i).map (·.Page)++[s.Page]) <+: pgs sp la:=by
 have a:(sp.take i).map (·.Page)++[s.Page]=(sp.take (i+1)).map (·.Page):=by rw[O4,h];simp
 rw[a];refine List.IsPrefix.trans ?_ (List.prefix_append ..);rw[Q3];exact List.take_prefix ..
theorem y6{sp:List au}{la:List a8}{i k:Nat}{l:a8}(h:la[i]? = some l)(a:k<l.Pages.toNat):(pgs sp (la.take i)++lpgs l k++[l.Page+(k:Nat)]) <+: pgs sp la:=by
 refine List.IsPrefix.trans ?_ (Mi sp la (i+1));rw[nZ sp h,Q4,<-jO];exact(List.prefix_append_right_inj _).2 (KJ l a)
theorem po{sp:List au}{la:List a8}{i:Nat}{s:au}(h:sp[i]? = some s)(a:aY s=false):bf sp la=false:=by
 unfold bf;rw[ec h a];rfl
theorem nY{sp:List au}{la:List a8}{i:Nat}{l:a8}(h:la[i]? = some l)(a:bO l=false):bf sp la=false:=by
 unfold bf;rw[ec h a];simp
theorem jB{sp:List au}{la:List a8}{S:List Int}{p:Int}(h:(S++[p]) <+: pgs sp la)(a:p∈S):bf sp la=false:=by
 unfold bf;rw[J3 h a];simp
theorem qU{sp:List au}{la:List a8}(h1:sp.all aY=true)(a:la.all bO=true)(b:(pgs sp la).Nodup):bf sp la=true:=by
 unfold bf;rw[h1,a,O0 b];rfl
theorem aN{l:a8}(h:bO l=true):1<=l.Pages/\l.Pages<=63/\0<=l.Page/\l.Page<=31:=by
 unfold bO at h;simp only[C0]at h;omega
theorem kN(sp:List au)(la:List a8)(t:du sp)(u:dr la):ao Tryz.prog 203 false [.val none (cg .imm sp),.val none (bS .imm la)] .one [B (bf sp la)]:=by
 have J:=t.1;have K:=u.1;refine fO 79 [] Tryz.func203 rfl ?_
 repeat'(first|refine gO ?_|fail)
 (conv=>whnf)
 refine CD (ι:=Nat × List Int) (λi=>[(0,.hold .one (cg .imm sp)),(1,.hold .one (bS .imm la)),(5,.hold .one (aF .own i.2)),(6,.hold .one [I ((i.1:Nat):Int)])]) (λi=>i.1<=sp.length/\i.2=(sp.take i.1).map (·.Page)/\(sp.take i.1).all aY=true/\i.2.Nodup) (λi=>sp.length - i.1) ((0,[])) ?_ (⟨R0 _,rfl,rfl,List.nodup_nil⟩) λi p=>?_
 ·exact wB
 obtain⟨i,S⟩:=i;obtain⟨p,o,h,l⟩:=p;simp only at p o h l |-;have L:S.length=i:=by rw[o,W0,I1];omega
 by_cases w:i<sp.length
 ·have a:=ah w
  have n:=eR (nth sp i);cases j:aY (nth sp i)<;>rw[j]at n
  ·repeat'(first|refine gD ?_|(conv=>whnf);first|with_reducible refine CA (aa a) ?_|refine C6 n ?_)
   exact T0 (λz=>[B z]) ((po a j).symm)
  ·repeat'(first|refine gD ?_|(conv=>whnf);first|with_reducible (first|refine CA (aa a) ?_|refine Bf.D (λy=>?_) (λy=>?_))|refine C6 n ?_|refine CF (lN S _ ω) ⟨⟨rfl,dS _⟩,⟨rfl,rfl⟩,trivial⟩ ?_|refine CP co (λr E=>by rw[Z0.1 E];rfl) (by simp[aV,d8]) (by simp;omega) (by simp only[W0];exact wT (by simp;omega) (by decide)) rfl ?_)
   all_goals first
    | exact T0 (λz=>[B z]) ((jB (S:=S) (by rw[o];exact BK a) (by assumption)).symm)
    | ((conv=>whnf)
       refine CB (i+1,S++[(nth sp i).Page]) ⟨(by simp only;omega),(by simp only;rw[o,O4,a];simp),(cy a h j),ka l (by assumption)⟩ (by simp only;omega) ?_
       (repeat'(first|exact trivial|rfl|exact CI rfl (CI (T0 (C.s d9.own) (by simp[rI])) trivial)|refine CI ?_ ?_)))
 ·obtain rfl:i=sp.length:=ω
  rw[v4]at h o
  repeat'(first|refine gD ?_|fail)
  (conv=>whnf)
  refine CD (ι:=Nat × List Int) (λi=>[(1,.hold .one (bS .imm la)),(5,.hold .one (aF .own i.2)),(7,.hold .one [I ((i.1:Nat):Int)])]) (λi=>i.1<=la.length/\i.2=pgs sp (la.take i.1)/\(la.take i.1).all bO=true/\i.2.Nodup/\i.2.length<=1048576+64*i.1) (λi=>la.length - i.1) ((0,S)) ?_ (⟨R0 _,by rw[o];unfold pgs;simp,rfl,l,by simp only;omega⟩) λi p=>?_
  ·exact wB
  obtain⟨i,S2⟩:=i;obtain⟨F,c,b,d,G⟩:=p;simp only at F c b d G |-;by_cases w:i<la.length
  ·have a:=ah w
   have n:=lS (nth la i);cases j:bO (nth la i)<;>rw[j]at n
   ·repeat'(first|refine gD ?_|(conv=>whnf);first|with_reducible refine CA (aa a) ?_|refine C6 n ?_)
    exact T0 (λz=>[B z]) ((nY a j).symm)
   ·have M:=aN j
    repeat'(first|refine gD ?_|(conv=>whnf);first|with_reducible refine CA (aa a) ?_|refine C6 n ?_)
    (conv=>whnf)
    refine CD (ι:=Nat × List Int) (λk=>[(1,.hold .one (bS .imm la)),(5,.hold .one (aF .own k.2)),(7,.hold .one [I ((i:Nat):Int)]),(8,.hold .one [I ((k.1:Nat):Int)])]) (λk=>k.1<=(nth la i).Pages.toNat/\k.2=S2++lpgs (nth la i) k.1/\k.2.Nodup) (λk=>(nth la i).Pages.toNat - k.1) ((0,S2)) ?_ (⟨R0 _,by simp[lpgs],d⟩) λk H=>?_
    ·exact wB
    obtain⟨k,q⟩:=k;obtain⟨H,e,g⟩:=H;simp only at H e g |-;have N:q.length=S2.length+k:=by rw[e,U2,Dz]
    by_cases O:k<(nth la i).Pages.toNat
    ·repeat'(first|refine gD ?_|(conv=>whnf);first|with_reducible (first|refine CA (aa a) ?_|refine Bf.D (λy=>?_) (λy=>?_))|refine CF (lN q _ ω) ⟨⟨rfl,dS _⟩,⟨rfl,rfl⟩,trivial⟩ ?_|refine CP co (λr E=>by rw[Z0.1 E];rfl) (by simp[aV,d8]) (by simp;omega) (by show _*8<=_;simp;omega) rfl ?_)
     all_goals first
      | exact T0 (λz=>[B z]) ((jB (S:=q) (by rw[e,c];exact y6 a O) (by assumption)).symm)
      | ((conv=>whnf)
         refine CB (k+1,q++[(nth la i).Page+(k:Nat)]) ⟨(by simp only;omega),(by simp only;rw[e,jO,Q4]),ka g (by assumption)⟩ (by simp only;omega) ?_
         (repeat'(first|exact trivial|rfl|exact CI rfl (CI (T0 (C.s d9.own) (by simp[rI])) trivial)|refine CI ?_ ?_)))
    ·obtain rfl:k=(nth la i).Pages.toNat:=ω
     repeat'(first|refine gD ?_|(conv=>whnf);first|with_reducible refine CA (aa a) ?_)
     ((conv=>whnf);refine CB (i+1,q) ⟨(by simp only;omega),(by simp only;rw[e,c,<-nZ sp a]),(cy a b j),g,(by simp only;omega)⟩ (by simp only;omega) ?_;(exact wB))
  ·obtain rfl:i=la.length:=ω
   rw[v4]at b c
   repeat'(first|refine gD ?_|fail)
   exact T0 (λz=>[B z]) ((qU h b (by rw[<-c];exact d)).symm)
def ins(S:List Int)(p:Int):List Int:=if p∈S then S else S++[p]
theorem FO{p:Int} : ∀{S:List Int},p∈S->mput (eQ S) p (.bool true)=eQ S
 | x::S,h=>by
  simp only[eQ,U4,mput];by_cases a:x=p
  ·rw[C8 a,a]
  ·rw[C7 a]
   have:=FO (S:=S) ((List.mem_cons.1 h).resolve_left λe=>a e.symm);simp only[eQ]at this;rw[this]
theorem wI(S:List Int)(p:Int):eQ (ins S p)=mput (eQ S) p (.bool true):=by
 unfold ins;split
 ·rw[FO (by assumption)]
 ·rw[r7 (by assumption)]
theorem J6(S:List Int)(p:Int):aS Tryz.prog 160 false [.val none [I p],.ptr [.m (eQ S)]] [.val none [I p],.ptr [.m (eQ (ins S p))]] .one [B (decide (p∉S))]:=by
 refine fM 12 [] [] [(0,0),(0,0)] Tryz.func160 rfl (λu q=>?_)
 repeat'(first|refine gO ?_|(conv=>whnf);first|refine Ml.mk (mC p S) ?_|refine Mu.mk (wI S p) ?_)
 refine CE rfl ?_ ?_
 ·exact T0 (λz=>[B z]) (by simp)
 ·exact wB
theorem kO(sp:List au)(la:List a8)(t:du sp)(u:dr la):ao Tryz.prog 68 false [.val none (cg .imm sp),.val none (bS .imm la)] .one [B (bf sp la)]:=by
 have F:=t.1;have G:=u.1;refine fP 54 [(160,[0,2])] [] Tryz.func68 rfl ?_
 repeat'(first|refine gO ?_|fail)
 (conv=>whnf)
 refine CD (ι:=Nat × List Int) (λi=>[(1,.hold .one (bS .imm la)),(5,.hold .box [.m (eQ i.2)]),(6,.fn 160 [5]),(14,.hold .one (cg .imm sp)),(15,.hold .one [I (sp.length)]),(16,.hold .one [I ((i.1:Nat):Int)])]) (λi=>i.1<=sp.length/\i.2=(sp.take i.1).map (·.Page)/\(sp.take i.1).all aY=true/\i.2.Nodup) (λi=>sp.length - i.1) ((0,[])) ?_ (⟨R0 _,rfl,rfl,List.nodup_nil⟩) λi p=>?_
 ·exact wB
 obtain⟨i,S⟩:=i;obtain⟨p,q,h,n⟩:=p;simp only at p q h n |-;by_cases w:i<sp.length
 ·have c:=ah w
  have o:=gQ (nth sp i);cases l:aY (nth sp i)<;>rw[l]at o
  ·repeat'(first|refine gD ?_|(conv=>whnf);first|with_reducible refine CA (aa c) ?_|refine C6 o ?_)
   exact T0 (λz=>[B z]) ((po c l).symm)
  ·repeat'(first|refine gD ?_|(conv=>whnf);first|with_reducible (first|refine CA (aa c) ?_|refine Bf.D (λy=>?_) (λy=>?_))|refine C6 o ?_|refine CH (J6 S _) (.inl rfl) ?_)
   all_goals first
    | exact T0 (λz=>[B z]) ((jB (S:=S) (by rw[q];exact BK c) (by grind)).symm)
    |(have a:(nth sp i).Page∉S:=by assumption
      (conv=>whnf)
      refine CB (i+1,ins S (nth sp i).Page) ⟨(by simp only;omega),(by simp only;unfold ins;rw[C7 a,q,O4,c];simp),(cy c h l),(by simp only;unfold ins;rw[C7 a];exact ka n a)⟩ (by simp only;omega) ?_
      (exact wA))
 ·obtain rfl:i=sp.length:=ω
  rw[v4]at h q
  repeat'(first|refine gD ?_|fail)
  (conv=>whnf)
  refine CD (ι:=Nat × List Int) (λi=>[(5,.hold .box [.m (eQ i.2)]),(6,.fn 160 [5]),(31,.hold .one (bS .imm la)),(32,.hold .one [I (la.length)]),(33,.hold .one [I ((i.1:Nat):Int)])]) (λi=>i.1<=la.length/\i.2=pgs sp (la.take i.1)/\(la.take i.1).all bO=true/\i.2.Nodup) (λi=>la.length - i.1) ((0,S)) ?_ (⟨R0 _,by rw[q];unfold pgs;simp,rfl,n⟩) λi p=>?_
  ·exact wB
  obtain⟨i,S2⟩:=i;obtain⟨C,d,b,e⟩:=p;simp only at C d b e |-;by_cases w:i<la.length
  ·have c:=ah w
   have o:=qY (nth la i);cases l:bO (nth la i)<;>rw[l]at o
   ·repeat'(first|refine gD ?_|(conv=>whnf);first|with_reducible refine CA (aa c) ?_|refine C6 o ?_)
    exact T0 (λz=>[B z]) ((nY c l).symm)
   ·have H:=aN l
    repeat'(first|refine gD ?_|(conv=>whnf);first|with_reducible refine CA (aa c) ?_|refine C6 o ?_)
    (conv=>whnf)
    refine CD (ι:=Nat × List Int) (λk=>[(5,.hold .box [.m (eQ k.2)]),(6,.fn 160 [5]),(10,.hold .box (a8.enc .imm (nth la i))),(11,.hold .one [I ((k.1:Nat):Int)]),(31,.hold .one (bS .imm la)),(32,.hold .one [I (la.length)]),(33,.hold .one [I ((i:Nat):Int)])]) (λk=>k.1<=(nth la i).Pages.toNat/\k.2=S2++lpgs (nth la i) k.1/\k.2.Nodup) (λk=>(nth la i).Pages.toNat - k.1) ((0,S2)) ?_ (⟨R0 _,by simp[lpgs],e⟩) λk E=>?_
    ·exact wB
    obtain⟨k,r⟩:=k;obtain⟨E,j,g⟩:=E;simp only at E j g |-;by_cases J:k<(nth la i).Pages.toNat
    ·repeat'(first|refine gD ?_|(conv=>whnf);first|with_reducible refine Bf.D (λy=>?_) (λy=>?_)|refine CH (J6 r _) (.inl rfl) ?_)
     all_goals first
      | exact T0 (λz=>[B z]) ((jB (S:=r) (by rw[j,d];exact y6 c J) (by grind)).symm)
      |(have a:(nth la i).Page+(k:Nat)∉r:=by assumption
        (conv=>whnf)
        refine CB (k+1,ins r ((nth la i).Page+(k:Nat))) ⟨(by simp only;omega),(by simp only;unfold ins;rw[C7 a,j,jO,Q4]),(by simp only;unfold ins;rw[C7 a];exact ka g a)⟩ (by simp only;omega) ?_
        (exact wA))
    ·obtain rfl:k=(nth la i).Pages.toNat:=ω
     repeat'(first|refine gD ?_|fail)
     ((conv=>whnf);refine CB (i+1,r) ⟨(by simp only;omega),(by simp only;rw[j,d,<-nZ sp c]),(cy c b l),g⟩ (by simp only;omega) ?_;(exact wB))
  ·obtain rfl:i=la.length:=ω
   rw[v4]at b d
   repeat'(first|refine gD ?_|fail)
   exact T0 (λz=>[B z]) ((qU h b (by rw[<-d];exact e)).symm)
theorem aD{s:au}(h:aY s=true):0<=s.Page/\s.Page<=31/\0<=s.Class/\s.Class<=3:=by
 unfold aY at h;simp only[C0]at h;omega
theorem bM{k:Int}(h:0<=k/\k<=3):csz k=1\/csz k=2\/csz k=4\/csz k=8:=by
 obtain rfl|rfl|rfl|rfl:k=0\/k=1\/k=2\/k=3:=ω
 all_goals decide
theorem km{x y:Int}(h:0<=x):x.tdiv y=x / y:=Int.tdiv_eq_ediv_of_nonneg h
theorem fK{x y:Int}(h:0<=x):x.tmod y=x % y:=Int.tmod_eq_emod_of_nonneg h
def S2(p:Int × Int):List C:=[I p.1,I p.2]
theorem yv{a b:Int}{p:Int × Int}(h:(a,b)=p):[I a,I b]=S2 p:=by subst h;rfl
theorem tj(s:au)(a:Int)(k:lQ a):ao Tryz.prog 328 false [.val (some 3) (au.enc .imm s),.val none [I a]] (.tup [none,none]) (S2 (iv s a)):=by
 have g:=eR s;have l:=cR s.Class;obtain⟨n,o⟩:=k;cases b:aY s<;>rw[b]at g
 ·refine fO 33 [(4,12,[23,24,25,26,27,28,29,30,31,32,4,5])] Tryz.func328 rfl ?_ (.inr ⟨trivial,trivial,trivial⟩)
  repeat'(first|refine gO ?_|(conv=>whnf);first|refine C6 g ?_)
  exact yv (by unfold iv ch;rw[b];rfl)
 ·have h:=aD b
  have i:=bM ⟨h.2.2.1,h.2.2.2⟩;by_cases c:16*s.Page<=a/\a<=16*s.Page+15
  ·have j:0<=a:=ω
   refine fO 33 [(4,12,[23,24,25,26,27,28,29,30,31,32,4,5])] Tryz.func328 rfl ?_ (.inr ⟨trivial,trivial,trivial⟩)
   repeat'(first|refine gD ?_|(conv=>whnf);first|with_reducible refine Bf.N (λd=>?_) (λd=>?_)|refine C6 g ?_|refine C6 l ?_|refine CL (by decide) ?_|refine CL ω ?_|refine CJ ((T0 _ (km j)).trans (ek ω ω)) ?_|refine CR (fK j) ?_|refine CJ ((T0 _ (km ω)).trans (ek (by rcases i with e|e|e|e<;>rw[e]<;>omega) (by rcases i with e|e|e|e<;>rw[e]<;>omega))) ?_|refine CR (fK ω) ?_)
   all_goals first
    |(exfalso;omega)
    |exact yv (by unfold iv ch;rw[b,O0 c];show _=((a - 16*s.Page) / csz s.Class,(a - 16*s.Page) % csz s.Class);rw[show a % 16=a - 16*s.Page by omega])
  ·refine fO 33 [(4,12,[23,24,25,26,27,28,29,30,31,32,4,5])] Tryz.func328 rfl ?_ (.inr ⟨trivial,trivial,trivial⟩)
   repeat'(first|refine gO ?_|(conv=>whnf);first|with_reducible (first|refine Bf.D (λd=>?_) (λd=>?_)|refine Bf.N (λd=>?_) (λd=>?_))|refine C6 g ?_|refine CL (by decide) ?_|refine CJ ((T0 _ (km ω)).trans (ek ω ω)) ?_)
   all_goals first
    |exact yv (by unfold iv ch;rw[b,Q0 c];rfl)
    |(exfalso;omega)
theorem AB(s:au)(a:Int):ao Tryz.prog 182 false [.val (some 3) (au.enc .imm s),.val none [I a]] (.tup [none,none]) (S2 (iv s a)):=by
 have d:=gQ s;have j:=ci s.Class;cases b:aY s<;>rw[b]at d
 ·refine fO 38 [(4,12,[28,29,30,31,32,33,34,35,36,37,4,5])] Tryz.func182 rfl ?_ (.inr ⟨trivial,trivial,trivial⟩)
  repeat'(first|refine gO ?_|(conv=>whnf);first|refine C6 d ?_)
  exact yv (by unfold iv ch;rw[b];rfl)
 ·have h:=aD b
  have i:=bM ⟨h.2.2.1,h.2.2.2⟩;by_cases c:16*s.Page<=a/\a<=16*s.Page+15
  ·refine fO 38 [(4,12,[28,29,30,31,32,33,34,35,36,37,4,5])] Tryz.func182 rfl ?_ (.inr ⟨trivial,trivial,trivial⟩)
   repeat'(first|refine gD ?_|(conv=>whnf);first|with_reducible refine Bf.D (λg=>?_) (λg=>?_)|refine C6 d ?_|refine C6 j ?_|refine C6 (aM _ _ _) ?_|refine CL ω ?_|refine CJ ((T0 _ (km ω)).trans (ek (by rcases i with e|e|e|e<;>rw[e]<;>omega) (by rcases i with e|e|e|e<;>rw[e]<;>omega))) ?_|refine CR (fK ω) ?_)
   all_goals exact yv (by unfold iv ch;rw[b,O0 c];show _=((a - 16*s.Page) / csz s.Class,(a - 16*s.Page) % csz s.Class);rw[show a - s.Page*16=a - 16*s.Page by omega])
  ·refine fO 38 [(4,12,[28,29,30,31,32,33,34,35,36,37,4,5])] Tryz.func182 rfl ?_ (.inr ⟨trivial,trivial,trivial⟩)
   repeat'(first|refine gD ?_|(conv=>whnf);first|with_reducible refine Bf.D (λg=>?_) (λg=>?_)|refine C6 d ?_|refine C6 (aM _ _ _) ?_)
   all_goals exact yv (by unfold iv ch;rw[b,Q0 c];rfl)
theorem oF(b i:Int):ao Tryz.prog 260 false [.val none [I b],.val none [I i]] .one [B (decide (0<=b/\0<=i/\i<=15))]:=by
 refine fO 11 [] Tryz.func260 rfl ?_
 repeat'(first|refine gO ?_|(conv=>whnf);first|with_reducible refine Bf.D (λa=>?_) (λa=>?_)|refine C6 (aG _ 0 15) ?_)
 all_goals exact T0 (λz=>[B z]) ((by first|(symm;exact Q0 ω)|exact decide_eq_decide.2 ω))
theorem yz(b i:Int):ao Tryz.prog 248 false [.val none [I b],.val none [I i]] .one [B (decide (0<=b/\0<=i/\i<=15))]:=by
 refine fO 11 [] Tryz.func248 rfl ?_
 repeat'(first|refine gO ?_|(conv=>whnf);first|with_reducible refine Bf.D (λa=>?_) (λa=>?_)|refine C6 (aM _ 0 15) ?_)
 all_goals exact T0 (λz=>[B z]) ((by first|(symm;exact Q0 ω)|exact decide_eq_decide.2 ω))
theorem JO{b i:Int}(a:0<=b/\b<=9223372036854775807)(e:0<=i/\i<=15):b.fdiv (2 ^ min i.toNat IntKind.i64.bits)=b / 2 ^ i.toNat/\0<=b / 2 ^ i.toNat/\b / 2 ^ i.toNat<=9223372036854775807:=by
 have d:min i.toNat IntKind.i64.bits=i.toNat:=Nat.min_eq_left (show i.toNat<=64 by omega);rw[d];have c:(0:Int)<=2 ^ i.toNat:=Int.pow_nonneg (by decide);refine⟨Int.fdiv_eq_ediv_of_nonneg _ c,Int.ediv_nonneg a.1 c,?_⟩;have:=Int.ediv_le_self (2 ^ i.toNat:Int) a.1;omega
theorem uH{b i:Int}(a:0<=b)(e:0<=i/\i<=15):((((b / 2 ^ i.toNat).toNat &&& (1:Int).toNat:Nat):Int) == 1)=aQ b i:=by
 have c:(0:Int)<=b / 2 ^ i.toNat:=Int.ediv_nonneg a (Int.pow_nonneg (by decide));have d:(b / 2 ^ i.toNat).toNat &&& (1:Int).toNat=(b / 2 ^ i.toNat).toNat % 2:=Nat.and_one_is_mod _;rw[d];unfold aQ;generalize b / 2 ^ i.toNat=q at c |-;rw[Y3,beq_iff_eq,C0];omega
theorem gl(b i:Int)(c:b<=9223372036854775807):ao Tryz.prog 192 false [.val none [I b],.val none [I i]] .one [B (aQ b i)]:=by
 by_cases h:0<=b/\0<=i/\i<=15
 ·obtain⟨d,g⟩:=JO (b:=b) (i:=i) ⟨h.1,c⟩ h.2
  have j:IntKind.u64.wrap i=i:=by unfold IntKind.wrap;simp[IntKind.signed,IntKind.bits];omega
  refine fO 16 [] Tryz.func192 rfl ?_
  repeat'(first|refine gD ?_|(conv=>whnf);first|with_reducible refine Bf.D (λa=>?_) (λa=>?_)|refine C6 (oF _ _) ?_|refine CL ω ?_|refine CJ j ?_|refine CR d ?_|refine CJ (and64 g ⟨by decide,by decide⟩) ?_)
  all_goals exact T0 (λz=>[B z]) ((uH h.1 h.2))
 ·refine fO 16 [] Tryz.func192 rfl ?_
  repeat'(first|refine gD ?_|(conv=>whnf);first|with_reducible refine Bf.D (λa=>?_) (λa=>?_)|refine C6 (oF _ _) ?_)
  all_goals exact T0 (λz=>[B z]) ((by unfold aQ;symm;exact Q0 λe=>h ⟨e.1,e.2.1,e.2.2.1⟩))
theorem lR(b i:Int)(c:b<=9223372036854775807):ao Tryz.prog 173 false [.val none [I b],.val none [I i]] .one [B (aQ b i)]:=by
 by_cases h:0<=b/\0<=i/\i<=15
 ·obtain⟨d,g⟩:=JO (b:=b) (i:=i) ⟨h.1,c⟩ h.2
  refine fO 15 [] Tryz.func173 rfl ?_
  repeat'(first|refine gD ?_|(conv=>whnf);first|with_reducible refine Bf.D (λa=>?_) (λa=>?_)|refine C6 (yz _ _) ?_|refine CL ω ?_|refine CR d ?_|refine CJ (and64 g ⟨by decide,by decide⟩) ?_)
  all_goals exact T0 (λz=>[B z]) ((uH h.1 h.2))
 ·refine fO 15 [] Tryz.func173 rfl ?_
  repeat'(first|refine gD ?_|(conv=>whnf);first|with_reducible refine Bf.D (λa=>?_) (λa=>?_)|refine C6 (yz _ _) ?_)
  all_goals exact T0 (λz=>[B z]) ((by unfold aQ;symm;exact Q0 λe=>h ⟨e.1,e.2.1,e.2.2.1⟩))
theorem bP{l:a8}(h:bO l=true):9<=l.Size/\l.Size<=1000/\0<=l.Page/\l.Page<=31:=by
 unfold bO at h;simp only[C0]at h;omega
theorem pp(l:a8)(a:Int):ao Tryz.prog 329 false [.val (some 3) (a8.enc .imm l),.val none [I a]] .one [B (bk l a)]:=by
 have c:=lS l;cases b:bO l<;>rw[b]at c
 ·refine fO 24 [] Tryz.func329 rfl ?_
  repeat'(first|refine gO ?_|(conv=>whnf);first|refine C6 c ?_)
  exact T0 (λz=>[B z]) ((by unfold bk;rw[b];rfl))
 ·have e:=bP b
  refine fO 24 [] Tryz.func329 rfl ?_
  repeat'(first|refine gO ?_|(conv=>whnf);first|with_reducible refine Bf.D (λd=>?_) (λd=>?_)|refine C6 c ?_)
  all_goals exact T0 (λz=>[B z]) ((by unfold bk;rw[b,Bool.true_and];first|(symm;exact Q0 ω)|exact decide_eq_decide.2 ω))
theorem oQ(l:a8)(a:Int):ao Tryz.prog 183 false [.val (some 3) (a8.enc .imm l),.val none [I a]] .one [B (bk l a)]:=by
 have c:=qY l;cases b:bO l<;>rw[b]at c
 ·refine fO 21 [] Tryz.func183 rfl ?_
  repeat'(first|refine gO ?_|(conv=>whnf);first|refine C6 c ?_)
  exact T0 (λz=>[B z]) ((by unfold bk;rw[b];rfl))
 ·have e:=bP b
  refine fO 21 [] Tryz.func183 rfl ?_
  repeat'(first|refine gO ?_|(conv=>whnf);first|with_reducible refine Bf.D (λd=>?_) (λd=>?_)|refine C6 c ?_|refine C6 (aM _ _ _) ?_)
  all_goals exact T0 (λz=>[B z]) ((by unfold bk;rw[b,Bool.true_and];exact decide_eq_decide.2 ω))
theorem sJ(l:a8)(a:Int)(h:bk l a=true):ao Tryz.prog 330 false [.val (some 3) (a8.enc .imm l),.val none [I a]] .one [I (a - 16*l.Page)]:=by
 have b:=pp l a;rw[h]at b;unfold bk at h;simp only[I0,C0]at h;have c:=bP h.1;refine fO 14 [] Tryz.func330 rfl ?_
 repeat'(first|refine gO ?_|(conv=>whnf);first|refine C6 b ?_)
 exact T0 (λz=>[I z]) ω
theorem rZ(l:a8)(a:Int)(h:bk l a=true):ao Tryz.prog 184 false [.val (some 3) (a8.enc .imm l),.val none [I a]] .one [I (a - 16*l.Page)]:=by
 have b:=oQ l a;rw[h]at b;unfold bk at h;simp only[I0,C0]at h;have c:=bP h.1;refine fO 14 [] Tryz.func184 rfl ?_
 repeat'(first|refine gO ?_|(conv=>whnf);first|refine C6 b ?_)
 exact T0 (λz=>[I z]) ω
theorem o8{m:aK}{i:Nat}(a:i<m.Buffers.length)(h:fZ m i=false):bA m=false:=by
 unfold bA;rw[ca a h];simp
theorem vD{m:aK}(h:¬(1<=m.Buffers.length/\m.Buffers.length<=4/\m.Inbox.length=m.Buffers.length)):bA m=false:=by
 unfold bA;rw[Q0 h];rfl
theorem vO{m:aK}(h1:1<=m.Buffers.length/\m.Buffers.length<=4/\m.Inbox.length=m.Buffers.length)(a:cw m.Buffers.length (fZ m)=true):bA m=decide (bq m m.Buffers.length<=30):=by
 unfold bA;rw[O0 h1,a];rfl
theorem ky(m:aK)(h:aK.sml m):ao Tryz.prog 206 false [.val (some 2) (aK.enc .imm m)] .one [B (bA m)]:=by
 have u:m.Buffers.length<=1048576:=h.1.1;have w:m.Inbox.length<=1048576:=h.2.1;by_cases n:1<=m.Buffers.length/\m.Buffers.length<=4/\m.Inbox.length=m.Buffers.length
 ·refine fO 92 [(19,15,[75,76,77,78,79,80,81,82,83,84,85,86,87,88,89])] Tryz.func206 rfl ?_
  repeat'(first|refine gA ?_|(conv=>whnf);first|with_reducible (first|refine Bf.D (λa=>?_) (λa=>?_)|refine Bf.N (λa=>?_) (λa=>?_))|refine C6 (aG _ 1 4) ?_)
  (conv=>whnf)
  refine CD (ι:=Nat) (λi=>[(1,.hold .box (aK.enc .imm m)),(3,.hold .one [I (m.Buffers.length)]),(4,.hold .one [I (bq m i)]),(5,.hold .one [I ((i:Nat):Int)])]) (λi=>i<=m.Buffers.length/\cw i (fZ m)=true/\0<=bq m i/\bq m i<=2097152*i) (λi=>m.Buffers.length - i) (0) ?_ (⟨R0 _,rfl,by simp[bq],by simp[bq]⟩) λi o=>?_
  ·exact wB
  obtain⟨o,p,G,H⟩:=o;by_cases j:i<m.Buffers.length
  ·have l:=ah j
   have q:=ah (xs:=m.Inbox) (i:=i) ω;have y:(nth m.Buffers i).length<=1048576:=(h.1.2 _ (am j)).1;have C:(nth m.Inbox i).length<=1048576:=h.2.2 _ (am ω)
   repeat'(first|refine gD ?_|fail)
   (conv=>whnf)
   refine CD (ι:=Nat) (λk=>[(1,.hold .box (aK.enc .imm m)),(3,.hold .one [I (m.Buffers.length)]),(4,.hold .one [I (bq m i)]),(5,.hold .one [I ((i:Nat):Int)]),(6,.hold .one [I ((k:Nat):Int)])]) (λk=>k<=(nth m.Buffers i).length/\((nth m.Buffers i).take k).all (mF m.Buffers.length)=true) (λk=>(nth m.Buffers i).length - k) (0) ?_ (⟨R0 _,rfl⟩) λk r=>?_
   ·exact wB
   obtain⟨r,t⟩:=r;by_cases E:k<(nth m.Buffers i).length
   ·have c:=ah E
    repeat'(first|refine gD ?_|(conv=>whnf);first|with_reducible (first|refine CA (aa l) ?_|refine CA (aa c) ?_|refine Bf.D (λa=>?_) (λa=>?_))|refine C6 (aG _ 0 _) ?_)
    all_goals first
     | exact T0 (λz=>[B z]) ((o8 j (by unfold fZ;rw[ec c (by unfold mF;exact Q0 ω)];rfl)).symm)
     | ((conv=>whnf);refine CB (k+1) ⟨ω,cy c t (by unfold mF;exact O0 ω)⟩ ω ?_;(exact wB))
   ·have F:=gc ω t
    repeat'(first|refine gD ?_|(conv=>whnf);first|with_reducible refine CA (aa l) ?_)
    (conv=>whnf)
    refine CD (ι:=Nat) (λb=>[(1,.hold .box (aK.enc .imm m)),(3,.hold .one [I (m.Buffers.length)]),(4,.hold .one [I (bq m i)]),(5,.hold .one [I ((i:Nat):Int)]),(8,.hold .one [I ((b:Nat):Int)])]) (λb=>b<=(nth m.Inbox i).length/\((nth m.Inbox i).take b).all MD=true) (λb=>(nth m.Inbox i).length - b) (0) ?_ (⟨R0 _,rfl⟩) λb e=>?_
    ·exact wB
    obtain⟨e,ak2⟩:=e;by_cases lk2:b<(nth m.Inbox i).length
    ·have c:=ah lk2
     repeat'(first|refine gD ?_|(conv=>whnf);first|with_reducible (first|refine CA (aa q) ?_|refine CA (aa c) ?_|refine Bf.D (λa=>?_) (λa=>?_)))
     all_goals first
      | exact T0 (λz=>[B z]) ((o8 j (by unfold fZ;rw[ec c (by unfold MD;exact Q0 ω)];simp)).symm)
      | ((conv=>whnf);refine CB (b+1) ⟨ω,cy c ak2 (by unfold MD;exact O0 ω)⟩ ω ?_;(exact wB))
    ·have ae2:=gc ω ak2
     have g:bq m (i+1)=bq m i+((nth m.Buffers i).length+(nth m.Inbox i).length):=rfl;have d:bq m (i+1)=bq m i+(nth m.Buffers i).length+(nth m.Inbox i).length:=by rw[g];omega
     repeat'(first|refine gD ?_|(conv=>whnf);first|with_reducible (first|refine CA (aa l) ?_|refine CA (aa q) ?_))
     ((conv=>whnf);refine CB (i+1) ⟨ω,bE p (by unfold fZ;rw[F,ae2];rfl),ω,ω⟩ ω ?_)
     rw[d];exact wB
  ·obtain rfl:i=m.Buffers.length:=ω
   repeat'(first|refine gD ?_|fail)
   exact T0 (λz=>[B z]) ((vO n p).symm)
 ·refine fO 92 [(19,15,[75,76,77,78,79,80,81,82,83,84,85,86,87,88,89])] Tryz.func206 rfl ?_
  repeat'(first|refine gO ?_|(conv=>whnf);first|with_reducible (first|refine Bf.D (λa=>?_) (λa=>?_)|refine Bf.N (λa=>?_) (λa=>?_))|refine C6 (aG _ 1 4) ?_)
  all_goals first
   | exact T0 (λz=>[B z]) ((vD n).symm)
   |(exfalso;omega)
theorem tn(m:aK)(g:aK.sml m):ao Tryz.prog 70 false [.val (some 2) (aK.enc .imm m)] .one [B (bA m)]:=by
 have t:m.Buffers.length<=1048576:=g.1.1;have u:m.Inbox.length<=1048576:=g.2.1;by_cases n:1<=m.Buffers.length/\m.Buffers.length<=4/\m.Inbox.length=m.Buffers.length
 ·refine fO 82 [(20,15,[64,65,66,67,68,69,70,71,72,73,74,75,76,77,78])] Tryz.func70 rfl ?_
  repeat'(first|refine gA ?_|(conv=>whnf);first|with_reducible (first|refine Bf.D (λa=>?_) (λa=>?_)|refine Bf.N (λa=>?_) (λa=>?_))|refine C6 (aM _ 1 4) ?_)
  (conv=>whnf)
  refine CD (ι:=Nat) (λi=>[(1,.hold .box (aK.enc .imm m)),(3,.hold .one [I (m.Buffers.length)]),(4,.hold .one [I (bq m i)]),(25,.hold .one [I (m.Buffers.length)]),(26,.hold .one [I ((i:Nat):Int)])]) (λi=>i<=m.Buffers.length/\cw i (fZ m)=true/\0<=bq m i/\bq m i<=2097152*i) (λi=>m.Buffers.length - i) (0) ?_ (⟨R0 _,rfl,by simp[bq],by simp[bq]⟩) λi o=>?_
  ·exact wB
  obtain⟨o,p,F,G⟩:=o;by_cases h:i<m.Buffers.length
  ·have j:=ah h
   have l:=ah (xs:=m.Inbox) (i:=i) ω;have w:(nth m.Buffers i).length<=1048576:=(g.1.2 _ (am h)).1;have y:(nth m.Inbox i).length<=1048576:=g.2.2 _ (am ω)
   repeat'(first|refine gD ?_|(conv=>whnf);first|with_reducible refine CA (aa j) ?_)
   (conv=>whnf)
   refine CD (ι:=Nat) (λk=>[(1,.hold .box (aK.enc .imm m)),(3,.hold .one [I (m.Buffers.length)]),(4,.hold .one [I (bq m i)]),(5,.hold .one [I ((i:Nat):Int)]),(25,.hold .one [I (m.Buffers.length)]),(26,.hold .one [I ((i:Nat):Int)]),(33,.hold .one (cZ .imm (nth m.Buffers i))),(34,.hold .one [I ((nth m.Buffers i).length)]),(35,.hold .one [I ((k:Nat):Int)])]) (λk=>k<=(nth m.Buffers i).length/\((nth m.Buffers i).take k).all (mF m.Buffers.length)=true) (λk=>(nth m.Buffers i).length - k) (0) ?_ (⟨R0 _,rfl⟩) λk q=>?_
   ·exact wB
   obtain⟨q,r⟩:=q;by_cases C:k<(nth m.Buffers i).length
   ·have c:=ah C
    repeat'(first|refine gD ?_|(conv=>whnf);first|with_reducible (first|refine CA (aa j) ?_|refine CA (aa c) ?_|refine Bf.D (λa=>?_) (λa=>?_))|refine C6 (aM _ 0 _) ?_)
    all_goals first
     | exact T0 (λz=>[B z]) ((o8 h (by unfold fZ;rw[ec c (by unfold mF;exact Q0 ω)];rfl)).symm)
     | ((conv=>whnf);refine CB (k+1) ⟨ω,cy c r (by unfold mF;exact O0 ω)⟩ ω ?_;(exact wB))
   ·have E:=gc ω r
    repeat'(first|refine gD ?_|(conv=>whnf);first|with_reducible (first|refine CA (aa j) ?_|refine CA (aa l) ?_))
    (conv=>whnf)
    refine CD (ι:=Nat) (λb=>[(1,.hold .box (aK.enc .imm m)),(3,.hold .one [I (m.Buffers.length)]),(4,.hold .one [I (bq m i)]),(5,.hold .one [I ((i:Nat):Int)]),(25,.hold .one [I (m.Buffers.length)]),(26,.hold .one [I ((i:Nat):Int)]),(55,.hold .one (aF .imm (nth m.Inbox i))),(56,.hold .one [I ((nth m.Inbox i).length)]),(57,.hold .one [I ((b:Nat):Int)])]) (λb=>b<=(nth m.Inbox i).length/\((nth m.Inbox i).take b).all MD=true) (λb=>(nth m.Inbox i).length - b) (0) ?_ (⟨R0 _,rfl⟩) λb d=>?_
    ·exact wB
    obtain⟨d,ak2⟩:=d;by_cases lk2:b<(nth m.Inbox i).length
    ·have c:=ah lk2
     repeat'(first|refine gD ?_|(conv=>whnf);first|with_reducible (first|refine CA (aa l) ?_|refine CA (aa c) ?_|refine Bf.D (λa=>?_) (λa=>?_)))
     all_goals first
      | exact T0 (λz=>[B z]) ((o8 h (by unfold fZ;rw[ec c (by unfold MD;exact Q0 ω)];simp)).symm)
      | ((conv=>whnf);refine CB (b+1) ⟨ω,cy c ak2 (by unfold MD;exact O0 ω)⟩ ω ?_;(exact wB))
    ·have ae2:=gc ω ak2
     have e:bq m (i+1)=bq m i+((nth m.Buffers i).length+(nth m.Inbox i).length):=rfl
     repeat'(first|refine gD ?_|(conv=>whnf);first|with_reducible (first|refine CA (aa j) ?_|refine CA (aa l) ?_))
     ((conv=>whnf);refine CB (i+1) ⟨ω,bE p (by unfold fZ;rw[E,ae2];rfl),ω,ω⟩ ω ?_)
     rw[e];exact wB
  ·obtain rfl:i=m.Buffers.length:=ω
   repeat'(first|refine gD ?_|fail)
   exact T0 (λz=>[B z]) ((vO n p).symm)
 ·refine fO 82 [(20,15,[64,65,66,67,68,69,70,71,72,73,74,75,76,77,78])] Tryz.func70 rfl ?_
  repeat'(first|refine gO ?_|(conv=>whnf);first|with_reducible (first|refine Bf.D (λa=>?_) (λa=>?_)|refine Bf.N (λa=>?_) (λa=>?_))|refine C6 (aM _ 1 4) ?_)
  all_goals first
   | exact T0 (λz=>[B z]) ((vD n).symm)
   |(exfalso;omega)
theorem xM{s:au}{a:Int}(h:ch s a=false):S2 (iv s a)=[I (-1),I (-1)]:=by
 unfold iv;rw[h];rfl
theorem wc{s:au}{a:Int}(h:ch s a=true):S2 (iv s a)=[I ((a - 16*s.Page) / csz s.Class),I ((a - 16*s.Page) % csz s.Class)]:=by
 unfold iv;rw[h];rfl
theorem qI{s:au}{a:Int}(h:ch s a=true):aY s=true/\0<=(a - 16*s.Page) / csz s.Class/\(a - 16*s.Page) / csz s.Class<=15:=by
 unfold ch at h;simp only[I0,C0]at h;have b:=aD h.1;refine⟨h.1,?_⟩;rcases bM ⟨b.2.2.1,b.2.2.2⟩ with e|e|e|e<;>rw[e]<;>omega
theorem mA{sp:List au}{la:List a8}{a:Int}{i:Nat}(b:i<sp.length)(h:ch (nth sp i) a=true)(c:∀(j:Nat)(z:au),j<i->sp[j]? = some z->ch z a=false):denotes sp la a=mX i (nth sp i) a:=by
 unfold denotes;rw[un (pr:=(ch · a)) (ah b) h c]
theorem lr{sp:List au}{la:List a8}{a:Int}{i n:Nat}(b:sp.length<=n)(c:∀(j:Nat)(z:au),j<n->sp[j]? = some z->ch z a=false)(d:i<la.length)(h:bk (nth la i) a=true)(e:∀(j:Nat)(z:a8),j<i->la[j]? = some z->bk z a=false) :
  denotes sp la a = ⟨3,i,0,a - 16*(nth la i).Page⟩:=by
 unfold denotes;rw[vk (pr:=(ch · a)) b c,un (pr:=(bk · a)) (ah d) h e]
theorem vM{sp:List au}{la:List a8}{a:Int}{n k:Nat}(b:sp.length<=n)(c:∀(j:Nat)(z:au),j<n->sp[j]? = some z->ch z a=false)(d:la.length<=k)(e:∀(j:Nat)(z:a8),j<k->la[j]? = some z->bk z a=false):denotes sp la a = ⟨0,0,0,0⟩:=by
 unfold denotes;rw[vk (pr:=(ch · a)) b c,vk (pr:=(bk · a)) d e]
theorem lY(sp:List au)(la:List a8)(a:Int)(e:du sp)(g:dr la)(h:bf sp la=true)(C:lQ a):ao Tryz.prog 275 false [.val none (cg .imm sp),.val none (bS .imm la),.val none [I a]] .agg (iF.enc .own (denotes sp la a)):=by
 have E:=e.1;have F:=g.1;have q:=kN sp la e g;rw[h]at q;refine fO 67 [] Tryz.func275 rfl ?_ (.inr (iF.enc_fr _))
 repeat'(first|refine gO ?_|(conv=>whnf);first|refine C6 q ?_)
 (conv=>whnf)
 refine CD (ι:=Nat) (λi=>[(0,.hold .one (cg .imm sp)),(1,.hold .one (bS .imm la)),(2,.hold .one [I (a)]),(6,.hold .box ([I 0,I 0,I 0,I 0])),(7,.hold .one [I ((i:Nat):Int)])]) (λi=>i<=sp.length/\∀(j:Nat)(z:au),j<i->sp[j]? = some z->ch z a=false) (λi=>sp.length - i) (0) ?_ (⟨R0 _,λj z G=>ω⟩) λi r=>?_
 ·exact wB
 obtain⟨r,l⟩:=r;by_cases t:i<sp.length
 ·have d:=ah t
  have c:=tj (nth sp i) a C;cases b:ch (nth sp i) a with
  | false=>
   rw[xM b]at c
   repeat'(first|refine gD ?_|(conv=>whnf);first|with_reducible (first|refine CA (aa d) ?_|refine Bf.D (λo=>?_) (λo=>?_))|refine C6 c ?_)
   ((conv=>whnf);refine CB (i+1) ⟨ω,cX (pr:=(ch · a)) d b l⟩ ω ?_;(exact wB))
  | true=>
   rw[wc b]at c;obtain⟨H,J,K⟩:=qI b;have u:=gl (nth sp i).Bits ((a - 16*(nth sp i).Page) / csz (nth sp i).Class) (dM H).2;cases w:aQ (nth sp i).Bits ((a - 16*(nth sp i).Page) / csz (nth sp i).Class)<;>rw[w]at u
   all_goals
    repeat'(first|refine gD ?_|(conv=>whnf);first|with_reducible (first|refine CA (aa d) ?_|refine Bf.D (λo=>?_) (λo=>?_))|refine C6 c ?_|refine C6 u ?_)
    all_goals(rw[mA t b l];unfold mX;rw[w];rfl)
 ·repeat'(first|refine gD ?_|fail)
  (conv=>whnf)
  refine CD (ι:=Nat) (λk=>[(1,.hold .one (bS .imm la)),(2,.hold .one [I (a)]),(6,.hold .box ([I 0,I 0,I 0,I 0])),(11,.hold .one [I ((k:Nat):Int)])]) (λk=>k<=la.length/\∀(j:Nat)(z:a8),j<k->la[j]? = some z->bk z a=false) (λk=>la.length - k) (0) ?_ (⟨R0 _,λj z G=>ω⟩) λk y=>?_
  ·exact wB
  obtain⟨y,p⟩:=y;by_cases B:k<la.length
  ·have d:=ah B
   have c:=pp (nth la k) a;cases b:bk (nth la k) a<;>rw[b]at c
   ·repeat'(first|refine gD ?_|(conv=>whnf);first|with_reducible refine CA (aa d) ?_|refine C6 c ?_)
    ((conv=>whnf);refine CB (k+1) ⟨ω,cX (pr:=(bk · a)) d b p⟩ ω ?_;(exact wB))
   ·repeat'(first|refine gD ?_|(conv=>whnf);first|with_reducible refine CA (aa d) ?_|refine C6 c ?_|refine C6 (sJ (nth la k) a b) ?_)
    rw[lr (n:=i) ω l B b p];rfl
  ·repeat'(first|refine gD ?_|fail)
   rw[vM (n:=i) (k:=k) ω l ω p];rfl
theorem mb(sp:List au)(la:List a8)(a:Int)(g:du sp)(h:dr la):ao Tryz.prog 91 false [.val none (cg .imm sp),.val none (bS .imm la),.val none [I a]] .agg (iF.enc .own (denotes sp la a)):=by
 have y:=g.1;have B:=h.1;refine fO 56 [] Tryz.func91 rfl ?_ (.inr (iF.enc_fr _))
 repeat'(first|refine gO ?_|fail)
 (conv=>whnf)
 refine CD (ι:=Nat) (λi=>[(1,.hold .one (bS .imm la)),(2,.hold .one [I (a)]),(6,.hold .box ([I 0,I 0,I 0,I 0])),(14,.hold .one (cg .imm sp)),(15,.hold .one [I (sp.length)]),(16,.hold .one [I ((i:Nat):Int)])]) (λi=>i<=sp.length/\∀(j:Nat)(z:au),j<i->sp[j]? = some z->ch z a=false) (λi=>sp.length - i) (0) ?_ (⟨R0 _,λj z C=>ω⟩) λi p=>?_
 ·exact wB
 obtain⟨p,e⟩:=p;by_cases q:i<sp.length
 ·have d:=ah q
  have c:=AB (nth sp i) a;cases b:ch (nth sp i) a with
  | false=>
   rw[xM b]at c
   repeat'(first|refine gD ?_|(conv=>whnf);first|with_reducible (first|refine CA (aa d) ?_|refine Bf.D (λl=>?_) (λl=>?_))|refine C6 c ?_)
   ((conv=>whnf);refine CB (i+1) ⟨ω,cX (pr:=(ch · a)) d b e⟩ ω ?_;(exact wB))
  | true=>
   rw[wc b]at c;obtain⟨E,F,G⟩:=qI b;have r:=lR (nth sp i).Bits ((a - 16*(nth sp i).Page) / csz (nth sp i).Class) (dM E).2;cases t:aQ (nth sp i).Bits ((a - 16*(nth sp i).Page) / csz (nth sp i).Class)<;>rw[t]at r
   all_goals
    repeat'(first|refine gD ?_|(conv=>whnf);first|with_reducible (first|refine CA (aa d) ?_|refine Bf.D (λl=>?_) (λl=>?_))|refine C6 c ?_|refine C6 r ?_)
    all_goals(rw[mA q b e];unfold mX;rw[t];rfl)
 ·repeat'(first|refine gD ?_|fail)
  (conv=>whnf)
  refine CD (ι:=Nat) (λk=>[(2,.hold .one [I (a)]),(6,.hold .box ([I 0,I 0,I 0,I 0])),(39,.hold .one (bS .imm la)),(40,.hold .one [I (la.length)]),(41,.hold .one [I ((k:Nat):Int)])]) (λk=>k<=la.length/\∀(j:Nat)(z:a8),j<k->la[j]? = some z->bk z a=false) (λk=>la.length - k) (0) ?_ (⟨R0 _,λj z C=>ω⟩) λk u=>?_
  ·exact wB
  obtain⟨u,o⟩:=u;by_cases w:k<la.length
  ·have d:=ah w
   have c:=oQ (nth la k) a;cases b:bk (nth la k) a<;>rw[b]at c
   ·repeat'(first|refine gD ?_|(conv=>whnf);first|with_reducible refine CA (aa d) ?_|refine C6 c ?_)
    ((conv=>whnf);refine CB (k+1) ⟨ω,cX (pr:=(bk · a)) d b o⟩ ω ?_;(exact wB))
   ·repeat'(first|refine gD ?_|(conv=>whnf);first|with_reducible refine CA (aa d) ?_|refine C6 c ?_|refine C6 (rZ (nth la k) a b) ?_)
    rw[lr (n:=i) ω e w b o];rfl
  ·repeat'(first|refine gD ?_|fail)
   rw[vM (n:=i) (k:=k) ω e ω o];rfl
section
variable{α:Type}
def rx(ag:Option Nat)(e:α->List C)(pr:α->Bool)(xs:List α):List (Option Nat × List C)->Kd->List C->Prop:=λL k rcs=>∃x,x∈xs/\L=[(ag,e x)]/\k=.one/\rcs=[B (pr x)]
end
theorem tB(xs:List a7)(pr:a7->Bool)(n:xs.length<=9223372036854775807):ao Tryz.prog 311 false [.val none (bB .imm xs),.fn (lg Tryz.prog (rx (some 2) (a7.enc .imm) pr xs))] .one [I (df pr xs)]:=by
 refine fO 19 [] Tryz.func311 rfl ?_
 repeat'(first|refine gO ?_|fail)
 (conv=>whnf)
 refine CD (ι:=Nat) (λi=>[(0,.hold .one (bB .imm xs)),(1,.fv (lg Tryz.prog (rx (some 2) (a7.enc .imm) pr xs))),(7,.hold .one [I xs.length]),(8,.hold .one [I (i:Nat)])]) (λi=>i<=xs.length/\∀(j:Nat)(z:a7),j<i->xs[j]? = some z->pr z=false) (λi=>xs.length - i) 0 ?_ ⟨R0 _,λj z h=>ω⟩ λi e=>?_
 ·exact wB
 ·obtain⟨e,b⟩:=e
  by_cases c:i<xs.length
  ·obtain⟨y,a⟩ : ∃y,xs[i]? = some y:=⟨_,U1 c⟩
   repeat'(first|refine gD ?_|(conv=>whnf);first|with_reducible refine CA (aa a) ?_|refine Fv.mk (k:=.one) (rcs:=[B (pr y)]) ⟨y,Q1 a,rfl,rfl,rfl⟩ ?_|refine Bf.P (λl=>?_) (λl=>?_))
   ·exact T0 (λz=>[I z]) (d2 a ‹_› b).symm
   ·(conv=>whnf)
    refine CB (i+1) ⟨ω,λj z h d=>?_⟩ ω ?_
    ·rcases Nat.lt_or_ge j i with g|g
     ·exact b j z g d
     ·obtain rfl:j=i:=ω
      rw[a]at d;cases d;assumption
    ·exact wB
  ·repeat'(first|refine gD ?_|fail)
   exact T0 (λz=>[I z]) (eB ω b).symm
theorem pU(xs:List a7)(pr:a7->Bool)(a:xs.length<=9223372036854775807):ao Tryz.prog 245 false [.val none (bB .imm xs),.fn (lg Tryz.prog (rx (some 2) (a7.enc .imm) pr xs))] .one [B (xs.any pr)]:=by
 refine fO 9 [] Tryz.func245 rfl ?_
 repeat'(first|refine gO ?_|(conv=>whnf);first|refine C6 (tB xs pr a) ?_)
 exact T0 (λz=>[B z]) (fY pr xs)
theorem tf(r:a7)(page:Int):ao Tryz.prog 246 false [.val (some 2) (a7.enc .imm r),.ptr [I page]] .one [B (pP page r)]:=by
 refine fO 17 [] Tryz.func246 rfl ?_
 repeat'(first|refine gO ?_|(conv=>whnf);first|with_reducible refine Bf.D (λa=>?_) (λa=>?_)|refine CJ rfl ?_)
 all_goals exact T0 (λz=>[B z]) (by unfold pP;first|(rw[O0 (by assumption:r.At<=page)];simp;done)|(rw[Q0 (by assumption:¬r.At<=page)];rfl))
theorem x4(xs:List a7)(page:Int)(a:xs.length<=9223372036854775807):ao Tryz.prog 164 false [.val none (bB .imm xs),.val none [I page]] .one [B (xs.any (pP page))]:=by
 refine fO 8 [] Tryz.func164 rfl ?_
 repeat'(first|refine gO ?_|(conv=>whnf);first|refine Cq.mk (rx (some 2) (a7.enc .imm) (pP page) xs) (tf default page).has (λL k rcs b=>?_) ?_|refine C6 (pU xs (pP page) a) ?_)
 ·obtain⟨x,-,rfl,rfl,rfl⟩:=b
  exact tf x page
 ·rfl
theorem tS(xs:List aL)(pr:aL->Bool)(g:xs.length<=9223372036854775807):ao Tryz.prog 323 false [.val none (cE .imm xs),.fn (lg Tryz.prog (rx (some 3) (aL.enc .imm) pr xs))] .one [I (df pr xs)]:=by
 refine fO 19 [] Tryz.func323 rfl ?_
 repeat'(first|refine gO ?_|fail)
 (conv=>whnf)
 refine CD (ι:=Nat) (λi=>[(0,.hold .one (cE .imm xs)),(1,.fv (lg Tryz.prog (rx (some 3) (aL.enc .imm) pr xs))),(7,.hold .one [I xs.length]),(8,.hold .one [I (i:Nat)])]) (λi=>i<=xs.length/\∀(j:Nat)(z:aL),j<i->xs[j]? = some z->pr z=false) (λi=>xs.length - i) 0 ?_ ⟨R0 _,λj z h=>ω⟩ λi d=>?_
 ·exact wB
 ·obtain⟨d,b⟩:=d
  by_cases c:i<xs.length
  ·obtain⟨y,a⟩ : ∃y,xs[i]? = some y:=⟨_,U1 c⟩
   repeat'(first|refine gD ?_|(conv=>whnf);first|with_reducible refine CA (aa a) ?_|refine Fv.mk (k:=.one) (rcs:=[B (pr y)]) ⟨y,Q1 a,rfl,rfl,rfl⟩ ?_|refine Bf.P (λe=>?_) (λe=>?_))
   ·exact T0 (λz=>[I z]) (d2 a ‹_› b).symm
   ·(conv=>whnf)
    refine CB (i+1) ⟨ω,cX a (by assumption) b⟩ ω ?_;exact wB
  ·repeat'(first|refine gD ?_|fail)
   exact T0 (λz=>[I z]) (eB ω b).symm
theorem pK(xs:List aL)(pr:aL->Bool)(a:xs.length<=9223372036854775807):ao Tryz.prog 252 false [.val none (cE .imm xs),.fn (lg Tryz.prog (rx (some 3) (aL.enc .imm) pr xs))] .one [B (xs.any pr)]:=by
 refine fO 9 [] Tryz.func252 rfl ?_
 repeat'(first|refine gO ?_|(conv=>whnf);first|refine C6 (tS xs pr a) ?_)
 exact T0 (λz=>[B z]) (fY pr xs)
theorem vz(xs:List au)(pr:au->Bool)(g:xs.length<=9223372036854775807):ao Tryz.prog 99 false [.val none (cg .imm xs),.fn (lg Tryz.prog (rx (some 3) (au.enc .imm) pr xs))] .one [I (df pr xs)]:=by
 refine fO 19 [] Tryz.func99 rfl ?_
 repeat'(first|refine gO ?_|fail)
 (conv=>whnf)
 refine CD (ι:=Nat) (λi=>[(0,.hold .one (cg .imm xs)),(1,.fv (lg Tryz.prog (rx (some 3) (au.enc .imm) pr xs))),(7,.hold .one [I xs.length]),(8,.hold .one [I (i:Nat)])]) (λi=>i<=xs.length/\∀(j:Nat)(z:au),j<i->xs[j]? = some z->pr z=false) (λi=>xs.length - i) 0 ?_ ⟨R0 _,λj z h=>ω⟩ λi d=>?_
 ·exact wB
 ·obtain⟨d,b⟩:=d
  by_cases c:i<xs.length
  ·obtain⟨y,a⟩ : ∃y,xs[i]? = some y:=⟨_,U1 c⟩
   repeat'(first|refine gD ?_|(conv=>whnf);first|with_reducible refine CA (aa a) ?_|refine Fv.mk (k:=.one) (rcs:=[B (pr y)]) ⟨y,Q1 a,rfl,rfl,rfl⟩ ?_|refine Bf.P (λe=>?_) (λe=>?_))
   ·exact T0 (λz=>[I z]) (d2 a ‹_› b).symm
   ·(conv=>whnf)
    refine CB (i+1) ⟨ω,cX a (by assumption) b⟩ ω ?_;exact wB
  ·repeat'(first|refine gD ?_|fail)
   exact T0 (λz=>[I z]) (eB ω b).symm
theorem oS(xs:List bx)(pr:bx->Bool)(g:xs.length<=9223372036854775807):ao Tryz.prog 101 false [.val none (lv .imm xs),.fn (lg Tryz.prog (rx (some 4) (bx.enc .imm) pr xs))] .one [I (df pr xs)]:=by
 refine fO 19 [] Tryz.func101 rfl ?_
 repeat'(first|refine gO ?_|fail)
 (conv=>whnf)
 refine CD (ι:=Nat) (λi=>[(0,.hold .one (lv .imm xs)),(1,.fv (lg Tryz.prog (rx (some 4) (bx.enc .imm) pr xs))),(7,.hold .one [I xs.length]),(8,.hold .one [I (i:Nat)])]) (λi=>i<=xs.length/\∀(j:Nat)(z:bx),j<i->xs[j]? = some z->pr z=false) (λi=>xs.length - i) 0 ?_ ⟨R0 _,λj z h=>ω⟩ λi d=>?_
 ·exact wB
 ·obtain⟨d,b⟩:=d
  by_cases c:i<xs.length
  ·obtain⟨y,a⟩ : ∃y,xs[i]? = some y:=⟨_,U1 c⟩
   repeat'(first|refine gD ?_|(conv=>whnf);first|with_reducible refine CA (aa a) ?_|refine Fv.mk (k:=.one) (rcs:=[B (pr y)]) ⟨y,Q1 a,rfl,rfl,rfl⟩ ?_|refine Bf.P (λe=>?_) (λe=>?_))
   ·exact T0 (λz=>[I z]) (d2 a ‹_› b).symm
   ·(conv=>whnf)
    refine CB (i+1) ⟨ω,cX a (by assumption) b⟩ ω ?_;exact wB
  ·repeat'(first|refine gD ?_|fail)
   exact T0 (λz=>[I z]) (eB ω b).symm
theorem rN(xs:List bx)(pr:bx->Bool)(a:xs.length<=9223372036854775807):ao Tryz.prog 168 false [.val none (lv .imm xs),.fn (lg Tryz.prog (rx (some 4) (bx.enc .imm) pr xs))] .one [B (xs.any pr)]:=by
 refine fO 9 [] Tryz.func168 rfl ?_
 repeat'(first|refine gO ?_|(conv=>whnf);first|refine C6 (oS xs pr a) ?_)
 exact T0 (λz=>[B z]) (fY pr xs)
theorem ML{k:Nat}(a:k<=3):IntKind.i64.wrap (1*2 ^ min ((k:Nat):Int).toNat IntKind.i64.bits)=csz (k:Nat):=by
 obtain rfl|rfl|rfl|rfl:k=0\/k=1\/k=2\/k=3:=ω
 all_goals decide
theorem LQ{k:Nat}(a:k<=100):IntKind.u64.wrap (k:Nat)=(k:Nat):=by
 unfold IntKind.wrap;simp[IntKind.signed,IntKind.bits];omega
theorem zQ{k:Nat}{z:Int}(a:k<=3)(h:csz (k:Nat)<z)(b:z<=8):k<=2:=by
 have c:csz ((3:Nat):Int)=8:=by decide
 obtain rfl|rfl|rfl|rfl:k=0\/k=1\/k=2\/k=3:=ω
 all_goals omega
theorem v6{k:Nat}{z:Int}(g:k<=3)(h1:1<=z)(a:k=0\/csz ((k - 1:Nat):Int)<z)(b:¬csz (k:Nat)<z):aI z=(k:Nat):=by
 have c:csz ((0:Nat):Int)=1:=by decide
 have d:csz ((1:Nat):Int)=2:=by decide
 have e:csz ((2:Nat):Int)=4:=by decide
 have f:csz ((3:Nat):Int)=8:=by decide
 unfold aI;obtain rfl|rfl|rfl|rfl:k=0\/k=1\/k=2\/k=3:=ω
 all_goals simp only[Nat.reduceSub,c,d,e,f]at a b
 all_goals(repeat' split)<;>omega
theorem jD(z:Int):ao Tryz.prog 233 false [.val none [I z]] .one [I (aI z)]:=by
 refine fO 15 [] Tryz.func233 rfl ?_;by_cases c:1<=z/\z<=8
 ·repeat'(first|refine gD ?_|(conv=>whnf);first|with_reducible refine Bf.D (λb=>?_) (λb=>?_)|refine C6 (aG z 1 8) ?_)
  (conv=>whnf)
  refine CD (ι:=Nat) (λk=>[(0,.hold .one [I (z)]),(3,.hold .one [I ((k:Nat):Int)])]) (λk=>k<=3/\(k=0\/csz ((k - 1:Nat):Int)<z)) (λk=>4 - k) (0) ?_ (⟨ω,.inl rfl⟩) λk a=>?_
  ·exact wB
  obtain⟨a,d⟩:=a
  repeat'(first|refine gO ?_|(conv=>whnf);first|with_reducible refine Bf.D (λb=>?_) (λb=>?_)|refine CJ (LQ ω) ?_|refine CJ (ML a) ?_|refine CL ω ?_)
  all_goals first
   | exact T0 (λz=>[I z]) (v6 a c.1 d (by assumption)).symm
   | ((conv=>whnf);refine CB (k+1) ⟨by have:=zQ a (by assumption) c.2;omega,.inr (by simpa using (by assumption:csz (k:Nat)<z))⟩ (by have:=zQ a (by assumption) c.2;omega) ?_;(exact wB))
 ·repeat'(first|refine gD ?_|(conv=>whnf);first|with_reducible refine Bf.D (λb=>?_) (λb=>?_)|refine C6 (aG z 1 8) ?_)
  all_goals exact T0 (λz=>[I z]) (by unfold aI;(repeat' split)<;>omega)
theorem j7(z:Int):ao Tryz.prog 88 false [.val none [I z]] .one [I (aI z)]:=by
 refine fO 14 [] Tryz.func88 rfl ?_;by_cases c:1<=z/\z<=8
 ·repeat'(first|refine gD ?_|(conv=>whnf);first|with_reducible refine Bf.D (λa=>?_) (λa=>?_)|refine C6 (aM z 1 8) ?_)
  (conv=>whnf)
  refine CD (ι:=Nat) (λk=>[(0,.hold .one [I (z)]),(3,.hold .one [I ((k:Nat):Int)])]) (λk=>k<=3/\(k=0\/csz ((k - 1:Nat):Int)<z)) (λk=>4 - k) (0) ?_ (⟨ω,.inl rfl⟩) λk b=>?_
  ·exact wB
  obtain⟨b,d⟩:=b
  repeat'(first|refine gO ?_|(conv=>whnf);first|with_reducible refine Bf.D (λa=>?_) (λa=>?_)|refine C6 (ci _) ?_)
  all_goals first
   | exact T0 (λz=>[I z]) (v6 b c.1 d (by assumption)).symm
   | ((conv=>whnf);refine CB (k+1) ⟨by have:=zQ b (by assumption) c.2;omega,.inr (by simpa using (by assumption:csz (k:Nat)<z))⟩ (by have:=zQ b (by assumption) c.2;omega) ?_;(exact wB))
 ·repeat'(first|refine gD ?_|(conv=>whnf);first|with_reducible refine Bf.D (λa=>?_) (λa=>?_)|refine C6 (aM z 1 8) ?_)
  all_goals exact T0 (λz=>[I z]) (by unfold aI;(repeat' split)<;>omega)
theorem re(q:bF)(a:Int)(e:bF.sml q):ao Tryz.prog 272 false [.val (some 2) (bF.enc .imm q),.val none [I a]] .one [B (q.Lst.any (dl a))]:=by
 have j:q.Lst.length<=1048576:=e.1;refine fO 21 [] Tryz.func272 rfl ?_
 repeat'(first|refine gO ?_|fail)
 (conv=>whnf)
 refine CD (ι:=Nat) (λi=>[(1,.hold .one [I (a)]),(2,.hold .box (bF.enc .imm q)),(5,.hold .one [I ((i:Nat):Int)])]) (λi=>i<=q.Lst.length/\(q.Lst.take i).any (dl a)=false) (λi=>q.Lst.length - i) (0) ?_ (⟨R0 _,rfl⟩) λi c=>?_
 ·exact wB
 obtain⟨c,d⟩:=c;by_cases g:i<q.Lst.length
 ·have b:=ah g
  repeat'(first|refine gD ?_|(conv=>whnf);first|with_reducible (first|refine CA (aa b) ?_|refine Bf.E (λh=>?_) (λh=>?_)))
  all_goals first
   | exact T0 (λz=>[B z]) ((A4 b (O0 (by assumption))).symm)
   | ((conv=>whnf);refine CB (i+1) ⟨ω,vZ b d (Q0 (by assumption))⟩ ω ?_;(exact wB))
 ·repeat'(first|refine gD ?_|fail)
  exact T0 (λz=>[B z]) ((FB ω d).symm)
theorem io(xs:List aL)(i:Nat):quarCells xs (i+1)=quarCells xs i+csz (nth xs i).Class:=rfl
theorem pV(k:Int):0<=csz k/\csz k<=8:=by
 by_cases h:0<=k/\k<=3
 ·rcases bM h with e|e|e|e<;>rw[e]<;>decide
 ·unfold csz;rw[C7 h];decide
theorem sO(xs:List aL)(c:ke xs):ao Tryz.prog 273 false [.val none (cE .imm xs)] .one [I (quarCells xs xs.length)]:=by
 have g:=c.1;refine fO 20 [] Tryz.func273 rfl ?_
 repeat'(first|refine gO ?_|fail)
 (conv=>whnf)
 refine CD (ι:=Nat) (λi=>[(0,.hold .one (cE .imm xs)),(3,.hold .one [I (quarCells xs i)]),(4,.hold .one [I ((i:Nat):Int)])]) (λi=>i<=xs.length/\0<=quarCells xs i/\quarCells xs i<=8*i) (λi=>xs.length - i) (0) ?_ (⟨R0 _,by simp[quarCells],by simp[quarCells]⟩) λi b=>?_
 ·exact wB
 obtain⟨b,h,j⟩:=b;by_cases d:i<xs.length
 ·have e:=ah d
  have k:=pV (nth xs i).Class;have a:=io xs i
  repeat'(first|refine gD ?_|(conv=>whnf);first|with_reducible refine CA (aa e) ?_|refine C6 (cR _) ?_)
  ((conv=>whnf);refine CB (i+1) ⟨ω,ω,ω⟩ ω ?_)
  rw[a];exact wB
 ·repeat'(first|refine gD ?_|fail)
  obtain rfl:i=xs.length:=ω
  rfl
theorem nR(xs:List aL)(c:ke xs):ao Tryz.prog 87 false [.val none (cE .imm xs)] .one [I (quarCells xs xs.length)]:=by
 have g:=c.1;refine fO 19 [] Tryz.func87 rfl ?_
 repeat'(first|refine gO ?_|fail)
 (conv=>whnf)
 refine CD (ι:=Nat) (λi=>[(3,.hold .one [I (quarCells xs i)]),(6,.hold .one (cE .imm xs)),(7,.hold .one [I (xs.length)]),(8,.hold .one [I ((i:Nat):Int)])]) (λi=>i<=xs.length/\0<=quarCells xs i/\quarCells xs i<=8*i) (λi=>xs.length - i) (0) ?_ (⟨R0 _,by simp[quarCells],by simp[quarCells]⟩) λi b=>?_
 ·exact wB
 obtain⟨b,h,j⟩:=b;by_cases d:i<xs.length
 ·have e:=ah d
  have k:=pV (nth xs i).Class;have a:=io xs i
  repeat'(first|refine gD ?_|(conv=>whnf);first|with_reducible refine CA (aa e) ?_|refine C6 (ci _) ?_)
  ((conv=>whnf);refine CB (i+1) ⟨ω,ω,ω⟩ ω ?_)
  rw[a];exact wB
 ·repeat'(first|refine gD ?_|fail)
  obtain rfl:i=xs.length:=ω
  rfl
theorem xO(a:aL):ao Tryz.prog 271 false [.val (some 3) (aL.enc .imm a)] .one [B (decide (0<=a.Class/\a.Class<=3/\0<=a.Addr/\0<=a.Since))]:=by
 refine fO 16 [] Tryz.func271 rfl ?_
 repeat'(first|refine gO ?_|(conv=>whnf);first|with_reducible refine Bf.D (λb=>?_) (λb=>?_)|refine C6 (aG _ 0 3) ?_)
 all_goals exact T0 (λz=>[B z]) ((by first|(symm;exact Q0 ω)|exact decide_eq_decide.2 ω))
theorem Lj{xs:List aL}(a:ke xs)(i:Nat):ke (xs.take i):=⟨by have:=a.1;rw[I1];omega,λ_ _=>trivial⟩
theorem nJ(q:bF)(a:bF.sml q):ao Tryz.prog 207 false [.val (some 2) (bF.enc .imm q)] .one [B (eK q)]:=by
 have l:q.Lst.length<=1048576:=a.1;refine fO 57 [(5,29,[17,18,19,20,21,22,23,24,25,26,27,28,29,30,31,32,33,34,35,36,37,38,39,40,41,42,43,44,45]),(7,11,[46,47,48,49,50,51,52,53,54,55,56])] Tryz.func207 rfl ?_
 repeat'(first|refine gO ?_|fail)
 (conv=>whnf)
 refine CD (ι:=Nat) (λi=>[(1,.hold .box (bF.enc .imm q)),(3,.hold .one [I ((i:Nat):Int)])]) (λi=>i<=q.Lst.length/\cw i (iM q.Lst)=true) (λi=>q.Lst.length - i) 0 ?_ ⟨R0 _,rfl⟩ λi e=>?_
 ·exact wB
 obtain⟨e,g⟩:=e;by_cases b:i<q.Lst.length
 ·have j:=ah b
  have h:=re ⟨0,q.Lst.take i⟩ (nth q.Lst i).Addr (Lj a i);cases c:(q.Lst.take i).any (dl (nth q.Lst i).Addr)<;>rw[show(bF.mk 0 (q.Lst.take i)).Lst.any (dl (nth q.Lst i).Addr)=_ from c]at h
  all_goals
   repeat'(first|refine gD ?_|(conv=>whnf);first|with_reducible (first|refine CA (aa j) ?_|refine Bf.D (λd=>?_) (λd=>?_))|refine C6 (xO _) ?_|refine CK ω (aa (fC ω b)) ?_|refine CT i rfl (by simp;omega) (λr k=>by obtain⟨z,-,rfl⟩:=T3.1 k;rfl) (Q3 ..) ?_|refine C6 h ?_)
   all_goals first
    | exact T0 (λz=>[B z]) ((by symm;unfold eK;rw[ca b (by unfold iM;first|(rw[c];simp;done)|(rw[Q0 ω];rfl))];rfl))
    | ((conv=>whnf);refine CB (i+1) ⟨ω,bE g (by unfold iM;rw[c,O0 ω];rfl)⟩ ω ?_;(exact wB))
 ·obtain rfl:i=q.Lst.length:=ω
  repeat'(first|refine gD ?_|(conv=>whnf);first|with_reducible refine Bf.D (λd=>?_) (λd=>?_)|refine C6 (aG _ 0 500) ?_|refine C6 (sO q.Lst a) ?_)
  all_goals exact T0 (λz=>[B z]) ((by unfold eK;rw[g];simp only[Bool.true_and];first|(symm;exact Q0 ω)|exact decide_eq_decide.2 ω))
theorem sS(b:aL)(a:Int):ao Tryz.prog 253 false [.val (some 3) (aL.enc .imm b),.ptr [I a]] .one [B (dl a b)]:=by
 refine fO 8 [] Tryz.func253 rfl ?_
 repeat'(first|refine gO ?_|fail)
 exact T0 (λz=>[B z]) ((by unfold dl;rw[Y3];simp))
theorem pf(xs:List aL)(a:Int)(b:xs.length<=9223372036854775807):ao Tryz.prog 179 false [.val none (cE .imm xs),.val none [I a]] .one [B (xs.any (dl a))]:=by
 refine fO 8 [] Tryz.func179 rfl ?_
 repeat'(first|refine gO ?_|(conv=>whnf);first|refine Cq.mk (rx (some 3) (aL.enc .imm) (dl a) xs) (sS default a).has (λL k rcs c=>?_) ?_|refine C6 (pK xs (dl a) b) ?_)
 ·obtain⟨y,-,rfl,rfl,rfl⟩:=c
  exact sS y a
 ·rfl
def ow(xs:List aL)(a:aL):Bool:=decide (0<=a.Class/\a.Class<=3/\0<=a.Addr/\0<=a.Since/\(xs.length=0\/(nth xs (xs.length - 1)).Since<=a.Since))&&!xs.any (dl a.Addr)
theorem zp(xs:List aL)(b:aL)(g:xs.length<=1048576):ao Tryz.prog 166 false [.val none (cE .imm xs),.val (some 3) (aL.enc .imm b)] .one [B (ow xs b)]:=by
 have c:=pf xs b.Addr ω;cases d:xs.any (dl b.Addr)<;>rw[d]at c
 ·by_cases h:xs.length=0
  ·refine fO 40 [(3,15,[25,26,27,28,29,30,31,32,33,34,35,36,37,38,39])] Tryz.func166 rfl ?_
   repeat'(first|refine gO ?_|(conv=>whnf);first|with_reducible (first|refine Bf.D (λa=>?_) (λa=>?_)|refine Bf.E (λa=>?_) (λa=>?_))|refine C6 (fh _) ?_|refine C6 c ?_)
   all_goals first
    | exact T0 (λz=>[B z]) ((by unfold ow;rw[d,Bool.not_false,Bool.and_true];first|(symm;exact Q0 ω)|(symm;exact O0 ω)|exact decide_eq_decide.2 ω))
    |(exfalso;omega)
    |trace_state
  ·have e:xs[((xs.length:Int) - 1).toNat]? = some (nth xs (xs.length - 1)):=by rw[show((xs.length:Int) - 1).toNat=xs.length - 1 by omega];exact ah ω
   refine fO 40 [(3,15,[25,26,27,28,29,30,31,32,33,34,35,36,37,38,39])] Tryz.func166 rfl ?_
   repeat'(first|refine gO ?_|(conv=>whnf);first|with_reducible (first|refine Bf.D (λa=>?_) (λa=>?_)|refine Bf.E (λa=>?_) (λa=>?_))|refine C6 (fh _) ?_|refine C6 c ?_|refine CK ω (aa e) ?_)
   all_goals first
    | exact T0 (λz=>[B z]) ((by unfold ow;rw[d,Bool.not_false,Bool.and_true];first|(symm;exact Q0 ω)|(symm;exact O0 ω)|exact decide_eq_decide.2 ω))
    |(exfalso;omega)
    |trace_state
 ·refine fO 40 [(3,15,[25,26,27,28,29,30,31,32,33,34,35,36,37,38,39])] Tryz.func166 rfl ?_
  repeat'(first|refine gO ?_|(conv=>whnf);first|with_reducible refine Bf.D (λa=>?_) (λa=>?_)|refine C6 (fh _) ?_|refine C6 c ?_)
  all_goals exact T0 (λz=>[B z]) ((by unfold ow;rw[d];simp))
theorem Ff{xs:List aL}{i:Nat}(d:i<xs.length):ow (xs.take i) (nth xs i)=iM xs i:=by
 unfold ow iM;have a:(xs.take i).length=i:=by rw[I1];omega
 rw[a]
 congr 1
 refine decide_eq_decide.2 ?_;by_cases b:i=0
 ·subst b;simp
 ·have c:nth (xs.take i) (i - 1)=nth xs (i - 1):=by
   have:=ah (xs:=xs) (i:=i - 1) ω;exact bp (by rw[List.getElem?_take_of_lt ω];exact this)
  rw[c]
theorem Bv(q:bF)(d:bF.sml q):ao Tryz.prog 71 false [.val (some 2) (bF.enc .imm q)] .one [B (eK q)]:=by
 have l:q.Lst.length<=1048576:=d.1;refine fO 32 [(4,7,[13,14,15,16,17,18,19]),(7,11,[21,22,23,24,25,26,27,28,29,30,31])] Tryz.func71 rfl ?_
 repeat'(first|refine gO ?_|fail)
 (conv=>whnf)
 refine CD (ι:=Nat) (λi=>[(1,.hold .box (bF.enc .imm q)),(6,.hold .one (cE .imm q.Lst)),(7,.hold .one [I (q.Lst.length)]),(8,.hold .one [I ((i:Nat):Int)])]) (λi=>i<=q.Lst.length/\cw i (iM q.Lst)=true) (λi=>q.Lst.length - i) 0 ?_ ⟨R0 _,rfl⟩ λi e=>?_
 ·exact wB
 obtain⟨e,g⟩:=e;by_cases a:i<q.Lst.length
 ·have h:=ah a
  have b:=zp (q.Lst.take i) (nth q.Lst i) (by rw[I1];omega);rw[Ff a]at b;cases c:iM q.Lst i<;>rw[c]at b
  all_goals
   repeat'(first|refine gD ?_|(conv=>whnf);first|with_reducible refine CA (aa h) ?_|refine CT i rfl (by simp;omega) (λr j=>by obtain⟨z,-,rfl⟩:=T3.1 j;rfl) (Q3 ..) ?_|refine C6 b ?_)
   all_goals first
    | exact T0 (λz=>[B z]) ((by symm;unfold eK;rw[ca a c];rfl))
    | ((conv=>whnf);refine CB (i+1) ⟨ω,bE g c⟩ ω ?_;(exact wB))
 ·obtain rfl:i=q.Lst.length:=ω
  repeat'(first|refine gD ?_|(conv=>whnf);first|with_reducible refine Bf.D (λk=>?_) (λk=>?_)|refine C6 (aM _ 0 500) ?_|refine C6 (nR q.Lst d) ?_)
  all_goals exact T0 (λz=>[B z]) ((by unfold eK;rw[g];simp only[Bool.true_and];first|(symm;exact Q0 ω)|exact decide_eq_decide.2 ω))
def gx(a:List Bool):Nat->Int
 | 0=>0
 | i+1=>gx a i+(if nth a i then 1 else 0)
def d3(f:aU):Int:=if cC f then gx f.Used f.Used.length else 0
theorem yb{a:List Bool}{i:Nat}(h:nth a i=true):gx a (i+1)=gx a i+1:=by show gx a i+(if nth a i then 1 else 0)=_;rw[h];rfl
theorem BD{a:List Bool}{i:Nat}(h:nth a i=false):gx a (i+1)=gx a i:=by show gx a i+(if nth a i then 1 else 0)=_;rw[h];simp
theorem tW(f:aU)(h:aU.sml f):ao Tryz.prog 17 false [.val (some 2) (aU.enc .imm f)] .one [I (d3 f)]:=by
 have l:f.Used.length<=1048576:=h.2;have b:=oW f h;cases d:cC f<;>rw[d]at b
 ·refine fO 24 [] Tryz.func17 rfl ?_
  repeat'(first|refine gO ?_|fail)
  (conv=>whnf)
  refine CD (ι:=Nat) (λi=>[(1,.hold .box (aU.enc .imm f)),(3,.hold .one [I ((0:Int))]),(4,.hold .one [I ((i:Nat):Int)])]) (λi=>i=0) (λi=>i) (0) ?_ (rfl) λi c=>?_
  ·exact wB
  subst c
  repeat'(first|refine gO ?_|(conv=>whnf);first|with_reducible refine Bf.D (λj=>?_) (λj=>?_)|refine C6 b ?_)
  all_goals exact T0 (λz=>[I z]) (by unfold d3;rw[d];rfl)
 ·refine fO 24 [] Tryz.func17 rfl ?_
  repeat'(first|refine gO ?_|fail)
  (conv=>whnf)
  refine CD (ι:=Nat) (λi=>[(1,.hold .box (aU.enc .imm f)),(3,.hold .one [I (gx f.Used i)]),(4,.hold .one [I ((i:Nat):Int)])]) (λi=>i<=f.Used.length/\0<=gx f.Used i/\gx f.Used i<=i) (λi=>f.Used.length - i) (0) ?_ (⟨R0 _,by simp[gx],by simp[gx]⟩) λi c=>?_
  ·exact wB
  obtain⟨c,n,o⟩:=c;by_cases k:i<f.Used.length
  ·have e:=ah k
   cases g:nth f.Used i<;>rw[g]at e
   ·have a:=BD g
    repeat'(first|refine gD ?_|(conv=>whnf);first|with_reducible refine CA (aa e) ?_|refine C6 b ?_)
    ((conv=>whnf);refine CB (i+1) ⟨ω,ω,ω⟩ ω ?_)
    rw[a];exact wB
   ·have a:=yb g
    repeat'(first|refine gD ?_|(conv=>whnf);first|with_reducible refine CA (aa e) ?_|refine C6 b ?_)
    ((conv=>whnf);refine CB (i+1) ⟨ω,ω,ω⟩ ω ?_)
    rw[a];exact wB
  ·obtain rfl:i=f.Used.length:=ω
   repeat'(first|refine gD ?_|(conv=>whnf);first|refine C6 b ?_)
   exact T0 (λz=>[I z]) (by unfold d3;rw[d];rfl)
theorem tP(f:aU)(g:aU.sml f):ao Tryz.prog 64 false [.val (some 2) (aU.enc .imm f)] .one [I (d3 f)]:=by
 have k:f.Used.length<=1048576:=g.2;have b:=pc f g;cases c:cC f<;>rw[c]at b
 ·refine fO 21 [] Tryz.func64 rfl ?_
  repeat'(first|refine gO ?_|(conv=>whnf);first|refine C6 b ?_)
  all_goals exact T0 (λz=>[I z]) (by unfold d3;rw[c];rfl)
 ·refine fO 21 [] Tryz.func64 rfl ?_
  repeat'(first|refine gO ?_|(conv=>whnf);first|refine C6 b ?_)
  (conv=>whnf)
  refine CD (ι:=Nat) (λi=>[(3,.hold .one [I (gx f.Used i)]),(10,.hold .one (vC .imm f.Used)),(11,.hold .one [I (f.Used.length)]),(12,.hold .one [I ((i:Nat):Int)])]) (λi=>i<=f.Used.length/\0<=gx f.Used i/\gx f.Used i<=i) (λi=>f.Used.length - i) (0) ?_ (⟨R0 _,by simp[gx],by simp[gx]⟩) λi h=>?_
  ·exact wB
  obtain⟨h,l,n⟩:=h;by_cases j:i<f.Used.length
  ·have d:=ah j
   cases e:nth f.Used i<;>rw[e]at d
   ·have a:=BD e
    repeat'(first|refine gD ?_|(conv=>whnf);first|with_reducible refine CA (aa d) ?_)
    ((conv=>whnf);refine CB (i+1) ⟨ω,ω,ω⟩ ω ?_)
    rw[a];exact wB
   ·have a:=yb e
    repeat'(first|refine gD ?_|(conv=>whnf);first|with_reducible refine CA (aa d) ?_)
    ((conv=>whnf);refine CB (i+1) ⟨ω,ω,ω⟩ ω ?_)
    rw[a];exact wB
  ·obtain rfl:i=f.Used.length:=ω
   repeat'(first|refine gD ?_|fail)
   exact T0 (λz=>[I z]) (by unfold d3;rw[c];rfl)
def xE(h:ab):Prop:=aH.sml h.Kernel.Machine.Table
theorem gG(h:ab)(p:Int)(a:xE h):ao Tryz.prog 36 false [.val (some 24) (ab.enc .imm h),.val none [I p]] .one (aF .own (aO h p)):=by
 refine fO 23 [] Tryz.func36 rfl ?_ (.inr (bJ _))
 repeat'((conv=>whnf);first|with_reducible (first|refine Lm ?_|refine Wm ω ?_|refine Bf.E (λb=>?_) (λb=>?_)|refine Bn ?_|refine jt.wk rfl ?_)|refine Bt ?_|refine Bu ?_|refine C6 (cQ h.Kernel.Machine.Table p a) ?_|refine C6 (gi h.Kernel.Machine.Table _ a) ?_)
 all_goals(unfold aO;first|rw[C8 (by assumption)]|rw[C7 (by assumption)])
 all_goals exact⟨rfl,trivial⟩
theorem tL(h:ab)(p:Int)(a:xE h):ao Tryz.prog 26 false [.val (some 24) (ab.enc .imm h),.val none [I p]] .one (aF .own (aO h p)):=by
 refine fO 22 [] Tryz.func26 rfl ?_ (.inr (bJ _))
 repeat'((conv=>whnf);first|with_reducible (first|refine Lm ?_|refine Wm ω ?_|refine Bf.E (λb=>?_) (λb=>?_)|refine Bn ?_|refine jt.wk rfl ?_)|refine Bt ?_|refine Bu ?_|refine C6 (jV h.Kernel.Machine.Table p a) ?_|refine C6 (qr h.Kernel.Machine.Table _ a) ?_)
 all_goals(unfold aO;first|rw[C8 (by assumption)]|rw[C7 (by assumption)])
 all_goals exact⟨rfl,trivial⟩
theorem BO(k:af)(p:Int)(a:aH.sml k.Machine.Table):ao Tryz.prog 163 false [.val (some 5) (af.enc .imm k),.val none [I p]] .one [B (decide ((ar k.Machine.Table p).Mode≠0))]:=by
 refine fO 12 [] Tryz.func163 rfl ?_
 repeat'(first|refine gO ?_|(conv=>whnf);first|refine C6 (jV k.Machine.Table p a) ?_)
 exact T0 (λz=>[B z]) ((by rw[Y3];simp))
theorem nI(z:Int):ao Tryz.prog 75 false [.val none [I z]] .one [B (decide (0<=z/\z<=1073741823))]:=by
 refine fO 5 [] Tryz.func75 rfl ?_
 repeat'(first|refine gO ?_|(conv=>whnf);first|refine C6 (aM z 0 1073741823) ?_)
 rfl
theorem jg(h:ab)(p:Int)(g:h.Spans.length<=1048576):ao Tryz.prog 39 false [.val (some 24) (ab.enc .imm h),.val none [I p]] .one [I (dU h p)]:=by
 refine fO 22 [] Tryz.func39 rfl ?_
 repeat'(first|refine gO ?_|fail)
 (conv=>whnf)
 refine CD (ι:=Nat) (λi=>[(1,.hold .one [I (p)]),(2,.hold .box (ab.enc .imm h)),(5,.hold .one [I ((i:Nat):Int)])]) (λi=>i<=h.Spans.length/\∀(j:Nat)(z:au),j<i->h.Spans[j]? = some z->iG p z=false) (λi=>h.Spans.length - i) (0) ?_ (⟨R0 _,λj z k=>ω⟩) λi c=>?_
 ·exact wB
 obtain⟨c,a⟩:=c;by_cases d:i<h.Spans.length
 ·have b:=ah d
  repeat'(first|refine gD ?_|(conv=>whnf);first|with_reducible (first|refine CA (aa b) ?_|refine Bf.E (λe=>?_) (λe=>?_)))
  all_goals first
   | exact T0 (λz=>[I z]) (d2 b (O0 (by assumption)) a).symm
   | ((conv=>whnf);refine CB (i+1) ⟨ω,cX b (Q0 (by assumption)) a⟩ ω ?_;(exact wB))
 ·repeat'(first|refine gD ?_|fail)
  exact T0 (λz=>[I z]) (eB ω a).symm
theorem yE(s:au)(p:Int):ao Tryz.prog 100 false [.val (some 3) (au.enc .imm s),.ptr [I p]] .one [B (iG p s)]:=by
 refine fO 8 [] Tryz.func100 rfl ?_
 repeat'(first|refine gO ?_|fail)
 exact T0 (λz=>[B z]) ((by unfold iG;rw[Y3];simp))
theorem tc(h:ab)(p:Int)(b:h.Spans.length<=1048576):ao Tryz.prog 27 false [.val (some 24) (ab.enc .imm h),.val none [I p]] .one [I (dU h p)]:=by
 refine fO 9 [] Tryz.func27 rfl ?_
 repeat'(first|refine gO ?_|(conv=>whnf);first|refine Cq.mk (rx (some 3) (au.enc .imm) (iG p) h.Spans) (yE default p).has (λL k rcs a=>?_) ?_|refine C6 (vz h.Spans (iG p) ω) ?_)
 ·obtain⟨y,-,rfl,rfl,rfl⟩:=a
  exact yE y p
 ·rfl
def flight1(m:aK)(i:Nat):List Int:=(m.Buffers.take i).flatMap λl=>l.map (·.Addr)
def flight2(m:aK)(i:Nat):List Int:=(m.Inbox.take i).flatten
theorem m0{m:aK}{i:Nat}{l:List dh}(h:m.Buffers[i]? = some l):flight1 m (i+1)=flight1 m i++l.map (·.Addr):=by
 unfold flight1;rw[O4,h,List.flatMap_append];simp
theorem lZ{m:aK}{i:Nat}{l:List Int}(h:m.Inbox[i]? = some l):flight2 m (i+1)=flight2 m i++l:=by
 unfold flight2;rw[O4,h,List.flatten_append];simp
theorem n7{m:aK}(h:bA m=true):aC m=flight1 m m.Buffers.length++flight2 m m.Inbox.length:=by
 unfold aC flight1 flight2;rw[C8 h,v4,v4]
theorem ta{m:aK}(h:bA m=false):aC m=[]:=by
 unfold aC;rw[h];rfl
theorem jE{m:aK}(h:bA m=true):1<=m.Buffers.length/\m.Buffers.length<=4/\m.Inbox.length=m.Buffers.length:=by
 unfold bA at h;simp only[I0,C0]at h;exact h.1.1
theorem AX{l:List Int} : ∀r∈l.map (rI .imm),r.length=1:=by
 intro r a;obtain⟨z,-,rfl⟩:=T3.1 a;rfl
theorem Gn{l:List Int} : ∀r∈l.map (rI .imm),aV r=true:=by
 intro r a;obtain⟨z,-,rfl⟩:=T3.1 a;rfl
theorem x8(m:aK)(j:aK.sml m):ao Tryz.prog 277 false [.val (some 2) (aK.enc .imm m)] .one (aF .own (aC m)):=by
 have l:=ky m j;cases e:bA m<;>rw[e]at l
 ·refine fO 56 [] Tryz.func277 rfl ?_ (.inr (bJ _))
  repeat'((conv=>whnf);first|with_reducible (first|refine Lm ?_|refine Wm ω ?_|refine Bn ?_|refine jt.wk rfl ?_)|refine Bt ?_|refine Bu ?_|refine C6 l ?_)
  all_goals(rw[ta e];exact⟨rfl,trivial⟩)
 ·obtain⟨D,E,F⟩:=jE e
  refine fO 56 [] Tryz.func277 rfl ?_ (.inr (bJ _))
  repeat'(first|refine gO ?_|(conv=>whnf);first|refine C6 l ?_)
  (conv=>whnf)
  refine CD (ι:=Nat × List Int) (λi=>[(1,.hold .box (aK.enc .imm m)),(3,.hold .one (aF .own i.2)),(4,.hold .one [I ((i.1:Nat):Int)])]) (λi=>i.1<=m.Buffers.length/\i.2=flight1 m i.1/\i.2.length<=1048576*i.1) (λi=>m.Buffers.length - i.1) ((0,[])) ?_ (⟨R0 _,rfl,R0 _⟩) λi n=>?_
  ·exact wB
  obtain⟨i,S⟩:=i;obtain⟨n,o,t⟩:=n;simp only at n o t |-;by_cases q:i<m.Buffers.length
  ·have g:=ah q
   have u:(nth m.Buffers i).length<=1048576:=(j.1.2 _ (am q)).1
   repeat'(first|refine gD ?_|(conv=>whnf);first|with_reducible refine CA (aa g) ?_)
   (conv=>whnf)
   refine CD (ι:=Nat × List Int) (λk=>[(1,.hold .box (aK.enc .imm m)),(3,.hold .one (aF .own k.2)),(4,.hold .one [I ((i:Nat):Int)]),(5,.hold .one [I ((k.1:Nat):Int)])]) (λk=>k.1<=(nth m.Buffers i).length/\k.2=S++((nth m.Buffers i).take k.1).map (·.Addr)) (λk=>(nth m.Buffers i).length - k.1) ((0,S)) ?_ (⟨R0 _,by simp⟩) λk b=>?_
   ·exact wB
   obtain⟨k,c⟩:=k;obtain⟨b,a⟩:=b;simp only at b a |-;have w:c.length=S.length+k:=by rw[a,U2,W0,I1];omega
   by_cases h:k<(nth m.Buffers i).length
   ·have d:=ah h
    repeat'(first|refine gD ?_|(conv=>whnf);first|with_reducible (first|refine CA (aa g) ?_|refine CA (aa d) ?_)|refine CP co (λr y=>by rw[Z0.1 y];rfl) (by simp[aV,d8]) (by simp;omega) (by show _*8<=_;simp;omega) rfl ?_)
    ((conv=>whnf)
     refine CB (k+1,c++[(nth (nth m.Buffers i) k).Addr]) ⟨(by simp only;omega),(by simp only;rw[a,O4,d,R4,Q4];simp)⟩ (by simp only;omega) ?_
     (repeat'(first|exact trivial|rfl|exact CI rfl (CI (T0 (C.s d9.own) (by simp[rI])) trivial)|refine CI ?_ ?_)))
   ·obtain rfl:k=(nth m.Buffers i).length:=ω
    rw[v4]at a
    repeat'(first|refine gD ?_|(conv=>whnf);first|with_reducible refine CA (aa g) ?_)
    ((conv=>whnf);refine CB (i+1,c) ⟨(by simp only;omega),(by simp only;rw[m0 g,<-o,a]),(by simp only;omega)⟩ (by simp only;omega) ?_;(exact wB))
  ·obtain rfl:i=m.Buffers.length:=ω
   repeat'(first|refine gD ?_|fail)
   (conv=>whnf)
   refine CD (ι:=Nat × List Int) (λk=>[(1,.hold .box (aK.enc .imm m)),(3,.hold .one (aF .own k.2)),(6,.hold .one [I ((k.1:Nat):Int)])]) (λk=>k.1<=m.Inbox.length/\k.2=S++flight2 m k.1/\k.2.length<=S.length+1048576*k.1) (λk=>m.Inbox.length - k.1) ((0,S)) ?_ (⟨R0 _,by simp[flight2],by simp⟩) λk b=>?_
   ·exact wB
   obtain⟨k,c⟩:=k;obtain⟨b,a,p⟩:=b;simp only at b a p |-;by_cases h:k<m.Inbox.length
   ·have d:=ah h
    have B:(nth m.Inbox k).length<=1048576:=j.2.2 _ (am h)
    repeat'(first|refine gD ?_|(conv=>whnf);first|with_reducible refine CA (aa d) ?_|refine CP co AX (λ_=>Gn) (by simp;omega) (by show _*8<=_;simp;omega) rfl ?_)
    ((conv=>whnf)
     refine CB (k+1,c++nth m.Inbox k) ⟨(by simp only;omega),(by simp only;rw[lZ d,a,Q4]),(by simp only;rw[U2];omega)⟩ (by simp only;omega) ?_
     (repeat'(first|exact trivial|rfl|exact CI rfl (CI (T0 (C.s d9.own) (by simp[rI])) trivial)|refine CI ?_ ?_)))
   ·obtain rfl:k=m.Inbox.length:=ω
    repeat'(first|refine gD ?_|fail)
    rw[n7 e,<-o,<-a];rfl
theorem lh(m:aK)(h:aK.sml m):ao Tryz.prog 78 false [.val (some 2) (aK.enc .imm m)] .one (aF .own (aC m)):=by
 have j:=tn m h;cases e:bA m<;>rw[e]at j
 ·refine fO 46 [] Tryz.func78 rfl ?_ (.inr (bJ _))
  repeat'((conv=>whnf);first|with_reducible (first|refine Lm ?_|refine Wm ω ?_|refine Bn ?_|refine jt.wk rfl ?_)|refine Bt ?_|refine Bu ?_|refine C6 j ?_)
  all_goals(rw[ta e];exact⟨rfl,trivial⟩)
 ·obtain⟨D,E,F⟩:=jE e
  refine fO 46 [] Tryz.func78 rfl ?_ (.inr (bJ _))
  repeat'(first|refine gO ?_|(conv=>whnf);first|refine C6 j ?_)
  (conv=>whnf)
  refine CD (ι:=Nat × List Int) (λi=>[(1,.hold .box (aK.enc .imm m)),(3,.hold .one (aF .own i.2)),(15,.hold .one (DM .imm m.Buffers)),(16,.hold .one [I (m.Buffers.length)]),(17,.hold .one [I ((i.1:Nat):Int)])]) (λi=>i.1<=m.Buffers.length/\i.2=flight1 m i.1/\i.2.length<=1048576*i.1) (λi=>m.Buffers.length - i.1) ((0,[])) ?_ (⟨R0 _,rfl,R0 _⟩) λi l=>?_
  ·exact wB
  obtain⟨i,S⟩:=i;obtain⟨l,n,t⟩:=l;simp only at l n t |-;by_cases p:i<m.Buffers.length
  ·have q:=ah p
   have u:(nth m.Buffers i).length<=1048576:=(h.1.2 _ (am p)).1
   repeat'(first|refine gD ?_|(conv=>whnf);first|with_reducible refine CA (aa q) ?_)
   (conv=>whnf)
   refine CD (ι:=Nat × List Int) (λk=>[(1,.hold .box (aK.enc .imm m)),(3,.hold .one (aF .own k.2)),(15,.hold .one (DM .imm m.Buffers)),(16,.hold .one [I (m.Buffers.length)]),(17,.hold .one [I ((i:Nat):Int)]),(21,.hold .one (cZ .imm (nth m.Buffers i))),(22,.hold .one [I ((nth m.Buffers i).length)]),(23,.hold .one [I ((k.1:Nat):Int)])]) (λk=>k.1<=(nth m.Buffers i).length/\k.2=S++((nth m.Buffers i).take k.1).map (·.Addr)) (λk=>(nth m.Buffers i).length - k.1) ((0,S)) ?_ (⟨R0 _,by simp⟩) λk b=>?_
   ·exact wB
   obtain⟨k,c⟩:=k;obtain⟨b,a⟩:=b;simp only at b a |-;have w:c.length=S.length+k:=by rw[a,U2,W0,I1];omega
   by_cases g:k<(nth m.Buffers i).length
   ·have d:=ah g
    repeat'(first|refine gD ?_|(conv=>whnf);first|with_reducible refine CA (aa d) ?_|refine CP co (λr y=>by rw[Z0.1 y];rfl) (by simp[aV,d8]) (by simp;omega) (by show _*8<=_;simp;omega) rfl ?_)
    ((conv=>whnf)
     refine CB (k+1,c++[(nth (nth m.Buffers i) k).Addr]) ⟨(by simp only;omega),(by simp only;rw[a,O4,d,R4,Q4];simp)⟩ (by simp only;omega) ?_
     (repeat'(first|exact trivial|rfl|exact CI rfl (CI (T0 (C.s d9.own) (by simp[rI])) trivial)|refine CI ?_ ?_)))
   ·obtain rfl:k=(nth m.Buffers i).length:=ω
    rw[v4]at a
    repeat'(first|refine gD ?_|fail)
    ((conv=>whnf);refine CB (i+1,c) ⟨(by simp only;omega),(by simp only;rw[m0 q,<-n,a]),(by simp only;omega)⟩ (by simp only;omega) ?_;(exact wB))
  ·obtain rfl:i=m.Buffers.length:=ω
   repeat'(first|refine gD ?_|fail)
   (conv=>whnf)
   refine CD (ι:=Nat × List Int) (λk=>[(3,.hold .one (aF .own k.2)),(35,.hold .one (iq .imm m.Inbox)),(36,.hold .one [I (m.Inbox.length)]),(37,.hold .one [I ((k.1:Nat):Int)])]) (λk=>k.1<=m.Inbox.length/\k.2=S++flight2 m k.1/\k.2.length<=S.length+1048576*k.1) (λk=>m.Inbox.length - k.1) ((0,S)) ?_ (⟨R0 _,by simp[flight2],by simp⟩) λk b=>?_
   ·exact wB
   obtain⟨k,c⟩:=k;obtain⟨b,a,o⟩:=b;simp only at b a o |-;by_cases g:k<m.Inbox.length
   ·have d:=ah g
    have B:(nth m.Inbox k).length<=1048576:=h.2.2 _ (am g)
    repeat'(first|refine gD ?_|(conv=>whnf);first|with_reducible refine CA (aa d) ?_|refine CP co AX (λ_=>Gn) (by simp;omega) (by show _*8<=_;simp;omega) rfl ?_)
    ((conv=>whnf)
     refine CB (k+1,c++nth m.Inbox k) ⟨(by simp only;omega),(by simp only;rw[lZ d,a,Q4]),(by simp only;rw[U2];omega)⟩ (by simp only;omega) ?_
     (repeat'(first|exact trivial|rfl|exact CI rfl (CI (T0 (C.s d9.own) (by simp[rI])) trivial)|refine CI ?_ ?_)))
   ·obtain rfl:k=m.Inbox.length:=ω
    repeat'(first|refine gD ?_|fail)
    rw[n7 e,<-n,<-a];rfl
end Go.Proofs.YtembpgjjnioagaaGreat.Ab
