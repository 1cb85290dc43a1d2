/- A function's contract out of the abstract run of its body, where something is lent to it. No condition. -/
import Derived.Test.YtembpgjjnioagaaGreatIc
set_option linter.unusedVariables false
set_option linter.unusedSimpArgs false
set_option linter.constructorNameAsVariable false
namespace Go.Proofs.YtembpgjjnioagaaGreat.Ab
open Go.RowKit
def LD:C->Value->C
 | .s .own rows,v=>.s (.tag v) rows
 | c,_=>c
def wE(u:Nat->Value):Nat->List C->List C
 | _,[]=>[]
 | j,c::cs=>LD c (u j)::wE u (j+1) cs
def tT(u:Nat->Nat->Value):Nat->List MA->List (Nat × AV)
 | _,[]=>[]
 | i,.val a cs::A=>(i,.hold (jK a) cs)::tT u (i+1) A
 | i,.mut a cs::A=>(i,.hold (jK a) (wE (u i) 0 cs))::tT u (i+1) A
 | i,.ptr cs::A=>(i,.hold .box cs)::tT u (i+1) A
def Fe(p:Nat->Value):Nat->List MA->List (Nat × Value)
 | _,[]=>[]
 | i,.ptr _::A=>(i,p i)::Fe p (i+1) A
 | i,_::A=>Fe p (i+1) A
def AI:Nat->List MA->List (Nat × Nat)->List (Option Nat)
 | i,.val _ _::A,_::pl=>none::AI (i+1) A pl
 | i,.mut _ _::A,p::pl=>some p.1::AI (i+1) A pl
 | i,.ptr _::A,_::pl=>some i::AI (i+1) A pl
 | _,_,_=>[]
def DJ:List (Option Nat)->Bool
 | []=>true
 | none::l=>DJ l
 | some t::l=>l.all (λx=>match x with|some a=>!Nat.beq t a|none=>true)&&DJ l
def sles:List (Option Nat)->List Nat
 | []=>[]
 | none::l=>sles l
 | some t::l=>t::sles l
def ML(v:Value)(c y o:C):Prop:=
 match c with
 | .s .own _=>(match y with|.s (.tag v') rows=>v'=v/\o=.s .own rows|_=>False)
 | .s (.tag _) _=>False
 | .m _=>False
 | .it _ _=>False
 | c=>o=c
def Lc(u:Nat->Value):Nat->List C->List C->List C->Prop
 | _,[],_,o=>o=[]
 | j,c::cs,y::xs,o::os=>ML (u j) c y o/\Lc u (j+1) cs xs os
 | _,_,_,_=>False
def gE(u:Nat->Nat->Value)(F:Nat->AV):Nat->List MA->List (Nat × Nat)->List MA->Prop
 | _,[],_,[]=>True
 | i,.val _ _::A,_::pl,.val _ _::B=>gE u F (i+1) A pl B
 | i,.mut ag cs::A,p::pl,.mut a out::B=>(a=ag/\match F p.1 with|.hold _ xs=>Lc (u i) 0 cs (xs.drop p.2) out|_=>False)/\gE u F (i+1) A pl B
 | i,.ptr _::A,_::pl,.ptr out::B=>(match F i with|.hold .box xs=>xs=out|_=>False)/\gE u F (i+1) A pl B
 | _,_,_,_=>False
inductive aP(k k':Kd)(cs cs':List C)(Q:Prop):Prop
 |mk_ (h:k=k'/\cs=cs'/\Q)
theorem aP.mk{k b:Kd}{cs a:List C}{Q:Prop}(h1:k=b)(c:cs=a)(d:Q):aP k b cs a Q:=by refine .mk_ ?_;exact⟨h1,c,d⟩
theorem CC:type_of% @aP.mk:=@aP.mk
theorem aP.out{k b:Kd}{cs a:List C}{Q:Prop}(h:aP k b cs a Q):k=b/\cs=a/\Q:=by obtain⟨h⟩:=h;exact h
def LE(TE:Nat->Option TI)(d:List ResultVar)(k:Kd)(rcs:List C)(u:Nat->Nat->Value)(A B:List MA)(a:List (Nat × Nat)):Exit->(Nat->AV)->Prop:=λe F=>
 match e with
 | .normal=>resA TE F d (sles (AI 0 A a)) λb c=>aP (iO b) k c rcs (gE u F 0 A a B)
 | .ret=>resA TE F d (sles (AI 0 A a)) λb c=>aP (iO b) k c rcs (gE u F 0 A a B)
 | _=>False
section
variable{P:Program}{w0 w w1:World}{M S0 S:ab}{N:ew}{φ:Nat->ab}{F:Nat->AV}{a:Act}{TE:Nat->Option TI}
theorem dL.tag{Y:ab}{c:C}{v:Value}(h:dL w S Y c v):dL w S Y (LD c v) v:=by
 cases h with
 | nil _ o a B=>cases o with
  | own=>exact .nil _ _ _ rfl
  | _=>exact .nil _ _ _ B
 | own _ o g k n l e u f B D E i p t K L M y=>cases o with
  | own=>exact .own _ _ g k n l e u f rfl D E i p t K L M y
  | imm=>exact B.elim
  | tag z=>exact .own _ _ g k n l e u f B D E i p t K L M y
 | v _ x F=>exact .v _ _ F
 | x _ u F=>exact .x _ _ F
 | z _ a=>exact .z _ _
 | imm _ g G k n l e u D E i N y=>exact .imm _ g G k n l e u D E i N y
 | m _ b d O j t H P J q=>exact .m _ b d O j t H P J q
 | it _ r b since Q d seen j cur left t R H q y J T A=>exact .it _ r b since Q d seen j cur left t R H q y J T A
theorem dL.untag{Y:ab}{z v:Value}{rows:List (List C)}(h:dL w S Y (.s (.tag z) rows) v):v=z/\dL w S Y (.s .own rows) v:=by
 cases h with
 | nil _ o a d=>exact⟨Eq.symm d,.nil _ _ _ trivial⟩
 | own _ o g k n e rows u f d i j b c l p q r t=>exact⟨Eq.symm d,.own _ _ g k n e rows u f trivial i j b c l p q r t⟩
theorem my(u:Nat->Value):∀(j:Nat)(cs:List C),(wE u j cs).length=cs.length
 | _,[]=>rfl
 | j,c::cs=>by simp[wE,my u (j+1) cs]
theorem Bv(u:Nat->Value):∀(a:Nat)(cs:List C)(j:Nat),(wE u a cs)[j]? = (cs[j]?).map λc=>LD c (u (a+j))
 | _,[],j=>by simp[wE]
 | a,c::cs,0=>by simp[wE]
 | a,c::cs,j+1=>by simp only[wE,List.getElem?_cons_succ];rw[Bv u (a+1) cs j,show a+1+j=a+(j+1) by omega]
theorem cG.tag{Y:ab}{cs:List C}{u:Nat->Value}(h:cG w S Y cs u):cG w S Y (wE u 0 cs) u:=by
 obtain⟨f,e,g,i⟩:=h;refine⟨f,λj c a=>?_,λj a=>g j (by rwa [my]at a),λj k a b=>i j k (by rwa [my]at a) (by rwa [my]at b)⟩;rw[Bv,U4]at a;cases d:cs[j]? with
 | none=>rw[d]at a;cases a
 | some l=>
  rw[d]at a;simp only[V3,R0]at a;subst a;exact(e j l d).tag
def celF(v:Value)(j:Nat):Value:=v.cells.toList.getD j undef
theorem bN.celF{Y:ab}{ag:Option Nat}{cs:List C}{v:Value}(h:bN w S Y ag cs v):cs.length=ag.getD 1/\v=mkv ag (celF v)/\cG w S Y cs (celF v):=by
 obtain⟨b,u,c,d⟩:=h;have g:=n9 (ag:=ag) (u:=u) (λe=>by subst e;exact d.one (by simp at b;omega));have f:∀j,j<ag.getD 1->Ab.celF v j=u j:=λj a=>by
  unfold Ab.celF;rw[c,g];simp[List.getD,a]
 exact⟨b,c.trans (gC λj a=>(f j a).symm),d.congr λj a=>f j ω⟩
def Le(u:Nat->Nat->Value)(i:Nat):MA->AV
 | .val a cs=>.hold (jK a) cs
 | .mut a cs=>.hold (jK a) (wE (u i) 0 cs)
 | .ptr cs=>.hold .box cs
theorem x9{u:Nat->Nat->Value} : ∀{A:List MA}{vs:List Value}{V:Nat->ab}(i:Nat),JG w S V A vs->∀t,(lay (tT u i A) t=.dead)\/(∃m v,i<=t/\vs[t - i]? = some v/\A[t - i]? = some m/\lay (tT u i A) t=Le u t m/\nM w S (V (t - i)) m v)
 | [],_,_,i,_,t=>.inl rfl
 | m::A,[],_,i,h,t=>h.elim
 | m::A,v::vs,V,i,h,t=>by
  have c:lay (tT u i (m::A)) t=bif Nat.beq t i then Le u i m else lay (tT u (i+1) A) t:=by cases m<;>rfl
  rw[c];cases a:Nat.beq t i with
  | true=>
   have:=N1 a;subst this;exact .inr ⟨m,v,Z1 _,by simp,by simp,rfl,by rw[Nat.sub_self];exact h.1⟩
  | false=>
   have d:t≠i:=λe=>by subst e;rw[Nat.beq_refl]at a;cases a
   rcases x9 (i+1) h.2 t with b|⟨f,g,b,j,k,l,n⟩
   ·exact .inl b
   ·refine .inr ⟨f,g,ω,?_,?_,l,?_⟩
    ·rw[show t - i=(t - (i+1))+1 by omega];simpa using j
    ·rw[show t - i=(t - (i+1))+1 by omega];simpa using k
    ·rw[show t - i=(t - (i+1))+1 by omega];exact n
theorem EP:∀{A:List MA}{vs:List Value}{V:Nat->ab},JG w S V A vs->A.length=vs.length
 | [],[],_,_=>rfl
 | _::_,_::_,_,h=>by simp[EP h.2]
 | [],_::_,_,h=>h.elim
 | _::_,[],_,h=>h.elim
theorem E5{p:Nat->Value} : ∀{A:List MA}{i:Nat}{q:Nat × Value},q∈Fe p i A->i<=q.1/\q.1<i+A.length/\q.2=p q.1
 | [],_,_,h=>by simp[Fe]at h
 | m::A,i,q,h=>by
  have a:q∈Fe p (i+1) A->i<=q.1/\q.1<i+(m::A).length/\q.2=p q.1:=λh=>by
   obtain⟨c,d,b⟩:=E5 h;exact⟨ω,by simp;omega,b⟩
  cases m with
  | ptr e=>
   rcases List.mem_cons.1 h with rfl|h
   ·exact⟨Z1 _,by simp,rfl⟩
   ·exact a h
  | val=>exact a h
  | «mut»=>exact a h
theorem Ey{p:Nat->Value} : ∀{A:List MA}{i n:Nat}{cs:List C},A[n]? = some (.ptr cs)->(i+n,p (i+n))∈Fe p i A
 | [],_,n,_,h=>by simp at h
 | m::A,i,0,cs,h=>by simp at h;subst h;simp[Fe]
 | m::A,i,n+1,cs,h=>by
  have a:=Ey (p:=p) (i:=i+1) (show A[n]? = some (.ptr cs) by simpa using h);rw[show i+1+n=i+(n+1) by omega]at a;cases m with
  | ptr cs=>exact W3 _ a
  | val=>exact a
  | «mut»=>exact a
def Lv(φ:Nat->ab):Option (Option Nat)->ab
 | some (some t)=>φ t
 | _=>NO
theorem zt{u:Nat->Value} : ∀{a:Nat}{cs xs b:List C},Lc u a cs xs b->cs.length=b.length/\∀(j:Nat)(c o:C),cs[j]? = some c->b[j]? = some o->∃y,(dx c=true->xs[j]? = some y)/\ML (u (a+j)) c y o
 | _,[],xs,b,h=>by simp only[Lc]at h;subst h;exact⟨rfl,λj c o h=>by simp at h⟩
 | _,_::_,[],_,h=>by simp only[Lc]at h
 | _,_::_,_::_,[],h=>by simp only[Lc]at h
 | a,p::cs,f::xs,q::b,h=>by
  simp only[Lc]at h;obtain⟨g,i⟩:=zt h.2;refine⟨by simp[g],λj c o d e=>?_⟩;cases j with
  | zero=>simp at d e;subst d e;exact⟨f,λ_=>rfl,h.1⟩
  | succ j=>
   obtain⟨y,k,l⟩:=i j c o (by simpa using d) (by simpa using e);exact⟨y,λn=>by simpa using k n,by rw[show a+(j+1)=a+1+j by omega];exact l⟩
theorem JC{S' Y F:ab}{u L:Nat->Value}{cs xs G:List C}{off:Nat}(g:bh S w w1)(n:∀b o,S b o->S' b o)(h:cG w S Y cs u)(h':cG w1 S' F xs L)(i:Lc u 0 cs (xs.drop off) G):cG w1 S' F G u:=by
 obtain⟨f,M,U,V⟩:=h;obtain⟨H,r,t,A⟩:=h';obtain⟨W,N⟩:=zt i;refine⟨λj b o=>off+j<xs.length/\H (off+j) b o,λj c q=>?_,λj q b o i=>t _ i.1 b o i.2,λj X q O P b o i p=>A _ _ i.1 p.1 ω b o i.2 p.2⟩;have Q:=(P1.1 q).1;have k:cs[j]? = some cs[j]:=O1 ω;obtain⟨y,l,a⟩:=N j _ c k q;rw[U4]at a;have d:=M j _ k;generalize cs[j]=B at k a d l;have keep:dx B=false->c=B->dL w1 S' (λb o=>off+j<xs.length/\H (off+j) b o) c (u j):=λR e=>by
  subst e;exact((d.bare (F':=NO) R).keep g (λ_ _ h=>h.elim)).mono n (λ_ _ h=>h.elim)
 cases B with
 | v Z=>exact keep rfl a
 | x=>exact keep rfl a
 | z=>exact keep rfl a
 | m es=>exact a.elim
 | it=>exact a.elim
 | s o J=>
  cases o with
  | imm=>exact keep rfl a
  | tag z=>exact a.elim
  | own=>
   have l:=l rfl;rw[List.getElem?_drop]at l;have D:=(P1.1 l).1;simp only[ML]at a;split at a
   case h_2=>exact a.elim
   rename_i v' E;obtain⟨rfl,rfl⟩:=a;obtain⟨T,K⟩:=(r _ _ l).untag;rw[T]at K;exact K.mono (λ_ _ h=>h) (λb o h=>⟨D,h⟩)
theorem bg.backs{E:World}{S':ab}{u:Nat->Nat->Value}(h:bg w0 M S0 N S' φ F a E)(e:bh S w E)(f:∀b o,S b o->S' b o):∀{A:List MA}{g:List (Nat × Nat)}{B:List MA}{vs:List Value}{V:Nat->ab}{i:Nat},JG w S V A vs->
  (∀j v,vs[j]? = some v->u (i+j)=celF v)->(∀j v cs,vs[j]? = some v->A[j]? = some (.ptr cs)->tvs a (i+j)=v)->gE u F i A g B->zC E S' (λn=>Lv φ (AI i A g)[n]?) B vs
 | [],g,B,vs,V,i,l,q,r,c=>by
  cases vs with
  | cons _ _=>exact l.elim
  | nil=>cases B with
   | nil=>trivial
   | cons _ _=>simp only[gE]at c
 | m::A,[],B,vs,V,i,l,q,r,c=>by cases m<;>simp only[gE]at c
 | m::A,p::g,[],vs,V,i,l,q,r,c=>by cases m<;>simp only[gE]at c
 | m::A,p::g,G::B,[],V,i,l,q,r,c=>l.elim
 | m::A,p::g,G::B,v::vs,V,i,l,q,r,c=>by
  have next:gE u F (i+1) A g B->zC E S' (λn=>Lv φ (AI (i+1) A g)[n]?) B vs:=λc=>
   bg.backs h e f l.2 (λj v H=>by rw[show i+1+j=i+(j+1) by omega];exact q (j+1) v (by simpa using H))
    (λj v cs H U=>by rw[show i+1+j=i+(j+1) by omega];exact r (j+1) v cs (by simpa using H) (by simpa using U)) c
  cases m with
  | val W cs=>
   cases G with
   | val C X=>simp only[gE]at c;exact⟨trivial,next c⟩
   | ptr=>simp only[gE]at c
   | «mut»=>simp only[gE]at c
  | «mut» W cs=>
   cases G with
   | val=>simp only[gE]at c
   | ptr=>simp only[gE]at c
   | «mut» C out=>
    simp only[gE]at c;obtain⟨⟨rfl,d⟩,J⟩:=c;refine⟨?_,next J⟩;have D:=bN.celF (show bN w S (V 0) C cs v from l.1);have K:u i=celF v:=q 0 v (by simp);have t:=h.slot p.1;cases y:F p.1 with
    | hold k xs=>
     rw[y]at d t;simp only at d;rw[K]at d;obtain⟨P,Y,Q,L,R,T,O⟩:=t;refine⟨by rw[<-(zt d).1];exact D.1,celF v,D.2.1,?_⟩;exact(JC e f D.2.2 O d).mono (λ_ _ h=>h) (λb o c=>by simpa[AI,Lv] using L b o c)
    | _=>rw[y]at d;exact d.elim
  | ptr cs=>
   cases G with
   | val=>simp only[gE]at c
   | «mut»=>simp only[gE]at c
   | ptr out=>
    simp only[gE]at c;refine⟨?_,next c.2⟩;have D:tvs a i=v:=r 0 v cs (by simp) (by simp);have t:=h.slot i;cases y:F i with
    | hold k xs=>
     cases k with
     | box=>
      rw[y]at c t;have:=c.1;simp only at this;subst this;rw[D]at t;obtain⟨P,Y,Q,L,R,T,O⟩:=t;exact⟨P,Y,λb o c=>by simpa[AI,Lv] using Q b o c,λb o c=>by simpa[AI,Lv] using L b o c,R,T,O⟩
     | _=>rw[y]at c;exact c.1.elim
    | _=>rw[y]at c;exact c.1.elim
theorem rn:∀{l:List (Option Nat)},DJ l=true->∀(i a t c:Nat),i≠a->l[i]? = some (some t)->l[a]? = some (some c)->t≠c
 | [],_,i,a,t,c,_,h,_=>by simp at h
 | none::l,b,i,a,t,c,f,h,d=>by
  cases i with
  | zero=>simp at h
  | succ i=>cases a with
   | zero=>simp at d
   | succ a=>exact rn (l:=l) b i a t c ω (by simpa using h) (by simpa using d)
 | some j::l,b,i,a,t,c,f,h,d=>by
  simp only[DJ,I0]at b;have g:∀(n s:Nat),l[n]? = some (some s)->j≠s:=λn s k e=>by
   have:=X2.1 b.1 _ (I1 k);simp only[Bool.not_eq_true']at this;rw[e,Nat.beq_refl]at this;cases this
  cases i with
  | zero=>
   simp at h;subst h;cases a with
   | zero=>exact absurd rfl f
   | succ a=>exact g a c (by simpa using d)
  | succ i=>cases a with
   | zero=>simp at d;subst d;exact λe=>g i t (by simpa using h) e.symm
   | succ a=>exact rn b.2 i a t c ω (by simpa using h) (by simpa using d)
theorem tP:∀{l:List (Option Nat)}{i t:Nat},l[i]? = some (some t)->t∈sles l
 | [],i,t,h=>by simp at h
 | none::l,i,t,h=>by
  cases i with
  | zero=>simp at h
  | succ i=>exact tP (l:=l) (i:=i) (by simpa using h)
 | some a::l,i,t,h=>by
  cases i with
  | zero=>simp at h;subst h;simp[sles]
  | succ i=>exact W3 _ (tP (l:=l) (i:=i) (by simpa using h))
theorem vr{φ:Nat->ab}{x:Option (Option Nat)}{b o:Nat}(h:Lv φ x b o):∃t,x=some (some t)/\φ t b o:=by
 match x,h with
 | some (some t),h=>exact⟨t,rfl,h⟩
 | some none,h=>exact h.elim
 | none,h=>exact h.elim
theorem Fx{f : Nat}{E : Func}{c : Code}{sh : Bool}{A B : List MA}{k : Kd}{rcs : List C}{mo : List (Nat × List Nat)}{n : Nat}(Q : List (Nat × Nat))(hTE : ∀t i, TE t = some i -> bU P t i)(hf : P.funcs[f]? = some E)(hn : (E.name == "runtime.NumGoroutine") = false)(a:E.body=some c){ck:Nat->Array Oper->Bool}{D:ew->Nat->Array Oper->((Nat->AV)->Prop)->(Nat->AV)->Prop}(hD:∀N,tn P N ck (D N))(hc:eZ ck c=true)(hN:A.length+(E.ntmps - A.length)=n)(hok:DJ (AI 0 A Q)=true)(hsh:sh=true\/gv rcs)(hp:∀(u:Nat->Nat->Value)(p:Nat->Value),aw P TE ⟨n,Fe p 0 A,mo⟩ (D ⟨n,Fe p 0 A,mo⟩) c (LE TE E.results.toList k rcs u A B Q) (lay (tT u 0 A))):aQ P f sh A B k rcs:=by
 refine⟨⟨E,hf,hn,by rw[a];rfl⟩,λw S V r hS hV hVd hA=>?_⟩;have hlen:=EP hA;refine calls_of_wp hf a ?_
 let u:Nat->Nat->Value:=λi=>celF (r.getD i undef)
 let p:Nat->Value:=λi=>r.getD i undef
 have htv:∀t v,r[t]? = some v->tvs {tmps:=r.toArray++Array.replicate (E.ntmps - r.toArray.size) undef,defers:=[]} t=v:=λt v l=>by
  have H:=(P1.1 l).1;simp only[tvs,Q4];rw[Array.getElem?_append_left (by simpa using H)];simp only[List.getElem?_toArray];rw[l];rfl
 have hst:St w (λb o=>∃i,V i b o) S ⟨n,Fe p 0 A,mo⟩ (lay (tT u 0 A)) {tmps:=r.toArray++Array.replicate (E.ntmps - r.toArray.size) undef,defers:=[]} w:=by
  refine⟨S,V,λt=>?_,hVd,λt b o h=>(hV t b o h).2,λt b o h=>⟨(hV t b o h).1,.inr ⟨t,h⟩⟩,λ_ _ h=>h,λb o h=>⟨hS b o h,.inl h⟩,CS _ _,by simp;omega,rfl,λq hq=>?_⟩
  ·rcases x9 (u:=u) 0 hA t with J|⟨m,v,-,l,h2',G,U⟩
   ·rw[J];trivial
   ·rw[G]
    rw[Nat.sub_zero]at l U;rw[htv t v l];have hu:u t=celF v:=by show celF (r.getD t undef)=_;rw[List.getD,l];rfl
    cases m with
    | val O K=>exact(bN.mono (show bN w S NO O K v from U) (λ_ _ h=>h) (λ_ _ h=>h.elim)).slot
    | «mut» O K=>
     obtain⟨e1,e2,e3⟩:=bN.celF (show bN w S (V t) O K v from U);refine bN.slot ⟨by rw[my];exact e1,celF v,e2,?_⟩;rw[hu];exact e3.tag
    | ptr K=>exact U
  ·obtain⟨-,J,l⟩:=E5 hq
   rw[l];have H:q.1<r.length:=ω
   refine htv _ _ ?_;show r[q.1]? = some (r.getD q.1 undef);rw[List.getD,O1 H];rfl
 refine gH hTE (hD _) c hc _ _ _ _ w (hp u p) hst λe F' W y he hs'=>?_
 obtain⟨S',φ',h⟩:=hs';have fin:resA TE F' E.results.toList (sles (AI 0 A Q)) (λsh K=>aP (iO sh) k K rcs (gE u F' 0 A Q B))->W.defers=[]/\∃v,(results E W.tmps).run P y=.ok v y/\(∃v',Ending.returned v=.returned v'/\bE (λb o=>∃i,V i b o) w y/\∃(X:ab)(Z:Nat->ab)(S1:ab),
     (∀b o,X b o->(∃i,V i b o)\/(b<y.heap.size/\w.heap.size<=b))/\(∀i b o,Z i b o->(∃i,V i b o)\/(b<y.heap.size/\w.heap.size<=b))/\
     (∀b o,S1 b o->(sh=true/\S b o)\/(∃i,V i b o)\/(b<y.heap.size/\w.heap.size<=b))/\
     (∀i i',i≠i'->∀b o,Z i b o->¬Z i' b o)/\(∀i b o,X b o->¬Z i b o)/\(∀b o,X b o->¬S1 b o)/\(∀i b o,Z i b o->¬S1 b o)/\
     eY y NO k rcs.length v'/\cG y S1 X rcs (bQ y k v')/\zC y (λb o=>S b o\/S1 b o) Z B r):=by
  intro hr;obtain⟨shs,K,d,u',hfin,hrun,M,hln,hL,hcells,L,hrow⟩:=h.resA hTE hr;obtain⟨rfl,rfl,R⟩:=hfin.out;refine⟨h.defers,?_⟩;have T:(results E W.tmps).run P y=.ok (if h:d.toArray.size=1 then d.toArray[0] else .tuple d.toArray) y:=by
   have e:results E W.tmps=(do let r <-E.results.mapM (Av W.tmps);pure (if h:r.size=1 then r[0] else .tuple r)):=by
    unfold results
    congr 1
   rw[e,<-Array.toArray_toList (xs:=E.results),List.mapM_toArray];simp only[Sem.run_bind,Sem.run_map,hrun,Result.andThen_ok,Sem.run_pure]
  have hex:∀t b o,φ' t b o->(∃i,V i b o)\/(b<y.heap.size/\w.heap.size<=b):=λt b o a=>(h.ex t b o a).2.elim (λh'=>.inr ⟨(h.ex t b o a).1,h'⟩) .inl
  have hsameS:bh S w y:=λb o a=>by
   have H:=hS b o a;exact⟨h.old.cel b o H (λ⟨i,hi⟩=>(hV i b o hi).2 a),h.old.fro b o H (λ⟨i,hi⟩=>(hV i b o hi).2 a)⟩
  have hm:=h.backs (u:=u) hsameS h.sub hA (λj v hj=>by show celF (r.getD (0+j) undef)=_;rw[U4,List.getD,hj];rfl) (λj v K hj hc=>by
    have:=h.par _ (Ey (p:=p) (i:=0) hc);rw[this];show r.getD (0+j) undef=v;rw[U4,List.getD,hj];rfl) R
  refine⟨_,T,_,rfl,h.old,λb o=>∃t,t∉sles (AI 0 A Q)/\φ' t b o,λi=>Lv φ' (AI 0 A Q)[i]?,λb o=>(sh=true/\S' b o)\/(S' b o/\((∃i,V i b o)\/w.heap.size<=b)),λb o ⟨t,_,a⟩=>hex t b o a,λi b o a=>?_,λb o a=>?_,λi i' hne b o a g=>?_,λi b o ⟨t,ht,a⟩ g=>?_,λb o ⟨t,_,a⟩ g=>h.disS t b o a (g.elim (·.2) (·.1)),λi b o a g=>?_,?_⟩
  ·obtain⟨t,-,a⟩:=vr a
   exact hex t b o a
  ·rcases a with⟨J,l⟩|⟨J,l⟩
   ·rcases(h.sup b o l).2 with G|G|G
    ·exact .inl ⟨J,G⟩
    ·exact .inr (.inr ⟨(h.sup b o l).1,G⟩)
    ·exact .inr (.inl G)
   ·rcases l with l|l
    ·exact .inr (.inl l)
    ·exact .inr (.inr ⟨(h.sup b o J).1,l⟩)
  ·obtain⟨t,e1,a⟩:=vr a
   obtain⟨t',e2,g⟩:=vr g;exact h.dis t t' (rn hok i i' t t' hne e1 e2) b o a g
  ·obtain⟨t',e2,g⟩:=vr g
   exact h.dis t t' (λe=>ht (by rw[e];exact tP e2)) b o a g
  ·obtain⟨t,-,a⟩:=vr a
   exact h.disS t b o a (g.elim (·.2) (·.1))
  ·have hk:eY y NO (iO shs) K.length (if h:d.toArray.size=1 then d.toArray[0] else .tuple d.toArray)/\cG y S' (λb o=>∃t,t∉sles (AI 0 A Q)/\φ' t b o) K (bQ y (iO shs) (if h:d.toArray.size=1 then d.toArray[0] else .tuple d.toArray)):=by
    match shs,M,L,hL with
    | [],M,_,hL=>
     cases d with
     | cons _ _=>exact M.elim
     | nil=>
      have:K=[]:=Y4 (by simpa[oc] using hL.symm);subst this;exact⟨⟨_,rfl,trivial,rfl⟩,cG.nil _ _ _ _⟩
    | [O],_,L,_=>
     obtain⟨v,rfl,hv⟩:=L O rfl;have:=hv.slot (F:=F') (tv:=tvs W);obtain⟨X1,Y,J,l,G,U,h5⟩:=this;refine⟨?_,h5.mono (λ_ _ h=>h) l⟩;cases O<;>exact U
    | O::ag2::sh,M,_,hL=>
     have hsz:¬d.toArray.size=1:=by
      match d,M with
      | [],M=>simp
      | [v],M=>cases O<;>cases ag2<;>exact M.2.elim
      | _::_::_,_=>simp
     rw[dif_neg hsz];refine⟨⟨_,rfl,M,hL⟩,hrow.congr λj hj=>?_⟩;simp only[bQ,iO,kN,hcells];simp[List.getD,hj]
   refine⟨hk.1,?_,hm.mono λb o a=>?_⟩
   ·rcases hsh with J|J
    ·exact hk.2.mono (λb o a=>.inl ⟨J,a⟩) (λ_ _ h=>h)
    ·exact(hk.2.fresh J).mono (λ_ _ h=>h.elim) (λ_ _ h=>h)
   ·rcases(h.sup b o a).2 with G|G|G
    ·exact .inl G
    ·exact .inr (.inr ⟨a,.inr G⟩)
    ·exact .inr (.inr ⟨a,.inl G⟩)
 cases e with
 | normal=>exact fin he
 | ret=>exact fin he
 | _=>exact he.elim
end
abbrev I(z:Int):C:=.v (.int .i64 z)
abbrev B(b:Bool):C:=.v (.bool b)
def rI(_:du)(z:Int):List C:=[I z]
def rB(_:du)(b:Bool):List C:=[B b]
theorem nX(z:Int):gv (rI .own z):=⟨trivial,trivial⟩
theorem Ae(b:Bool):gv (rB .own b):=⟨trivial,trivial⟩
def kX(z:Int):Prop:=-9223372036854775808<=z/\z<=9223372036854775807
def MX(_:Bool):Prop:=True
theorem pb : Tryz.prog.follows .mixedOrders=true:=by kernel_rfl
theorem Mz{n f : Nat}{mo : List (Nat × List Nat)}{a : Func}{c : Code}{sh : Bool}{A : List RA}{k : Kd}{rcs : List C}(d : Tryz.prog.funcs[f]? = some a)(e : (a.name == "runtime.NumGoroutine") = false)(g : a.body = some c){tb : List (Nat × Nat × List Nat)}(h : eZ (lW tb) c = true)(i:A.length+(a.ntmps - A.length)=n)(b:sh=true\/gv rcs)(j:aw Tryz.prog TE ⟨n,[],mo⟩ (DF Tryz.prog TE ⟨n,[],mo⟩ tb) c (Kl TE a.results.toList k rcs) (lay (sJ 0 A))):ao Tryz.prog f sh A k rcs:=
 Gj xJ d e g (o8 xJ pb ⟨n,[],mo⟩ tb) h i rfl b j
theorem Mn{n f : Nat}{mo : List (Nat × List Nat)}{a : Func}{c : Code}{sh : Bool}{A B : List MA}{k : Kd}{rcs : List C}(b : List (Nat × Nat))(g : Tryz.prog.funcs[f]? = some a)(h : (a.name == "runtime.NumGoroutine") = false)(i : a.body = some c){tb : List (Nat × Nat × List Nat)}(j : eZ (lW tb) c = true)(l:A.length+(a.ntmps - A.length)=n)(d:DJ (AI 0 A b)=true)(e:sh=true\/gv rcs)(o:∀(u:Nat->Nat->Value)(p:Nat->Value),aw Tryz.prog TE ⟨n,Fe p 0 A,mo⟩ (DF Tryz.prog TE ⟨n,Fe p 0 A,mo⟩ tb) c (LE TE a.results.toList k rcs u A B b) (lay (tT u 0 A))):aQ Tryz.prog f sh A B k rcs:=
 Fx b xJ g h i (λN=>o8 xJ pb N tb) j l d e o
theorem M9{n f t : Nat}{mo : List (Nat × List Nat)}{a : Func}{c : Code}{A : List RA}{rcs : List C}(b : Tryz.prog.funcs[f]? = some a)(d : (a.name == "runtime.NumGoroutine") = false)(e : a.body = some c){tb : List (Nat × Nat × List Nat)}(g : eZ (lW tb) c = true)(h:A.length+(a.ntmps - A.length)=n)(i:a.results = #[.tmp t])(j:aw Tryz.prog TE ⟨n,[],mo⟩ (DF Tryz.prog TE ⟨n,[],mo⟩ tb) c (M5 t rcs) (lay (sJ 0 A))):oM Tryz.prog f true A .box rcs:=
 FG xJ b d e (o8 xJ pb ⟨n,[],mo⟩ tb) g h rfl i j
theorem er{x:Int}(h1 : -9223372036854775808<=x)(a:x<=9223372036854775807):IntKind.i64.wrap x=x:=IntWalk.i64_in x (by constructor<;>assumption)
def Jw:RA->RA->Prop
 | .val ag cs,.val ag' cs'=>ag=ag'/\cs=cs'
 | .ptr cs,.ptr cs'=>cs=cs'
 | A,a=>A=a
theorem Jw.eq{A a:RA}(h:Jw A a):A=a:=by
 unfold Jw at h;split at h
 ·obtain⟨rfl,rfl⟩:=h;rfl
 ·rw[h]
 ·exact h
def Bm:List RA->List RA->Prop
 | [],[]=>True
 | A::As,B::Bs=>Jw A B/\Bm As Bs
 | _,_=>False
theorem Bm.eq:∀{A a:List RA},Bm A a->A=a
 | [],[],_=>rfl
 | A::As,B::Bs,h=>by rw[Jw.eq h.1,Bm.eq h.2]
 | [],_::_,h=>h.elim
 | _::_,[],h=>h.elim
theorem Cl.eq{P:Program}{f:Nat}{b:Bool}{A a:List RA}{K:AV->Prop}{k:Kd}{rcs:List C}(h:ao P f false a k rcs)(c:Bm A a)(d:K (.hold k rcs)):Cl P f b A K:=by rw[c.eq];exact C5 h d
theorem CD:type_of% @Cl.eq:=@Cl.eq
theorem vL{n b:Nat}(h:n<=1048576)(a:b<=1000):n*b<=140737488355328:=R3 (Nat.mul_le_mul h a) (by decide)
theorem Bf.NB{a b:Bool}{X Y:Prop}(h1:a≠b->X)(c:a=b->Y):Bf (a != b) X Y:=by
 refine Bf.P (λh=>h1 ?_) (λh=>c ?_)
 ·simpa using h
 ·simpa using h
theorem Rw.one{a:List C}{off i k j:Nat}{K:List C->Nat->Prop}{o:du}{rows:List (List C)}{r:List C}(h1:a[off]? = some (.s o rows))(b:rows[i]? = some r)(c:r.length=k)(d:K r j):Rw a off [(i,k,j)] K:=
 Rw.mk (r:=r) (j:=j) (by simp[bO,h1,b,c]) d
theorem CE:type_of% @Rw.one:=@Rw.one
section
variable{α:Type}{A B:List α}
end
theorem aa{α β:Type}{f:α->β}{l:List α}{k:Nat}{x:α}(h:l[k]? = some x):(l.map f)[k]? = some (f x):=by simp[h]
def aF(o:du)(x:List Int):List C:=[.s o (x.map (rI o))]
theorem dz(x:List Int):d5 (aF .own x)=aF .imm x:=by simp[d5,aF,rI,d5]
theorem bM(x:List Int):gv (aF .own x):=⟨⟨.inl λh=>(by cases h),aY _ _ λy _=>nX y⟩,trivial⟩
def im(x:List Int):Prop:=x.length<=9223372036854775807/\∀y∈x,kX y
def pw(x:List Int):Prop:=x.length<=1048576
def k7(o:du)(x:List (List Int)):List C:=[.s o (x.map (aF o))]
theorem Mg(x:List (List Int)):d5 (k7 .own x)=k7 .imm x:=by simp[d5,k7,dz,<-bS,v4]
def zj(x:List (List Int)):Prop:=x.length<=9223372036854775807/\∀y∈x,im y
def kV(x:List (List Int)):Prop:=x.length<=1048576/\∀y∈x,pw y
def y9(o:du)(x:List Bool):List C:=[.s o (x.map (rB o))]
def Kg(x:List Bool):Prop:=x.length<=9223372036854775807/\∀y∈x,MX y
def AR(x:List Bool):Prop:=x.length<=1048576
structure aZ where
 Cells:List (List Int)
 Used:List Bool
deriving DecidableEq,Inhabited
def aZ.enc(o:du)(x:aZ):List C:=[.s o (x.Cells.map (aF o)),.s o (x.Used.map (rB o))]
theorem aZ.enc_fz(x:aZ):d5 (aZ.enc .own x)=aZ.enc .imm x:=by simp[d5,aZ.enc,rB,dz,<-bS,v4]
theorem aZ.enc_fr(x:aZ):gv (aZ.enc .own x):=⟨⟨.inl λh=>(by cases h),aY _ _ λy _=>bM y⟩,⟨.inl λh=>(by cases h),aY _ _ λy _=>Ae y⟩,trivial⟩
def aZ.wf(x:aZ):Prop:=zj x.Cells/\Kg x.Used
def aZ.sml(x:aZ):Prop:=kV x.Cells/\AR x.Used
structure bj where
 Mode:Int
 Frame:Int
deriving DecidableEq,Inhabited
def bj.enc(o:du)(x:bj):List C:=[I x.Mode,I x.Frame]
theorem bj.enc_fz(x:bj):d5 (bj.enc .own x)=bj.enc .imm x:=by simp[d5,bj.enc]
theorem bj.enc_fr(x:bj):gv (bj.enc .own x):=⟨trivial,trivial,trivial⟩
def bj.wf(x:bj):Prop:=kX x.Mode/\kX x.Frame
def bj.sml(_:bj):Prop:=True
def Ay(o:du)(x:List bj):List C:=[.s o (x.map (bj.enc o))]
def Gz(x:List bj):Prop:=x.length<=9223372036854775807/\∀y∈x,bj.wf y
def uT(x:List bj):Prop:=x.length<=1048576/\∀y∈x,bj.sml y
structure aG where
 Entries:List bj
deriving DecidableEq,Inhabited
def aG.enc(o:du)(x:aG):List C:=[.s o (x.Entries.map (bj.enc o))]
theorem aG.enc_fz(x:aG):d5 (aG.enc .own x)=aG.enc .imm x:=by simp[d5,aG.enc,bj.enc_fz,<-bS,v4]
theorem CT:type_of% @aG.enc_fz:=@aG.enc_fz
theorem aG.enc_fr(x:aG):gv (aG.enc .own x):=⟨⟨.inl λh=>(by cases h),aY _ _ λy _=>bj.enc_fr y⟩,trivial⟩
def aG.wf(x:aG):Prop:=Gz x.Entries
def aG.sml(x:aG):Prop:=uT x.Entries
structure aS where
 Frames:aZ
 Table:aG
deriving DecidableEq,Inhabited
def aS.enc(o:du)(x:aS):List C:=[.s o (x.Frames.Cells.map (aF o)),.s o (x.Frames.Used.map (rB o)),.s o (x.Table.Entries.map (bj.enc o))]
theorem aS.enc_fz(x:aS):d5 (aS.enc .own x)=aS.enc .imm x:=by simp[d5,aS.enc,bj.enc_fz,rB,dz,<-bS,v4]
theorem aS.enc_fr(x:aS):gv (aS.enc .own x):=⟨⟨.inl λh=>(by cases h),aY _ _ λy _=>bM y⟩,⟨.inl λh=>(by cases h),aY _ _ λy _=>Ae y⟩,⟨.inl λh=>(by cases h),aY _ _ λy _=>bj.enc_fr y⟩,trivial⟩
def aS.wf(x:aS):Prop:=aZ.wf x.Frames/\aG.wf x.Table
def aS.sml(x:aS):Prop:=aZ.sml x.Frames/\aG.sml x.Table
structure af where
 Machine:aS
 Calls:Int
 Refuse:List Int
deriving DecidableEq,Inhabited
def af.enc(o:du)(x:af):List C:=[.s o (x.Machine.Frames.Cells.map (aF o)),.s o (x.Machine.Frames.Used.map (rB o)),.s o (x.Machine.Table.Entries.map (bj.enc o)),I x.Calls,.s o (x.Refuse.map (rI o))]
theorem af.enc_fz(x:af):d5 (af.enc .own x)=af.enc .imm x:=by simp[d5,af.enc,bj.enc_fz,rB,rI,dz,<-bS,v4]
theorem CL:type_of% @af.enc_fz:=@af.enc_fz
theorem af.enc_fr(x:af):gv (af.enc .own x):=⟨⟨.inl λh=>(by cases h),aY _ _ λy _=>bM y⟩,⟨.inl λh=>(by cases h),aY _ _ λy _=>Ae y⟩,⟨.inl λh=>(by cases h),aY _ _ λy _=>bj.enc_fr y⟩,trivial,⟨.inl λh=>(by cases h),aY _ _ λy _=>nX y⟩,trivial⟩
def af.wf(x:af):Prop:=aS.wf x.Machine/\kX x.Calls/\im x.Refuse
def af.sml(x:af):Prop:=aS.sml x.Machine/\pw x.Refuse
structure a7 where
 At:Int
 Len:Int
deriving DecidableEq,Inhabited
def a7.enc(o:du)(x:a7):List C:=[I x.At,I x.Len]
theorem a7.enc_fz(x:a7):d5 (a7.enc .own x)=a7.enc .imm x:=by simp[d5,a7.enc]
theorem a7.enc_fr(x:a7):gv (a7.enc .own x):=⟨trivial,trivial,trivial⟩
def a7.wf(x:a7):Prop:=kX x.At/\kX x.Len
def a7.sml(_:a7):Prop:=True
def bF(o:du)(x:List a7):List C:=[.s o (x.map (a7.enc o))]
theorem d8(x:List a7):d5 (bF .own x)=bF .imm x:=by simp[d5,bF,a7.enc_fz,<-bS,v4]
theorem mG(x:List a7):gv (bF .own x):=⟨⟨.inl λh=>(by cases h),aY _ _ λy _=>a7.enc_fr y⟩,trivial⟩
def G3(x:List a7):Prop:=x.length<=9223372036854775807/\∀y∈x,a7.wf y
def gw(x:List a7):Prop:=x.length<=1048576/\∀y∈x,a7.sml y
structure au where
 Page:Int
 Class:Int
 Bits:Int
deriving DecidableEq,Inhabited
def au.enc(o:du)(x:au):List C:=[I x.Page,I x.Class,I x.Bits]
theorem au.enc_fz(x:au):d5 (au.enc .own x)=au.enc .imm x:=by simp[d5,au.enc]
theorem au.enc_fr(x:au):gv (au.enc .own x):=⟨trivial,trivial,trivial,trivial⟩
def au.wf(x:au):Prop:=kX x.Page/\kX x.Class/\kX x.Bits
def au.sml(_:au):Prop:=True
def bX(o:du)(x:List au):List C:=[.s o (x.map (au.enc o))]
theorem tf(x:List au):d5 (bX .own x)=bX .imm x:=by simp[d5,bX,au.enc_fz,<-bS,v4]
theorem DO(x:List au):gv (bX .own x):=⟨⟨.inl λh=>(by cases h),aY _ _ λy _=>au.enc_fr y⟩,trivial⟩
def HS(x:List au):Prop:=x.length<=9223372036854775807/\∀y∈x,au.wf y
def dc(x:List au):Prop:=x.length<=1048576/\∀y∈x,au.sml y
structure a8 where
 Page:Int
 Pages:Int
 Size:Int
deriving DecidableEq,Inhabited
def a8.enc(o:du)(x:a8):List C:=[I x.Page,I x.Pages,I x.Size]
theorem a8.enc_fz(x:a8):d5 (a8.enc .own x)=a8.enc .imm x:=by simp[d5,a8.enc]
theorem a8.enc_fr(x:a8):gv (a8.enc .own x):=⟨trivial,trivial,trivial,trivial⟩
def a8.wf(x:a8):Prop:=kX x.Page/\kX x.Pages/\kX x.Size
def a8.sml(_:a8):Prop:=True
def bV(o:du)(x:List a8):List C:=[.s o (x.map (a8.enc o))]
theorem zH(x:List a8):d5 (bV .own x)=bV .imm x:=by simp[d5,bV,a8.enc_fz,<-bS,v4]
def FB(x:List a8):Prop:=x.length<=9223372036854775807/\∀y∈x,a8.wf y
def dm(x:List a8):Prop:=x.length<=1048576/\∀y∈x,a8.sml y
structure bG where
 Id:Int
 Addr:Int
 Size:Int
 Thread:Int
deriving DecidableEq,Inhabited
def bG.enc(o:du)(x:bG):List C:=[I x.Id,I x.Addr,I x.Size,I x.Thread]
theorem bG.enc_fz(x:bG):d5 (bG.enc .own x)=bG.enc .imm x:=by simp[d5,bG.enc]
theorem bG.enc_fr(x:bG):gv (bG.enc .own x):=⟨trivial,trivial,trivial,trivial,trivial⟩
def bG.wf(x:bG):Prop:=kX x.Id/\kX x.Addr/\kX x.Size/\kX x.Thread
def bG.sml(_:bG):Prop:=True
def mN(o:du)(x:List bG):List C:=[.s o (x.map (bG.enc o))]
theorem G1(x:List bG):d5 (mN .own x)=mN .imm x:=by simp[d5,mN,bG.enc_fz,<-bS,v4]
def KT(x:List bG):Prop:=x.length<=9223372036854775807/\∀y∈x,bG.wf y
def GF(x:List bG):Prop:=x.length<=1048576/\∀y∈x,bG.sml y
structure aB where
 Lists:List (List Int)
deriving DecidableEq,Inhabited
def aB.enc(o:du)(x:aB):List C:=[.s o (x.Lists.map (aF o))]
theorem aB.enc_fz(x:aB):d5 (aB.enc .own x)=aB.enc .imm x:=by simp[d5,aB.enc,dz,<-bS,v4]
theorem aB.enc_fr(x:aB):gv (aB.enc .own x):=⟨⟨.inl λh=>(by cases h),aY _ _ λy _=>bM y⟩,trivial⟩
def aB.wf(x:aB):Prop:=zj x.Lists
def aB.sml(x:aB):Prop:=kV x.Lists
def pI(o:du)(x:List aB):List C:=[.s o (x.map (aB.enc o))]
def Gq(x:List aB):Prop:=x.length<=9223372036854775807/\∀y∈x,aB.wf y
def va(x:List aB):Prop:=x.length<=1048576/\∀y∈x,aB.sml y
structure cP where
 To:Int
 Addr:Int
deriving DecidableEq,Inhabited
def cP.enc(o:du)(x:cP):List C:=[I x.To,I x.Addr]
theorem cP.enc_fz(x:cP):d5 (cP.enc .own x)=cP.enc .imm x:=by simp[d5,cP.enc]
theorem cP.enc_fr(x:cP):gv (cP.enc .own x):=⟨trivial,trivial,trivial⟩
def cP.wf(x:cP):Prop:=kX x.To/\kX x.Addr
def cP.sml(_:cP):Prop:=True
def cL(o:du)(x:List cP):List C:=[.s o (x.map (cP.enc o))]
theorem oH(x:List cP):d5 (cL .own x)=cL .imm x:=by simp[d5,cL,cP.enc_fz,<-bS,v4]
theorem oS(x:List cP):gv (cL .own x):=⟨⟨.inl λh=>(by cases h),aY _ _ λy _=>cP.enc_fr y⟩,trivial⟩
def HK(x:List cP):Prop:=x.length<=9223372036854775807/\∀y∈x,cP.wf y
def Fh(x:List cP):Prop:=x.length<=1048576/\∀y∈x,cP.sml y
def AF(o:du)(x:List (List cP)):List C:=[.s o (x.map (cL o))]
def F8(x:List (List cP)):Prop:=x.length<=9223372036854775807/\∀y∈x,HK y
def v6(x:List (List cP)):Prop:=x.length<=1048576/\∀y∈x,Fh y
structure aJ where
 Buffers:List (List cP)
 Inbox:List (List Int)
deriving DecidableEq,Inhabited
def aJ.enc(o:du)(x:aJ):List C:=[.s o (x.Buffers.map (cL o)),.s o (x.Inbox.map (aF o))]
theorem aJ.enc_fz(x:aJ):d5 (aJ.enc .own x)=aJ.enc .imm x:=by simp[d5,aJ.enc,oH,dz,<-bS,v4]
theorem aJ.enc_fr(x:aJ):gv (aJ.enc .own x):=⟨⟨.inl λh=>(by cases h),aY _ _ λy _=>oS y⟩,⟨.inl λh=>(by cases h),aY _ _ λy _=>bM y⟩,trivial⟩
def aJ.wf(x:aJ):Prop:=F8 x.Buffers/\zj x.Inbox
def aJ.sml(x:aJ):Prop:=v6 x.Buffers/\kV x.Inbox
structure aM where
 Addr:Int
 Class:Int
 Since:Int
deriving DecidableEq,Inhabited
def aM.enc(o:du)(x:aM):List C:=[I x.Addr,I x.Class,I x.Since]
theorem aM.enc_fz(x:aM):d5 (aM.enc .own x)=aM.enc .imm x:=by simp[d5,aM.enc]
theorem aM.enc_fr(x:aM):gv (aM.enc .own x):=⟨trivial,trivial,trivial,trivial⟩
def aM.wf(x:aM):Prop:=kX x.Addr/\kX x.Class/\kX x.Since
def aM.sml(_:aM):Prop:=True
def cu(o:du)(x:List aM):List C:=[.s o (x.map (aM.enc o))]
theorem zI(x:List aM):d5 (cu .own x)=cu .imm x:=by simp[d5,cu,aM.enc_fz,<-bS,v4]
theorem rF(x:List aM):gv (cu .own x):=⟨⟨.inl λh=>(by cases h),aY _ _ λy _=>aM.enc_fr y⟩,trivial⟩
def F6(x:List aM):Prop:=x.length<=9223372036854775807/\∀y∈x,aM.wf y
def jr(x:List aM):Prop:=x.length<=1048576/\∀y∈x,aM.sml y
structure bC where
 Room:Int
 Lst:List aM
deriving DecidableEq,Inhabited
def bC.enc(o:du)(x:bC):List C:=[I x.Room,.s o (x.Lst.map (aM.enc o))]
theorem bC.enc_fz(x:bC):d5 (bC.enc .own x)=bC.enc .imm x:=by simp[d5,bC.enc,aM.enc_fz,<-bS,v4]
theorem bC.enc_fr(x:bC):gv (bC.enc .own x):=⟨trivial,⟨.inl λh=>(by cases h),aY _ _ λy _=>aM.enc_fr y⟩,trivial⟩
def bC.wf(x:bC):Prop:=kX x.Room/\F6 x.Lst
def bC.sml(x:bC):Prop:=jr x.Lst
structure cr where
 Keep:Int
 Move:Int
 Cells:List Int
deriving DecidableEq,Inhabited
def cr.enc(o:du)(x:cr):List C:=[I x.Keep,I x.Move,.s o (x.Cells.map (rI o))]
theorem cr.enc_fz(x:cr):d5 (cr.enc .own x)=cr.enc .imm x:=by simp[d5,cr.enc,rI,<-bS,v4]
theorem cr.enc_fr(x:cr):gv (cr.enc .own x):=⟨trivial,trivial,⟨.inl λh=>(by cases h),aY _ _ λy _=>nX y⟩,trivial⟩
def cr.wf(x:cr):Prop:=kX x.Keep/\kX x.Move/\im x.Cells
def cr.sml(x:cr):Prop:=pw x.Cells
structure cF where
 Plan:cr
 Phase:Int
 Next:Int
deriving DecidableEq,Inhabited
def cF.enc(o:du)(x:cF):List C:=[I x.Plan.Keep,I x.Plan.Move,.s o (x.Plan.Cells.map (rI o)),I x.Phase,I x.Next]
theorem cF.enc_fz(x:cF):d5 (cF.enc .own x)=cF.enc .imm x:=by simp[d5,cF.enc,rI,<-bS,v4]
theorem cF.enc_fr(x:cF):gv (cF.enc .own x):=⟨trivial,trivial,⟨.inl λh=>(by cases h),aY _ _ λy _=>nX y⟩,trivial,trivial,trivial⟩
def cF.wf(x:cF):Prop:=cr.wf x.Plan/\kX x.Phase/\kX x.Next
def cF.sml(x:cF):Prop:=cr.sml x.Plan
structure ac where
 Kernel:af
 Free:List a7
 Spans:List au
 Larges:List a8
 Objs:List bG
 Caches:List aB
 Mail:aJ
 Quar:bC
 Seed:Int
 Clock:Int
 Limit:Int
 Next:Int
 Meshing:Bool
 Job:cF
deriving DecidableEq,Inhabited
def ac.enc(o:du)(x:ac):List C:=[.s o (x.Kernel.Machine.Frames.Cells.map (aF o)),.s o (x.Kernel.Machine.Frames.Used.map (rB o)),.s o (x.Kernel.Machine.Table.Entries.map (bj.enc o)),I x.Kernel.Calls,.s o (x.Kernel.Refuse.map (rI o)),.s o (x.Free.map (a7.enc o)),.s o (x.Spans.map (au.enc o)),.s o (x.Larges.map (a8.enc o)),.s o (x.Objs.map (bG.enc o)),.s o (x.Caches.map (aB.enc o)),.s o (x.Mail.Buffers.map (cL o)),.s o (x.Mail.Inbox.map (aF o)),I x.Quar.Room,.s o (x.Quar.Lst.map (aM.enc o)),I x.Seed,I x.Clock,I x.Limit,I x.Next,B x.Meshing,I x.Job.Plan.Keep,I x.Job.Plan.Move,.s o (x.Job.Plan.Cells.map (rI o)),I x.Job.Phase,I x.Job.Next]
theorem ac.enc_fz(x:ac):d5 (ac.enc .own x)=ac.enc .imm x:=by simp[d5,ac.enc,aB.enc_fz,bj.enc_fz,a8.enc_fz,bG.enc_fz,a7.enc_fz,au.enc_fz,aM.enc_fz,rB,oH,rI,dz,<-bS,v4]
theorem ac.enc_fr(x:ac):gv (ac.enc .own x):=⟨⟨.inl λh=>(by cases h),aY _ _ λy _=>bM y⟩,⟨.inl λh=>(by cases h),aY _ _ λy _=>Ae y⟩,⟨.inl λh=>(by cases h),aY _ _ λy _=>bj.enc_fr y⟩,trivial,⟨.inl λh=>(by cases h),aY _ _ λy _=>nX y⟩,⟨.inl λh=>(by cases h),aY _ _ λy _=>a7.enc_fr y⟩,⟨.inl λh=>(by cases h),aY _ _ λy _=>au.enc_fr y⟩,⟨.inl λh=>(by cases h),aY _ _ λy _=>a8.enc_fr y⟩,⟨.inl λh=>(by cases h),aY _ _ λy _=>bG.enc_fr y⟩,⟨.inl λh=>(by cases h),aY _ _ λy _=>aB.enc_fr y⟩,⟨.inl λh=>(by cases h),aY _ _ λy _=>oS y⟩,⟨.inl λh=>(by cases h),aY _ _ λy _=>bM y⟩,trivial,⟨.inl λh=>(by cases h),aY _ _ λy _=>aM.enc_fr y⟩,trivial,trivial,trivial,trivial,trivial,trivial,trivial,⟨.inl λh=>(by cases h),aY _ _ λy _=>nX y⟩,trivial,trivial,trivial⟩
def ac.wf(x:ac):Prop:=af.wf x.Kernel/\G3 x.Free/\HS x.Spans/\FB x.Larges/\KT x.Objs/\Gq x.Caches/\aJ.wf x.Mail/\bC.wf x.Quar/\kX x.Seed/\kX x.Clock/\kX x.Limit/\kX x.Next/\MX x.Meshing/\cF.wf x.Job
def ac.sml(x:ac):Prop:=af.sml x.Kernel/\gw x.Free/\dc x.Spans/\dm x.Larges/\GF x.Objs/\va x.Caches/\aJ.sml x.Mail/\bC.sml x.Quar/\cF.sml x.Job
structure ip where
 Kind:Int
 Index:Int
 Slot:Int
 Offset:Int
deriving DecidableEq,Inhabited
def ip.enc(o:du)(x:ip):List C:=[I x.Kind,I x.Index,I x.Slot,I x.Offset]
theorem ip.enc_fr(x:ip):gv (ip.enc .own x):=⟨trivial,trivial,trivial,trivial,trivial⟩
structure MY where
 Id:Int
 Size:Int
 Sum:Int
deriving DecidableEq,Inhabited
structure bB where
 Id:Int
 Cells:List Int
deriving DecidableEq,Inhabited
def bB.enc(o:du)(x:bB):List C:=[I x.Id,.s o (x.Cells.map (rI o))]
theorem bB.enc_fz(x:bB):d5 (bB.enc .own x)=bB.enc .imm x:=by simp[d5,bB.enc,rI,<-bS,v4]
theorem bB.enc_fr(x:bB):gv (bB.enc .own x):=⟨trivial,⟨.inl λh=>(by cases h),aY _ _ λy _=>nX y⟩,trivial⟩
def bB.sml(x:bB):Prop:=pw x.Cells
def AB(x:List bB):Prop:=x.length<=1048576/\∀y∈x,bB.sml y
structure ax where
 Next:Int
 Objs:List bB
deriving DecidableEq,Inhabited
def ax.enc(o:du)(x:ax):List C:=[I x.Next,.s o (x.Objs.map (bB.enc o))]
theorem ax.enc_fz(x:ax):d5 (ax.enc .own x)=ax.enc .imm x:=by simp[d5,ax.enc,bB.enc_fz,<-bS,v4]
theorem CU:type_of% @ax.enc_fz:=@ax.enc_fz
theorem ax.enc_fr(x:ax):gv (ax.enc .own x):=⟨trivial,⟨.inl λh=>(by cases h),aY _ _ λy _=>bB.enc_fr y⟩,trivial⟩
def ax.sml(x:ax):Prop:=AB x.Objs
structure bD where
 Heap:ac
 Ref:ax
deriving DecidableEq,Inhabited
def bD.enc(o:du)(x:bD):List C:=[.s o (x.Heap.Kernel.Machine.Frames.Cells.map (aF o)),.s o (x.Heap.Kernel.Machine.Frames.Used.map (rB o)),.s o (x.Heap.Kernel.Machine.Table.Entries.map (bj.enc o)),I x.Heap.Kernel.Calls,.s o (x.Heap.Kernel.Refuse.map (rI o)),.s o (x.Heap.Free.map (a7.enc o)),.s o (x.Heap.Spans.map (au.enc o)),.s o (x.Heap.Larges.map (a8.enc o)),.s o (x.Heap.Objs.map (bG.enc o)),.s o (x.Heap.Caches.map (aB.enc o)),.s o (x.Heap.Mail.Buffers.map (cL o)),.s o (x.Heap.Mail.Inbox.map (aF o)),I x.Heap.Quar.Room,.s o (x.Heap.Quar.Lst.map (aM.enc o)),I x.Heap.Seed,I x.Heap.Clock,I x.Heap.Limit,I x.Heap.Next,B x.Heap.Meshing,I x.Heap.Job.Plan.Keep,I x.Heap.Job.Plan.Move,.s o (x.Heap.Job.Plan.Cells.map (rI o)),I x.Heap.Job.Phase,I x.Heap.Job.Next,I x.Ref.Next,.s o (x.Ref.Objs.map (bB.enc o))]
theorem bD.enc_fr(x:bD):gv (bD.enc .own x):=⟨⟨.inl λh=>(by cases h),aY _ _ λy _=>bM y⟩,⟨.inl λh=>(by cases h),aY _ _ λy _=>Ae y⟩,⟨.inl λh=>(by cases h),aY _ _ λy _=>bj.enc_fr y⟩,trivial,⟨.inl λh=>(by cases h),aY _ _ λy _=>nX y⟩,⟨.inl λh=>(by cases h),aY _ _ λy _=>a7.enc_fr y⟩,⟨.inl λh=>(by cases h),aY _ _ λy _=>au.enc_fr y⟩,⟨.inl λh=>(by cases h),aY _ _ λy _=>a8.enc_fr y⟩,⟨.inl λh=>(by cases h),aY _ _ λy _=>bG.enc_fr y⟩,⟨.inl λh=>(by cases h),aY _ _ λy _=>aB.enc_fr y⟩,⟨.inl λh=>(by cases h),aY _ _ λy _=>oS y⟩,⟨.inl λh=>(by cases h),aY _ _ λy _=>bM y⟩,trivial,⟨.inl λh=>(by cases h),aY _ _ λy _=>aM.enc_fr y⟩,trivial,trivial,trivial,trivial,trivial,trivial,trivial,⟨.inl λh=>(by cases h),aY _ _ λy _=>nX y⟩,trivial,trivial,trivial,⟨.inl λh=>(by cases h),aY _ _ λy _=>bB.enc_fr y⟩,trivial⟩
structure M8 where
 Pages:Int
 Mapped:Int
 Frames:Int
 Held:Int
 kG:Int
 Cached:Int
 Stale:Int
 Posted:Int
deriving DecidableEq,Inhabited
theorem Lm{α β:Type}{f:α->β}{l:List α}{K:Nat->Prop}(h:K l.length):Ln (l.map f).length K:=Ln.mk (T0 ..) h
theorem Wm{z:Int}{K:Int->Prop}(h : -9223372036854775808<=z/\z<=9223372036854775807)(a:K z):Wr .i64 z K:=CH (er h.1 h.2) a
theorem dT{p:Prop}[Decidable p]{X Y:Prop}(h:p)(a:p->X):Bf (decide p) X Y:=.D a λe=>absurd h e
theorem dF{p:Prop}[Decidable p]{X Y:Prop}(h:¬p)(a:¬p->Y):Bf (decide p) X Y:=.D (λe=>absurd e h) a
theorem nT{a b:Int}{X Y:Prop}(h:a≠b)(c:a≠b->X):Bf (a != b) X Y:=.N c λe=>absurd e h
theorem nF{a b:Int}{X Y:Prop}(h:a=b)(c:a=b->Y):Bf (a != b) X Y:=.N (λe=>absurd h e) c
theorem eT{a b:Int}{X Y:Prop}(h:a=b)(c:a=b->X):Bf (a == b) X Y:=.E c λe=>absurd h e
theorem eF{a b:Int}{X Y:Prop}(h:a≠b)(c:a≠b->Y):Bf (a == b) X Y:=.E (λe=>absurd e h) c
theorem Bn{b:Bool}{X Y:Prop}(h:Bf b Y X):Bf (!b) X Y:=.not h
theorem Bt{X Y:Prop}(h:X):Bf true X Y:=.t rfl h
theorem Bu{X Y:Prop}(h:Y):Bf false X Y:=.f rfl h
theorem Fm{k b:Kd}{cs a:List C}(h1:k=b)(h:cs=a):io k b cs a:=.mk h1 h
theorem dV{p:Prop}[Decidable p]{X Y:Prop}(h:p)(a:X):Bf (decide p) X Y:=.D (λ_=>a) λe=>absurd h e
theorem dW{p:Prop}[Decidable p]{X Y:Prop}(h:¬p)(a:Y):Bf (decide p) X Y:=.D (λe=>absurd e h) λ_=>a
theorem nV{a b:Int}{X Y:Prop}(h:a≠b)(c:X):Bf (a != b) X Y:=.N (λ_=>c) λe=>absurd e h
theorem nW{a b:Int}{X Y:Prop}(h:a=b)(c:Y):Bf (a != b) X Y:=.N (λe=>absurd h e) λ_=>c
theorem eV{a b:Int}{X Y:Prop}(h:a=b)(c:X):Bf (a == b) X Y:=.E (λ_=>c) λe=>absurd h e
theorem eW{a b:Int}{X Y:Prop}(h:a≠b)(c:Y):Bf (a == b) X Y:=.E (λe=>absurd e h) λ_=>c
structure LI(Y:Prop):Prop where
 out:Y
theorem gO{X Y:Prop}(y:Y)(h:LI Y->X:=by intro y;(conv=>whnf);(first|with_reducible (first|refine Lm ?_|refine Wm ω ?_|refine Bn ?_|refine Fm rfl ?_)|refine Bt ?_|refine Bu ?_|fail);exact y.out):X:=h ⟨y⟩
theorem gD{X Y:Prop}(y:Y)(h:LI Y->X:=by intro y;(conv=>whnf);(first|with_reducible (first|refine Lm ?_|refine Wm ω ?_|refine dV ω ?_|refine dW ω ?_|refine Bn ?_|refine Fm rfl ?_)|refine Bt ?_|refine Bu ?_|fail);exact y.out):X:=h ⟨y⟩
theorem gA{X Y:Prop}(y:Y)(h:LI Y->X:=by intro y;(conv=>whnf);(first|with_reducible (first|refine Lm ?_|refine Wm ω ?_|refine dV ω ?_|refine dW ω ?_|refine nV ω ?_|refine nW ω ?_|refine eV ω ?_|refine eW ω ?_|refine Bn ?_|refine Fm rfl ?_)|refine Bt ?_|refine Bu ?_|fail);exact y.out):X:=h ⟨y⟩
theorem Mi{z1 z2:Int}(h:z1=z2):Kf (I z1) (I z2):=by subst h;rfl
theorem MO(c:C):Kf c c:=(kS [c]).1
theorem wA{X:Prop}(h:X:=by repeat'(first|exact trivial|rfl|refine CG ?_ ?_)):X:=h
theorem wB{X:Prop}(h:X:=by repeat'(first|exact trivial|rfl|refine CG ?_ ?_|(exact Mi (by first|omega|(simp only;omega)|(simp;omega))))):X:=h
theorem wC{X:Prop}(h:X:=by repeat'(first|exact trivial|rfl|exact MO _|refine CG ?_ ?_|(exact Mi (by first|omega|(simp only;omega)|(simp;omega))))):X:=h
theorem fO(n : Nat){f : Nat}{a : Func}{c : Code}{sh : Bool}{A : List RA}{k : Kd}{rcs : List C}(tb : List (Nat × Nat × List Nat))(d : Tryz.prog.funcs[f]? = some a)(e : a.body = some c)(g : aw Tryz.prog TE ⟨n, [], []⟩ (DF Tryz.prog TE ⟨n, [], []⟩ tb) c (Kl TE a.results.toList k rcs) (lay (sJ 0 A)))(b : sh = true \/ gv rcs := by exact .inr ⟨trivial, trivial⟩)(h : (a.name == "runtime.NumGoroutine") = false := by kernel_rfl)(i : eZ (lW tb) c = true := by kernel_rfl)(j : A.length + (a.ntmps - A.length) = n := by rfl) : ao Tryz.prog f sh A k rcs := Mz d h e i j b g
theorem fP(n : Nat){f : Nat}{a : Func}{c : Code}{sh : Bool}{A : List RA}{k : Kd}{rcs : List C}(mo : List (Nat × List Nat))(tb : List (Nat × Nat × List Nat))(d : Tryz.prog.funcs[f]? = some a)(e : a.body = some c)(g : aw Tryz.prog TE ⟨n, [], mo⟩ (DF Tryz.prog TE ⟨n, [], mo⟩ tb) c (Kl TE a.results.toList k rcs) (lay (sJ 0 A)))(b : sh = true \/ gv rcs := by exact .inr ⟨trivial, trivial⟩)(h : (a.name == "runtime.NumGoroutine") = false := by kernel_rfl)(i : eZ (lW tb) c = true := by kernel_rfl)(j : A.length + (a.ntmps - A.length) = n := by rfl) : ao Tryz.prog f sh A k rcs := Mz d h e i j b g
theorem fM(n : Nat){f : Nat}{a : Func}{c : Code}{sh : Bool}{A B : List MA}{k : Kd}{rcs : List C}(mo : List (Nat × List Nat))(tb : List (Nat × Nat × List Nat))(b : List (Nat × Nat))(g : Tryz.prog.funcs[f]? = some a)(h : a.body = some c)(i : ∀(u : Nat -> Nat -> Value)(p : Nat -> Value), aw Tryz.prog TE ⟨n, Fe p 0 A, mo⟩ (DF Tryz.prog TE ⟨n, Fe p 0 A, mo⟩ tb) c (LE TE a.results.toList k rcs u A B b) (lay (tT u 0 A)))(d : sh = true \/ gv rcs := by exact .inr ⟨trivial, trivial⟩)(j : (a.name == "runtime.NumGoroutine") = false := by kernel_rfl)(l : eZ (lW tb) c = true := by kernel_rfl)(o : A.length + (a.ntmps - A.length) = n := by rfl)(e : DJ (AI 0 A b) = true := by rfl) : aQ Tryz.prog f sh A B k rcs := Mn b g j h l o e d i
section
variable{α:Type}{l:List α}{p:α->Bool}{i:Nat}{x:α}
theorem cm(h:l[i]? = some x)(a:(l.take i).all p=true)(b:p x=true):(l.take (i+1)).all p=true:=by
 rw[Y3,h,List.all_append,a];simp[b]
theorem dJ(h:l[i]? = some x)(a:p x=false):l.all p=false:=by
 rw[List.all_eq_false];exact⟨x,I1 h,by simp[a]⟩
theorem fS(a:l.length<=i)(b:(l.take i).all p=true):l.all p=true:=by
 rwa [W4 a]at b
end
theorem sR{α β:Type}{a:List α}{b:List β}{i:Nat}{x:α}{y:β}(h1:a[i]? = some x)(c:b[i]? = some y):(a.zip b)[i]? = some (x,y):=by
 rw[List.getElem?_zip_eq_some];exact⟨h1,c⟩
def nth{α:Type}[Inhabited α](xs:List α)(i:Nat):α:=xs.getD i default
theorem ah{α:Type}[Inhabited α]{xs:List α}{i:Nat}(h:i<xs.length):xs[i]? = some (nth xs i):=by
 unfold nth;rw[R1,O1 h];rfl
theorem bp{α:Type}[Inhabited α]{xs:List α}{i:Nat}{y:α}(h:xs[i]? = some y):nth xs i=y:=by
 unfold nth;rw[R1,h];rfl
theorem am{α:Type}[Inhabited α]{xs:List α}{i:Nat}(h:i<xs.length):nth xs i∈xs:=I1 (ah h)
def cw(n:Nat)(p:Nat->Bool):Bool:=(List.range n).all p
theorem ch{n:Nat}{p:Nat->Bool} : cw n p=true↔∀j,j<n->p j=true:=by
 unfold cw;simp
theorem bH{n:Nat}{p:Nat->Bool}(h:cw n p=true)(a:p n=true):cw (n+1) p=true:=by
 rw[ch]at *;grind
theorem bW{n i:Nat}{p:Nat->Bool}(a:i<n)(b:p i=false):cw n p=false:=by
 by_cases h:cw n p=true
 ·rw[ch]at h;grind
 ·simpa using h
theorem d6{n i:Nat}{p:Nat->Bool}(h:cw n p=true)(a:i<n):p i=true:=ch.1 h i a
def gZ(u:Bool)(v:Int):Bool:=decide (0<=v/\v<=999)&&(u || decide (v=0))
def gz(r:List Int)(u:Bool):Bool:=decide (r.length=16)&&r.all (gZ u)
def cV(f:aZ):Bool:=decide (1<=f.Cells.length/\f.Cells.length<=32)&&(decide (f.Used.length=f.Cells.length)&&(f.Cells.zip f.Used).all λq=>gz q.1 q.2)
theorem g9{f:aZ}{i:Nat}{r:List Int}{u:Bool}(h1:f.Cells[i]? = some r)(a:f.Used[i]? = some u)(b:gz r u=false):cV f=false:=by
 unfold cV;rw[dJ (p:=λq=>gz q.1 q.2) (sR h1 a) b];simp
theorem pB{r:List Int}{u:Bool}{k:Nat}{v:Int}(h1:r[k]? = some v)(a:gZ u v=false):gz r u=false:=by
 unfold gz;rw[dJ h1 a];simp
theorem zv{f:aZ}(h:cV f=true):1<=f.Cells.length/\f.Cells.length<=32/\f.Used.length=f.Cells.length:=by
 unfold cV at h;simp only[I0,C0]at h;exact⟨h.1.1,h.1.2,h.2.1⟩
def j8(a:Int)(e:bj):Bool:=decide (0<=e.Mode/\e.Mode<=2/\(e.Mode=0->e.Frame=0)/\(e.Mode≠0->0<=e.Frame/\e.Frame<a))
def fk(t:aG)(a:Int):Bool:=cw t.Entries.length (λi=>j8 a (nth t.Entries i))&&decide (1<=t.Entries.length/\t.Entries.length<=32)
def G7(t:aG)(f:Int)(i:Nat):Bool:=decide ((nth t.Entries i).Mode≠0/\(nth t.Entries i).Frame=f)
def i7(t:aG)(f:Int)(n:Nat):List Int:=((List.range n).filter (G7 t f)).map λ(i:Nat)=>(i:Int)
def pagesOn(t:aG)(f:Int):List Int:=i7 t f t.Entries.length
theorem xL{t:aG}{f:Int}{n:Nat}(h:G7 t f n=true):i7 t f (n+1)=i7 t f n++[(n:Int)]:=by
 unfold i7;rw[List.range_succ,List.filter_append,t4];simp[h]
theorem Ax{t:aG}{f:Int}{n:Nat}(h:G7 t f n=false):i7 t f (n+1)=i7 t f n:=by
 unfold i7;rw[List.range_succ,List.filter_append,t4];simp[h]
theorem qU(t:aG)(f:Int)(n:Nat):(i7 t f n).length<=n:=by
 unfold i7;rw[T0];exact R3 (List.length_filter_le ..) (by simp)
def ar(t:aG)(p:Int):bj:=if 0<=p/\p<t.Entries.length then nth t.Entries p.toNat else⟨0,0⟩
def mO(m:aS)(i:Nat):Bool:=nth m.Frames.Used i == decide (0<(pagesOn m.Table (i:Int)).length)
def db(m:aS):Bool:=(cV m.Frames&&fk m.Table m.Frames.Used.length)&&cw m.Frames.Used.length (mO m)
def aA(k:af):Bool:=(cw k.Refuse.length (λi=>decide (0<=nth k.Refuse i))&&db k.Machine)&&decide (0<=k.Calls/\k.Calls<=100000/\k.Refuse.length<=40)
def rangeIn(pages:Int)(r:a7):Bool:=decide (1<=r.Len/\r.Len<=pages/\0<=r.At/\r.At<=pages - r.Len)
def fj(pages:Int)(xs:List a7)(i:Nat):Bool:=rangeIn pages (nth xs i)&&decide (i=0\/(nth xs (i - 1)).At+(nth xs (i - 1)).Len<(nth xs i).At)
def bw(pages:Int)(xs:List a7):Bool:=cw xs.length (fj pages xs)&&decide (1<=pages/\pages<=32)
def oU(page:Int)(r:a7):Bool:=decide (r.At<=page)&&decide (page<IntKind.i64.wrap (r.At+r.Len))
def lim(k:Int):Int:=if k=0 then 65535 else if k=1 then 255 else if k=2 then 15 else if k=3 then 3 else 0
def slots(k:Int):Int:=if k=0 then 16 else if k=1 then 8 else if k=2 then 4 else if k=3 then 2 else 0
def aX(s:au):Bool:=decide (0<=s.Page/\s.Page<=31/\0<=s.Class/\s.Class<=3/\0<=s.Bits/\s.Bits<=lim s.Class)
def ed(n:Int):Int:=if 9<=n/\n<=1000 then(n+15) / 16 else 0
def bP(l:a8):Bool:=decide (9<=l.Size/\l.Size<=1000/\l.Pages=(l.Size+15) / 16/\0<=l.Page/\l.Page<=32 - l.Pages)
def lpgs(l:a8)(n:Nat):List Int:=(List.range n).map λ(i:Nat)=>l.Page+i
def pgs(sp:List au)(la:List a8):List Int:=sp.map (·.Page)++la.flatMap λl=>lpgs l l.Pages.toNat
def bi(sp:List au)(la:List a8):Bool:=(sp.all aX&&la.all bP)&&decide (pgs sp la).Nodup
def cn(s:au)(a:Int):Bool:=aX s&&decide (16*s.Page<=a/\a<=16*s.Page+15)
def aW(b i:Int):Bool:=decide (0<=b/\0<=i/\i<=15/\b / 2 ^ i.toNat % 2=1)
def bv(l:a8)(a:Int):Bool:=bP l&&decide (16*l.Page<=a/\a<=16*l.Page+l.Size - 1)
def csz(k:Int):Int:=if 0<=k/\k<=3 then 2 ^ k.toNat else 0
def gM(s:au)(a:Int):Int × Int:=if cn s a then((a - 16*s.Page) / csz s.Class,(a - 16*s.Page) % csz s.Class) else(-1,-1)
def nL(i:Nat)(s:au)(a:Int):ip:=⟨if aW s.Bits ((a - 16*s.Page) / csz s.Class) then 1 else 2,i,(a - 16*s.Page) / csz s.Class,(a - 16*s.Page) % csz s.Class⟩
def denotes(sp:List au)(la:List a8)(a:Int):ip:=
 match sp.findIdx? (cn · a) with
 | some i=>nL i (nth sp i) a
 | none=>match la.findIdx? (bv · a) with
  | some i=>⟨3,i,0,a - 16*(nth la i).Page⟩
  | none=>⟨0,0,0,0⟩
theorem ta{α:Type}{pr:α->Bool}{xs:List α}{i:Nat}{y:α}(a:xs[i]? = some y)(b:pr y=true)(c:∀(j:Nat)(z:α),j<i->xs[j]? = some z->pr z=false):xs.findIdx? pr=some i:=by
 obtain⟨d,rfl⟩:=P1.1 a;exact V4.2 ⟨d,b,λj e=>by
   have:=c j _ e (O1 ω);simp[this]⟩
theorem vb{α:Type}{pr:α->Bool}{xs:List α}{i:Nat}(d:xs.length<=i)(b:∀(j:Nat)(z:α),j<i->xs[j]? = some z->pr z=false):xs.findIdx? pr=none:=
 List.findIdx?_eq_none_iff.2 λz c=>by
  obtain⟨j,a⟩:=List.mem_iff_getElem?.1 c;exact b j z (by have:=(P1.1 a).1;omega) a
theorem cW{α:Type}{pr:α->Bool}{xs:List α}{i:Nat}{y:α}(c:xs[i]? = some y)(d:pr y=false)(e:∀(j:Nat)(z:α),j<i->xs[j]? = some z->pr z=false):∀(j:Nat)(z:α),j<i+1->xs[j]? = some z->pr z=false:=by
 intro j z f a;rcases Nat.lt_or_ge j i with b|b
 ·exact e j z b a
 ·obtain rfl:j=i:=ω
  rw[c]at a;cases a;exact d
def cQ{α:Type}(pr:α->Bool)(xs:List α):Int:=match xs.findIdx? pr with|some i=>(i:Nat)|none=>-1
theorem d9{α:Type}{pr:α->Bool}{xs:List α}{i:Nat}{y:α}(a:xs[i]? = some y)(b:pr y=true)(c:∀(j:Nat)(z:α),j<i->xs[j]? = some z->pr z=false):cQ pr xs=(i:Nat):=by
 unfold cQ;rw[ta a b c]
theorem f7{α:Type}{pr:α->Bool}{xs:List α}{i:Nat}(a:xs.length<=i)(b:∀(j:Nat)(z:α),j<i->xs[j]? = some z->pr z=false):cQ pr xs = -1:=by
 unfold cQ;rw[vb a b]
theorem jl{α:Type}(pr:α->Bool)(xs:List α):decide (cQ pr xs≥0)=xs.any pr:=by
 unfold cQ;cases h:xs.findIdx? pr with
 | none=>
  have:=List.findIdx?_eq_none_iff.1 h;have a:xs.any pr=false:=by rw[List.any_eq_false];intro y b;simp[this y b]
  rw[a];rfl
 | some i=>
  obtain⟨c,d,-⟩:=V4.1 h;have a:xs.any pr=true:=W2.2 ⟨_,List.getElem_mem c,d⟩;rw[a];simp
def meshable(s t:au):Bool:=(aX s&&aX t)&&decide (s.Class=t.Class/\s.Page≠t.Page/\s.Bits.toNat &&& t.Bits.toNat=0)
def lJ(n:Int)(p:cP):Bool:=decide (0<=p.To/\p.To<=n - 1/\0<=p.Addr)
def KA(z:Int):Bool:=decide (0<=z)
def fT(m:aJ)(i:Nat):Bool:=(nth m.Buffers i).all (lJ m.Buffers.length)&&(nth m.Inbox i).all KA
def bm(m:aJ):Nat->Int
 | 0=>0
 | i+1=>bm m i+((nth m.Buffers i).length+(nth m.Inbox i).length)
def b9(m:aJ):Bool:=(decide (1<=m.Buffers.length/\m.Buffers.length<=4/\m.Inbox.length=m.Buffers.length)&&cw m.Buffers.length (fT m))&&decide (bm m m.Buffers.length<=30)
def aL(m:aJ):List Int:=if b9 m then(m.Buffers.flatMap λl=>l.map (·.Addr))++m.Inbox.flatten else []
def dA(a:Int)(y:aM):Bool:=decide (y.Addr=a)
def jc(xs:List aM)(i:Nat):Bool:=decide (0<=(nth xs i).Class/\(nth xs i).Class<=3/\0<=(nth xs i).Addr/\0<=(nth xs i).Since/\(i=0\/(nth xs (i - 1)).Since<=(nth xs i).Since))&&!(xs.take i).any (dA (nth xs i).Addr)
def quarCells(xs:List aM):Nat->Int
 | 0=>0
 | i+1=>quarCells xs i+csz (nth xs i).Class
def eX(q:bC):Bool:=cw q.Lst.length (jc q.Lst)&&decide (0<=q.Room/\q.Room<=500/\quarCells q.Lst q.Lst.length<=q.Room)
def ly(xs:List Int)(i:Nat):Bool:=decide (0<=nth xs i/\nth xs i<=15/\(i=0\/nth xs (i - 1)<nth xs i))
def ef(p:cr):Bool:=cw p.Cells.length (ly p.Cells)&&decide (0<=p.Keep/\p.Keep<=31/\0<=p.Move/\p.Move<=31/\p.Keep≠p.Move)
def iB(j:cF):Bool:=ef j.Plan&&decide (0<=j.Phase/\j.Phase<=5/\0<=j.Next/\j.Next<=j.Plan.Cells.length)
def p7(j:cF):Bool:=decide (j.Plan.Keep=0/\j.Plan.Move=0/\j.Plan.Cells.length=0/\j.Phase=0/\j.Next=0)
def aK(h:ac)(p:Int):List Int:=if(ar h.Kernel.Machine.Table p).Mode=0 then [] else pagesOn h.Kernel.Machine.Table (ar h.Kernel.Machine.Table p).Frame
def iN(p:Int)(s:au):Bool:=decide (s.Page=p)
def fw(h:ac)(p:Int):Int:=cQ (iN p) h.Spans
def aN(n:Int):Int:=if n<1 then -1 else if n<=1 then 0 else if n<=2 then 1 else if n<=4 then 2 else if n<=8 then 3 else -1
set_option maxRecDepth 20000
set_option maxHeartbeats 2000000
theorem aD(n lo a:Int):ao Tryz.prog 152 false [.val none [I n],.val none [I lo],.val none [I a]] .one [B (decide (lo<=n/\n<=a))]:=by
 refine fO 15 [] Tryz.func152 rfl ?_
 repeat'(first|refine gO ?_|(conv=>whnf);first|with_reducible refine Bf.D (λb=>?_) (λb=>?_))
 all_goals exact Q0 (λz=>[B z]) (by simp;try omega)
theorem aI(n lo a:Int):ao Tryz.prog 76 false [.val none [I n],.val none [I lo],.val none [I a]] .one [B (decide (lo<=n/\n<=a))]:=by
 refine fO 15 [] Tryz.func76 rfl ?_
 repeat'(first|refine gO ?_|(conv=>whnf);first|with_reducible refine Bf.D (λb=>?_) (λb=>?_))
 all_goals exact Q0 (λz=>[B z]) (by simp;try omega)
theorem eB(k:Int):ao Tryz.prog 167 false [.val none [I k]] .one [B (decide (0<=k/\k<=3))]:=by
 refine fO 5 [] Tryz.func167 rfl ?_
 repeat'(first|refine gO ?_|(conv=>whnf);first|refine C5 (aI k 0 3) ?_)
 rfl
theorem ee(k:Int):ao Tryz.prog 89 false [.val none [I k]] .one [I (csz k)]:=by
 by_cases b:0<=k/\k<=3
 ·obtain rfl|rfl|rfl|rfl:k=0\/k=1\/k=2\/k=3:=ω
  all_goals
   refine fO 8 [] Tryz.func89 rfl ?_
   repeat'(first|refine gD ?_|(conv=>whnf);first|with_reducible refine Bf.D (λa=>?_) (λa=>?_)|refine C5 (eB _) ?_|refine CJ (by decide) ?_|refine CH rfl ?_)
   exact Q0 (λz=>[I z]) (by decide)
 ·refine fO 8 [] Tryz.func89 rfl ?_
  repeat'(first|refine gD ?_|(conv=>whnf);first|with_reducible refine Bf.D (λa=>?_) (λa=>?_)|refine C5 (eB _) ?_)
  exact Q0 (λz=>[I z]) (by unfold csz;rw[C6 b])
theorem dq(k:Int):ao Tryz.prog 274 false [.val none [I k]] .one [I (csz k)]:=by
 by_cases b:0<=k/\k<=3
 ·obtain rfl|rfl|rfl|rfl:k=0\/k=1\/k=2\/k=3:=ω
  all_goals
   refine fO 9 [] Tryz.func274 rfl ?_
   repeat'(first|refine gD ?_|(conv=>whnf);first|with_reducible refine Bf.D (λa=>?_) (λa=>?_)|refine C5 (aD _ 0 3) ?_|refine CJ (by decide) ?_|refine CH rfl ?_)
   exact Q0 (λz=>[I z]) (by decide)
 ·refine fO 9 [] Tryz.func274 rfl ?_
  repeat'(first|refine gD ?_|(conv=>whnf);first|with_reducible refine Bf.D (λa=>?_) (λa=>?_)|refine C5 (aD _ 0 3) ?_)
  exact Q0 (λz=>[I z]) (by unfold csz;rw[C6 b])
theorem kO(xs:List Int)(a:Int)(j:xs.length<=9223372036854775807):ao Tryz.prog 268 false [.val none (aF .imm xs),.val none [I a]] .one [B (decide (a∈xs))]:=by
 refine fO 18 [] Tryz.func268 rfl ?_
 repeat'(first|refine gO ?_|fail)
 (conv=>whnf)
 refine CB (ι:=Nat) (λi=>[(0,.hold .one (aF .imm xs)),(1,.hold .one [I a]),(5,.hold .one [I (i:Nat)])]) (λi=>i<=xs.length/\a∉xs.take i) (λi=>xs.length - i) 0 ?_ ⟨P0 _,by simp⟩ λi g=>?_
 ·exact wB
 ·obtain⟨g,b⟩:=g
  by_cases c:i<xs.length
  ·obtain⟨y,d⟩ : ∃y,xs[i]? = some y:=⟨_,O1 c⟩
   repeat'(first|refine gD ?_|(conv=>whnf);first|with_reducible (first|refine C9 (aa d) ?_|refine Bf.E (λh=>?_) (λh=>?_)))
   ·exact Q0 (λz=>[B z]) (by symm;simp;rw[<-‹y=a›];exact I1 d)
   ·(conv=>whnf)
    refine CA (i+1) ⟨ω,?_⟩ ω ?_
    ·rw[Y3,d]
     simp only[Option.toList_some,W1,W0,not_or];exact⟨b,λe=>‹y≠a› e.symm⟩
    ·exact wB
  ·repeat'(first|refine gD ?_|fail)
   rw[W4 ω]at b;exact Q0 (λz=>[B z]) (by symm;simpa using b)
set_option maxHeartbeats 4000000
def good(k:Int)(s:List Int)(a:Int):Prop:=0<=a/\a<=511/\a.tmod (csz k)=0/\a∉s
instance (k:Int) (s:List Int) (a:Int):Decidable (good k s a):=by unfold good;exact inferInstance
def pk(k:Int):List Int->List Int->Option (List Int)
 | s,[]=>some s
 | s,a::l=>if good k s a then pk k (s++[a]) l else none
def dK(k:Nat)(s l:List Int):Option (List Int):=if l.length<=8/\k<=3 then pk k s l else none
def fp:Nat->List Int->List (List Int)->Option (List Int)
 | _,s,[]=>some s
 | k,s,l::ls=>(dK k s l).bind λa=>fp (k+1) a ls
def bq(c:aB):Bool:=decide (c.Lists.length=4)&&(fp 0 [] c.Lists).isSome
theorem oJ(k:Int):∀(a s b:List Int),pk k s (a++b)=(pk k s a).bind λc=>pk k c b
 | [],s,b=>rfl
 | x::a,s,b=>by
  simp only[List.cons_append,pk];split
  ·exact oJ k a _ b
  ·rfl
theorem mD:∀(a:List (List Int))(k:Nat)(s:List Int)(b:List (List Int)),fp k s (a++b)=(fp k s a).bind λc=>fp (k+a.length) c b
 | [],k,s,b=>rfl
 | l::a,k,s,b=>by
  simp only[List.cons_append,fp,Option.bind_assoc,List.length_cons]
  congr 1;funext c
  rw[mD a (k+1) c b,show k+1+a.length=k+(a.length+1) by omega]
theorem EV{k:Int}{l b s:List Int}{j:Nat}{a:Int}(c:l[j]? = some a)(h:pk k b (l.take j)=some s)(d:good k s a):pk k b (l.take (j+1))=some (s++[a]):=by
 rw[Y3,c,Option.toList_some,oJ,h];simp[pk,d]
theorem H0{k:Nat}{l c s:List Int}{j:Nat}{a:Int}(d:l[j]? = some a)(h:pk k c (l.take j)=some s)(e:¬good k s a):dK k c l=none:=by
 unfold dK;split
 ·have:l=l.take j++(a::l.drop (j+1)):=by
   obtain⟨b,rfl⟩:=P1.1 d;rw[<-List.drop_eq_getElem_cons b,List.take_append_drop]
  rw[this,oJ,h];simp[pk,e]
 ·rfl
theorem yU{k:Int} : ∀{l s b:List Int},pk k s l=some b->b.length=s.length+l.length
 | [],s,b,h=>by simp only[pk,R0]at h;subst h;simp
 | a::l,s,b,h=>by
  simp only[pk]at h;split at h
  ·have:=yU h;simp at this |-;omega
  ·cases h
theorem rv{a:List (List Int)}{i:Nat}{l s:List Int}(b:a[i]? = some l)(h:fp 0 [] (a.take i)=some s):fp 0 [] (a.take (i+1))=dK i s l:=by
 have c:=(P1.1 b).1;rw[Y3,b,Option.toList_some,mD,h];simp only[Option.bind_some,fp,U4,Z0,Nat.min_eq_left (Nat.le_of_lt c)];cases dK i s l<;>rfl
theorem jt{c:aB}{i:Nat}{l s:List Int}(b:c.Lists[i]? = some l)(h:fp 0 [] (c.Lists.take i)=some s)(d:dK i s l=none):bq c=false:=by
 have a:=rv b h;rw[d]at a;have e:fp 0 [] c.Lists=none:=by
  rw[<-List.take_append_drop (i+1) c.Lists,mD,a];rfl
 unfold bq;rw[e];simp
theorem zF:∀{b:List (List Int)}{k:Nat}{s a:List Int},fp k s b=some a->a.length<=s.length+8*b.length
 | [],k,s,a,h=>by simp only[fp,R0]at h;subst h;simp
 | l::b,k,s,a,h=>by
  simp only[fp]at h;unfold dK at h;split at h
  ·cases c:pk k s l with
   | none=>rw[c]at h;cases h
   | some d=>
    rw[c]at h;have e:=yU c;have f:=zF (show fp (k+1) d b=some a from h);simp only[List.length_cons];omega
  ·cases h
theorem Hg{i:Nat}(h:i<=3):csz (i:Int)≠0:=by
 obtain rfl|rfl|rfl|rfl:i=0\/i=1\/i=2\/i=3:=ω
 all_goals decide
theorem cv{l:List Int} : ∀r∈l.map (rI .own),r.length=1:=by
 intro r a;obtain⟨z,-,rfl⟩:=C3.1 a;rfl
theorem lZ(c:aB)(u:aB.sml c):ao Tryz.prog 208 false [.val (some 1) (aB.enc .imm c)] .one [B (bq c)]:=by
 have H:=u.1;refine fO 60 [] Tryz.func208 rfl ?_
 repeat'(first|refine gO ?_|(conv=>whnf);first|with_reducible refine Bf.N (λe=>?_) (λe=>?_))
 ·exact Q0 (λz=>[B z]) (by symm;unfold bq;rw[O0 ω];rfl)
 have w:c.Lists.length=4:=ω
 (conv=>whnf)
 refine CB (ι:=Nat × List Int) (λi=>[(1,.hold .box (aB.enc .imm c)),(3,.hold .one (aF .own i.2)),(4,.hold .one [I (i.1:Nat)])]) (λi=>i.1<=4/\fp 0 [] (c.Lists.take i.1)=some i.2) (λi=>4 - i.1) (0,[]) ?_ ⟨P0 _,rfl⟩ λi k=>?_
 ·exact wB
 ·obtain⟨i,s⟩:=i
  obtain⟨k,b⟩:=k;simp only at k b |-;have g:=zF b;rw[Z0]at g;simp only[List.length_nil]at g;by_cases E:i<4
  ·obtain⟨l,d⟩ : ∃l,c.Lists[i]? = some l:=⟨_,O1 ω⟩
   have F:l.length<=1048576:=u.2 l (I1 d)
   repeat'(first|refine gD ?_|(conv=>whnf);first|with_reducible (first|refine C9 (aa d) ?_|refine Bf.D (λe=>?_) (λe=>?_)))
   ·exact Q0 (λz=>[B z]) (jt d b (by unfold dK;rw[C6 ω])).symm
   have n:l.length<=8:=ω
   (conv=>whnf)
   refine CB (ι:=Nat × List Int) (λj=>[(1,.hold .box (aB.enc .imm c)),(3,.hold .one (aF .own j.2)),(4,.hold .one [I (i:Nat)]),(5,.hold .one [I (j.1:Nat)])]) (λj=>j.1<=l.length/\pk i s (l.take j.1)=some j.2) (λj=>l.length - j.1) (0,s) ?_ ⟨P0 _,rfl⟩ λj o=>?_
   ·exact wB
   ·obtain⟨j,p⟩:=j
    obtain⟨o,a⟩:=o;simp only at o a |-;have h:=yU a;rw[Z0]at h;by_cases q:j<l.length
    ·obtain⟨y,t⟩ : ∃y,l[j]? = some y:=⟨_,O1 q⟩
     repeat'(first|refine gD ?_|(conv=>whnf);first|with_reducible (first|refine C9 (aa d) ?_|refine C9 (aa t) ?_|refine Bf.D (λe=>?_) (λe=>?_)|refine Bf.N (λe=>?_) (λe=>?_))|refine C5 (aD y 0 511) ?_|refine C5 (dq (i:Nat)) ?_|refine CJ (Hg ω) ?_|refine CP rfl ?_|refine CD (kO p y ω) ⟨⟨rfl,dz _⟩,⟨rfl,rfl⟩,trivial⟩ ?_|refine CO cv (λr G=>by rw[W0.1 G];rfl) (by simp[aU,dx]) (by simp;omega) (by simp only[T0];exact vL (by simp;omega) (by decide)) rfl ?_)
     all_goals first
      | exact Q0 (λz=>[B z]) (jt d b (H0 t a λ⟨J,K,L,M⟩=>by first|contradiction|omega)).symm
      | ((conv=>whnf)
         refine CA (j+1,p++[y]) ⟨(by simp only;omega),EV t a ⟨ω,ω,(by assumption),(by assumption)⟩⟩ (by simp only;omega) ?_
         (repeat'(first|exact trivial|rfl|exact CG rfl (CG (Q0 (C.s du.own) (by simp[rI])) trivial)|refine CG ?_ ?_)))
    ·repeat'(first|refine gD ?_|(conv=>whnf);first|with_reducible refine C9 (aa d) ?_)
     (conv=>whnf)
     rw[W4 ω]at a;refine CA (i+1,p) ⟨(by simp only;omega),(by rw[rv d b];unfold dK;rw[C7 ⟨n,ω⟩];exact a)⟩ (by simp only;omega) ?_;exact wB
  ·repeat'(first|refine gD ?_|fail)
   rw[W4 ω]at b;exact Q0 (λz=>[B z]) (by symm;unfold bq;rw[b,N0 w];rfl)
def eA(s:List Int):List (Int × Value):=s.map λa=>(a,.bool true)
theorem lc(a:Int):∀(s:List Int),mlook (eA s) a (.bool false)=.bool (decide (a∈s))
 | []=>by simp[eA,mlook]
 | x::s=>by
  have b:=lc a s;simp only[eA,z4,mlook]at b |-;by_cases h:x=a
  ·rw[C7 h];simp[h]
  ·rw[C6 h,b]
   congr 1
   simp[show ¬a=x from λe=>h e.symm]
theorem rq{a:Int} : ∀{s:List Int},a∉s->eA (s++[a])=mput (eA s) a (.bool true)
 | [],_=>rfl
 | x::s,h=>by
  simp only[List.mem_cons,not_or]at h;have b:=rq h.2;simp only[eA,List.cons_append,z4,mput]at b |-;rw[C6 λe=>h.1 e.symm,b]
theorem zu(c:aB)(u:aB.sml c):ao Tryz.prog 72 false [.val (some 1) (aB.enc .imm c)] .one [B (bq c)]:=by
 have C:=u.1;refine fO 54 [] Tryz.func72 rfl ?_
 repeat'(first|refine gO ?_|fail)
 (conv=>whnf)
 refine CB (ι:=Nat × List Int) (λi=>[(1,.hold .box (aB.enc .imm c)),(3,.hold .one [.m (eA i.2)]),(10,.hold .one (k7 .imm c.Lists)),(11,.hold .one [I c.Lists.length]),(12,.hold .one [I (i.1:Nat)])]) (λi=>i.1<=c.Lists.length/\fp 0 [] (c.Lists.take i.1)=some i.2) (λi=>c.Lists.length - i.1) (0,[]) ?_ ⟨P0 _,rfl⟩ λi h=>?_
 ·exact wB
 ·obtain⟨i,s⟩:=i
  obtain⟨h,b⟩:=h;simp only at h b |-;by_cases k:i<c.Lists.length
  ·obtain⟨l,d⟩ : ∃l,c.Lists[i]? = some l:=⟨_,O1 k⟩
   have w:l.length<=1048576:=u.2 l (I1 d)
   repeat'(first|refine gD ?_|(conv=>whnf);first|with_reducible (first|refine C9 (aa d) ?_|refine Bf.D (λe=>?_) (λe=>?_))|refine C5 (eB (i:Nat)) ?_)
   ·exact Q0 (λz=>[B z]) (jt d b (by unfold dK;rw[C6 ω])).symm
   rotate_left
   ·exact Q0 (λz=>[B z]) (jt d b (by unfold dK;rw[C6 ω])).symm
   have n:l.length<=8:=ω
   have o:i<=3:=ω
   (conv=>whnf)
   refine CB (ι:=Nat × List Int) (λj=>[(1,.hold .box (aB.enc .imm c)),(3,.hold .one [.m (eA j.2)]),(4,.hold .one [I (i:Nat)]),(10,.hold .one (k7 .imm c.Lists)),(11,.hold .one [I c.Lists.length]),(12,.hold .one [I (i:Nat)]),(25,.hold .one (aF .imm l)),(26,.hold .one [I l.length]),(27,.hold .one [I (j.1:Nat)])]) (λj=>j.1<=l.length/\pk i s (l.take j.1)=some j.2) (λj=>l.length - j.1) (0,s) ?_ ⟨P0 _,rfl⟩ λj p=>?_
   ·exact wB
   ·obtain⟨j,q⟩:=j
    obtain⟨p,a⟩:=p;simp only at p a |-;by_cases r:j<l.length
    ·obtain⟨y,t⟩ : ∃y,l[j]? = some y:=⟨_,O1 r⟩
     repeat'(first|refine gD ?_|(conv=>whnf);first|with_reducible (first|refine C9 (aa d) ?_|refine C9 (aa t) ?_|refine Bf.D (λe=>?_) (λe=>?_)|refine Bf.N (λe=>?_) (λe=>?_))|refine C5 (aI y 0 511) ?_|refine C5 (ee (i:Nat)) ?_|refine CJ (Hg ω) ?_|refine CP rfl ?_|refine Ml.mk (lc y q) ?_|refine Mu.mk (rq (by assumption)) ?_)
     all_goals first
      | exact Q0 (λz=>[B z]) (jt d b (H0 t a λ⟨E,F,G,H⟩=>by first|contradiction|omega)).symm
      | ((conv=>whnf)
         refine CA (j+1,q++[y]) ⟨(by simp only;omega),EV t a ⟨ω,ω,(by assumption),(by assumption)⟩⟩ (by simp only;omega) ?_
         (exact wA))
    ·repeat'(first|refine gD ?_|fail)
     (conv=>whnf)
     rw[W4 ω]at a;refine CA (i+1,q) ⟨(by simp only;omega),(by rw[rv d b];unfold dK;rw[C7 ⟨n,o⟩];exact a)⟩ (by simp only;omega) ?_;exact wB
  ·repeat'(first|refine gD ?_|fail)
   rw[W4 ω]at b;have g:((c.Lists.length:Int) == 4)=decide (c.Lists.length=4):=by
    by_cases g:c.Lists.length=4
    ·simp[g]
    ·rw[O0 g];simp;omega
   exact Q0 (λz=>[B z]) (g.trans (by unfold bq;rw[b];simp))
theorem EB:∀{b:List (List Int)}{k:Nat}{s c:List Int},fp k s b=some c->∀l∈b,l.length<=8
 | [],k,s,c,h,l,a=>by simp at a
 | x::b,k,s,c,h,l,a=>by
  simp only[fp]at h;unfold dK at h;split at h
  ·rename_i e
   rcases List.mem_cons.1 a with rfl|a
   ·exact e.1
   ·cases d:pk k s x with
    | none=>rw[d]at h;cases h
    | some f=>rw[d]at h;exact EB (show fp (k+1) f b=some c from h) l a
  ·cases h
theorem rV{c:aB}(h:bq c=true):c.Lists.length=4/\∀l∈c.Lists,l.length<=8:=by
 unfold bq at h;simp only[I0,C0]at h;obtain⟨s,a⟩:=Option.isSome_iff_exists.1 h.2;exact⟨h.1,EB a⟩
theorem wj(f:aZ)(n:aZ.sml f):ao Tryz.prog 63 false [.val (some 2) (aZ.enc .imm f)] .one [B (cV f)]:=by
 have C:=n.1.1;have E:f.Used.length<=1048576:=n.2;refine fO 61 [] Tryz.func63 rfl ?_
 repeat'(first|refine gO ?_|(conv=>whnf);first|with_reducible (first|refine Bf.D (λa=>?_) (λa=>?_)|refine Bf.N (λa=>?_) (λa=>?_))|refine C5 (aD f.Cells.length 1 32) ?_)
 ·exact Q0 (λz=>[B z]) (by symm;unfold cV;rw[O0 (by omega:¬(f.Used.length=f.Cells.length))];simp)
 rotate_left
 ·exact Q0 (λz=>[B z]) (by symm;unfold cV;rw[O0 (by omega:¬(1<=f.Cells.length/\f.Cells.length<=32))];rfl)
 have h:1<=f.Cells.length/\f.Cells.length<=32:=ω
 have j:f.Used.length=f.Cells.length:=ω
 (conv=>whnf)
 refine CB (ι:=Nat) (λi=>[(1,.hold .box (aZ.enc .imm f)),(3,.hold .one [I (i:Nat)])]) (λi=>i<=f.Cells.length/\((f.Cells.zip f.Used).take i).all (λq=>gz q.1 q.2)=true) (λi=>f.Cells.length - i) 0 ?_ ⟨P0 _,rfl⟩ λi o=>?_
 ·exact wB
 ·obtain⟨o,t⟩:=o
  by_cases l:i<f.Cells.length
  ·obtain⟨r,c⟩ : ∃r,f.Cells[i]? = some r:=⟨_,O1 l⟩
   obtain⟨u,b⟩ : ∃u,f.Used[i]? = some u:=⟨_,O1 ω⟩
   repeat'(first|refine gD ?_|(conv=>whnf);first|with_reducible (first|refine C9 (aa c) ?_|refine Bf.N (λa=>?_) (λa=>?_)))
   ·exact Q0 (λz=>[B z]) (g9 c b (by unfold gz;rw[O0 ω];rfl)).symm
   have g:r.length=16:=ω
   (conv=>whnf)
   refine CB (ι:=Nat) (λk=>[(1,.hold .box (aZ.enc .imm f)),(3,.hold .one [I (i:Nat)]),(4,.hold .one [I (k:Nat)])]) (λk=>k<=16/\(r.take k).all (gZ u)=true) (λk=>16 - k) 0 ?_ ⟨P0 _,rfl⟩ λk w=>?_
   ·exact wB
   ·obtain⟨w,d⟩:=w
    by_cases y:k<16
    ·obtain⟨v,e⟩ : ∃v,r[k]? = some v:=⟨_,O1 ω⟩
     cases u with
     | true=>
      repeat'(first|refine gD ?_|(conv=>whnf);first|with_reducible (first|refine C9 (aa c) ?_|refine C9 (aa b) ?_|refine C9 (aa e) ?_|refine Bf.D (λa=>?_) (λa=>?_)|refine Bf.N (λa=>?_) (λa=>?_))|refine C5 (aD v 0 999) ?_)
      all_goals first
       | exact Q0 (λz=>[B z]) (g9 c b (pB e (by first|(unfold gZ;rw[O0 ω];rfl)|(unfold gZ;rw[O0 (p:=v=0) ω];simp)))).symm
       | ((conv=>whnf)
          refine CA (ι:=Nat) (k+1) ⟨ω,cm e d (by unfold gZ;first|(rw[N0 ω];rfl)|(rw[N0 (p:=0<=v/\v<=999) ω,N0 (p:=v=0) ω];rfl))⟩ ω ?_
          (exact wA))
     | false=>
      repeat'(first|refine gD ?_|(conv=>whnf);first|with_reducible (first|refine C9 (aa c) ?_|refine C9 (aa b) ?_|refine C9 (aa e) ?_|refine Bf.D (λa=>?_) (λa=>?_)|refine Bf.N (λa=>?_) (λa=>?_))|refine C5 (aD v 0 999) ?_)
      all_goals first
       | exact Q0 (λz=>[B z]) (g9 c b (pB e (by first|(unfold gZ;rw[O0 ω];rfl)|(unfold gZ;rw[O0 (p:=v=0) ω];simp)))).symm
       | ((conv=>whnf)
          refine CA (ι:=Nat) (k+1) ⟨ω,cm e d (by unfold gZ;first|(rw[N0 ω];rfl)|(rw[N0 (p:=0<=v/\v<=999) ω,N0 (p:=v=0) ω];rfl))⟩ ω ?_
          (exact wA))
    ·repeat'(first|refine gD ?_|fail)
     (conv=>whnf)
     refine CA (i+1) ⟨ω,cm (sR c b) t (by unfold gz;rw[fS ω d];simp[g])⟩ ω ?_;exact wB
  ·repeat'(first|refine gD ?_|fail)
   exact Q0 (λz=>[B z]) (by symm;unfold cV;rw[fS (by rw[List.length_zip];omega) t];simp[h,j])
theorem vY(f:aZ)(h:aZ.sml f):ao Tryz.prog 153 false [.val (some 2) (aZ.enc .imm f)] .one [B (cV f)]:=by
 have C:=h.1.1;have E:f.Used.length<=1048576:=h.2;refine fO 55 [] Tryz.func153 rfl ?_
 repeat'(first|refine gO ?_|(conv=>whnf);first|with_reducible (first|refine Bf.D (λa=>?_) (λa=>?_)|refine Bf.N (λa=>?_) (λa=>?_))|refine C5 (aI f.Cells.length 1 32) ?_)
 ·exact Q0 (λz=>[B z]) (by symm;unfold cV;rw[O0 (by omega:¬(f.Used.length=f.Cells.length))];simp)
 rotate_left
 ·exact Q0 (λz=>[B z]) (by symm;unfold cV;rw[O0 (by omega:¬(1<=f.Cells.length/\f.Cells.length<=32))];rfl)
 have j:1<=f.Cells.length/\f.Cells.length<=32:=ω
 have l:f.Used.length=f.Cells.length:=ω
 (conv=>whnf)
 refine CB (ι:=Nat) (λi=>[(1,.hold .box (aZ.enc .imm f)),(22,.hold .one (k7 .imm f.Cells)),(23,.hold .one [I (f.Cells.length)]),(24,.hold .one [I ((i:Nat):Int)])]) (λi=>i<=f.Cells.length/\((f.Cells.zip f.Used).take i).all (λq=>gz q.1 q.2)=true) (λi=>f.Cells.length - i) (0) ?_ (⟨P0 _,rfl⟩) λi o=>?_
 ·exact wB
 obtain⟨o,p⟩:=o;by_cases n:i<f.Cells.length
 ·obtain⟨r,c⟩ : ∃r,f.Cells[i]? = some r:=⟨_,O1 n⟩
  obtain⟨u,b⟩ : ∃u,f.Used[i]? = some u:=⟨_,O1 ω⟩
  have y:r.length<=1048576:=h.1.2 r (I1 c)
  repeat'(first|refine gD ?_|(conv=>whnf);first|with_reducible (first|refine C9 (aa c) ?_|refine Bf.N (λa=>?_) (λa=>?_)))
  ·exact Q0 (λz=>[B z]) (g9 c b (by unfold gz;rw[O0 ω];rfl)).symm
  have g:r.length=16:=ω
  (conv=>whnf)
  refine CB (ι:=Nat) (λk=>[(1,.hold .box (aZ.enc .imm f)),(3,.hold .one [I ((i:Nat):Int)]),(22,.hold .one (k7 .imm f.Cells)),(23,.hold .one [I (f.Cells.length)]),(24,.hold .one [I ((i:Nat):Int)]),(32,.hold .one (aF .imm r)),(33,.hold .one [I (r.length)]),(34,.hold .one [I ((k:Nat):Int)])]) (λk=>k<=r.length/\(r.take k).all (gZ u)=true) (λk=>r.length - k) (0) ?_ (⟨P0 _,rfl⟩) λk t=>?_
  ·exact wB
  obtain⟨t,d⟩:=t;by_cases w:k<r.length
  ·obtain⟨v,e⟩ : ∃v,r[k]? = some v:=⟨_,O1 ω⟩
   cases u with
   | true=>
    repeat'(first|refine gD ?_|(conv=>whnf);first|with_reducible (first|refine C9 (aa c) ?_|refine C9 (aa b) ?_|refine C9 (aa e) ?_|refine Bf.D (λa=>?_) (λa=>?_)|refine Bf.N (λa=>?_) (λa=>?_))|refine C5 (aI v 0 999) ?_)
    all_goals first
     | exact Q0 (λz=>[B z]) (g9 c b (pB e (by unfold gZ;grind))).symm
     | ((conv=>whnf)
        refine CA (ι:=Nat) (k+1) ⟨ω,cm e d (by unfold gZ;grind)⟩ ω ?_
        (exact wA))
   | false=>
    repeat'(first|refine gD ?_|(conv=>whnf);first|with_reducible (first|refine C9 (aa c) ?_|refine C9 (aa b) ?_|refine C9 (aa e) ?_|refine Bf.D (λa=>?_) (λa=>?_)|refine Bf.N (λa=>?_) (λa=>?_))|refine C5 (aI v 0 999) ?_)
    all_goals first
     | exact Q0 (λz=>[B z]) (g9 c b (pB e (by unfold gZ;grind))).symm
     | ((conv=>whnf)
        refine CA (ι:=Nat) (k+1) ⟨ω,cm e d (by unfold gZ;grind)⟩ ω ?_
        (exact wA))
  ·repeat'(first|refine gD ?_|fail)
   (conv=>whnf)
   refine CA (i+1) ⟨ω,cm (sR c b) p (by unfold gz;rw[fS ω d];simp[g])⟩ ω ?_;exact wB
 ·repeat'(first|refine gD ?_|fail)
  exact Q0 (λz=>[B z]) (by symm;unfold cV;rw[fS (by rw[List.length_zip];omega) p];simp[j,l])
theorem yc(t:aG)(b:Int)(g:aG.sml t):ao Tryz.prog 327 false [.val (some 1) (aG.enc .imm t),.val none [I b]] .one [B (fk t b)]:=by
 have k:=g.1;refine fO 54 [] Tryz.func327 rfl ?_
 repeat'(first|refine gO ?_|fail)
 (conv=>whnf)
 refine CB (ι:=Nat) (λi=>[(1,.hold .one [I (b)]),(2,.hold .box (aG.enc .imm t)),(5,.hold .one [I ((i:Nat):Int)])]) (λi=>i<=t.Entries.length/\cw i (λj=>j8 b (nth t.Entries j))=true) (λi=>t.Entries.length - i) 0 ?_ ⟨P0 _,rfl⟩ λi c=>?_
 ·exact wB
 obtain⟨c,d⟩:=c;by_cases e:i<t.Entries.length
 ·have h:=ah e
  repeat'(first|refine gD ?_|(conv=>whnf);first|with_reducible (first|refine C9 (aa h) ?_|refine Bf.D (λa=>?_) (λa=>?_)|refine Bf.N (λa=>?_) (λa=>?_)|refine Bf.E (λa=>?_) (λa=>?_))|refine C5 (aD _ 0 2) ?_)
  all_goals first
   | exact Q0 (λz=>[B z]) ((by symm;unfold fk;rw[bW e (O0 (by grind))];rfl))
   | ((conv=>whnf);refine CA (i+1) ⟨ω,bH d (N0 (by grind))⟩ ω ?_;(exact wB))
 ·repeat'(first|refine gD ?_|(conv=>whnf);first|refine C5 (aD _ 1 32) ?_)
  obtain rfl:i=t.Entries.length:=ω
  exact Q0 (λz=>[B z]) ((by unfold fk;rw[d,Bool.true_and];exact decide_eq_decide.2 ω))
theorem yl(t:aG)(b:Int)(g:aG.sml t):ao Tryz.prog 236 false [.val (some 1) (aG.enc .imm t),.val none [I b]] .one [B (fk t b)]:=by
 have k:=g.1;refine fO 49 [] Tryz.func236 rfl ?_
 repeat'(first|refine gO ?_|fail)
 (conv=>whnf)
 refine CB (ι:=Nat) (λi=>[(1,.hold .one [I (b)]),(2,.hold .box (aG.enc .imm t)),(8,.hold .one (Ay .imm t.Entries)),(9,.hold .one [I (t.Entries.length)]),(10,.hold .one [I ((i:Nat):Int)])]) (λi=>i<=t.Entries.length/\cw i (λj=>j8 b (nth t.Entries j))=true) (λi=>t.Entries.length - i) 0 ?_ ⟨P0 _,rfl⟩ λi c=>?_
 ·exact wB
 obtain⟨c,d⟩:=c;by_cases e:i<t.Entries.length
 ·have h:=ah e
  repeat'(first|refine gD ?_|(conv=>whnf);first|with_reducible (first|refine C9 (aa h) ?_|refine Bf.D (λa=>?_) (λa=>?_)|refine Bf.N (λa=>?_) (λa=>?_)|refine Bf.E (λa=>?_) (λa=>?_))|refine C5 (aI _ 0 2) ?_)
  all_goals first
   | exact Q0 (λz=>[B z]) ((by symm;unfold fk;rw[bW e (O0 (by grind))];rfl))
   | ((conv=>whnf);refine CA (i+1) ⟨ω,bH d (N0 (by grind))⟩ ω ?_;(exact wB))
 ·repeat'(first|refine gD ?_|(conv=>whnf);first|refine C5 (aI _ 1 32) ?_)
  obtain rfl:i=t.Entries.length:=ω
  exact Q0 (λz=>[B z]) ((by unfold fk;rw[d,Bool.true_and];exact decide_eq_decide.2 ω))
theorem fJ(t:aG)(f:Int)(c:aG.sml t):ao Tryz.prog 111 false [.val (some 1) (aG.enc .imm t),.val none [I f]] .one (aF .own (pagesOn t f)):=by
 have j:=c.1;refine fO 37 [] Tryz.func111 rfl ?_ (.inr (bM _))
 repeat'(first|refine gO ?_|fail)
 (conv=>whnf)
 refine CB (ι:=Nat) (λi=>[(1,.hold .one [I (f)]),(2,.hold .box (aG.enc .imm t)),(5,.hold .one (aF .own (i7 t f i))),(6,.hold .one [I ((i:Nat):Int)])]) (λi=>i<=t.Entries.length) (λi=>t.Entries.length - i) (0) ?_ (P0 _) λi k=>?_
 ·exact wB
 have d:=qU t f i;by_cases e:i<t.Entries.length
 ·have g:=ah e
  repeat'(first|refine gD ?_|(conv=>whnf);first|with_reducible (first|refine C9 (aa g) ?_|refine Bf.D (λb=>?_) (λb=>?_)|refine Bf.N (λb=>?_) (λb=>?_)|refine Bf.E (λb=>?_) (λb=>?_))|refine CO cv (λr h=>by rw[W0.1 h];rfl) (by simp[aU,dx]) (by simp;omega) (by simp only[T0];exact vL (by simp;omega) (by decide)) rfl ?_)
  all_goals first
   |(have a:G7 t f i=true:=N0 (by grind)
     (conv=>whnf)
     refine CA (i+1) ω ω ?_;rw[xL a]
     (repeat'(first|exact trivial|rfl|exact CG rfl (CG (Q0 (C.s du.own) (by simp[rI])) trivial)|refine CG ?_ ?_)))
   |(have a:G7 t f i=false:=O0 (by grind)
     (conv=>whnf)
     refine CA (i+1) ω ω ?_;rw[Ax a]
     (exact wA))
 ·repeat'(first|refine gD ?_|fail)
  obtain rfl:i=t.Entries.length:=ω
  rfl
theorem p8(t:aG)(f:Int)(c:aG.sml t):ao Tryz.prog 98 false [.val (some 1) (aG.enc .imm t),.val none [I f]] .one (aF .own (pagesOn t f)):=by
 have j:=c.1;refine fO 32 [] Tryz.func98 rfl ?_ (.inr (bM _))
 repeat'(first|refine gO ?_|fail)
 (conv=>whnf)
 refine CB (ι:=Nat) (λi=>[(1,.hold .one [I (f)]),(5,.hold .one (aF .own (i7 t f i))),(10,.hold .one (Ay .imm t.Entries)),(11,.hold .one [I (t.Entries.length)]),(12,.hold .one [I ((i:Nat):Int)])]) (λi=>i<=t.Entries.length) (λi=>t.Entries.length - i) (0) ?_ (P0 _) λi k=>?_
 ·exact wB
 have d:=qU t f i;by_cases e:i<t.Entries.length
 ·have g:=ah e
  repeat'(first|refine gD ?_|(conv=>whnf);first|with_reducible (first|refine C9 (aa g) ?_|refine Bf.D (λb=>?_) (λb=>?_)|refine Bf.N (λb=>?_) (λb=>?_)|refine Bf.E (λb=>?_) (λb=>?_))|refine CO cv (λr h=>by rw[W0.1 h];rfl) (by simp[aU,dx]) (by simp;omega) (by simp only[T0];exact vL (by simp;omega) (by decide)) rfl ?_)
  all_goals first
   |(have a:G7 t f i=true:=N0 (by grind)
     (conv=>whnf)
     refine CA (i+1) ω ω ?_;rw[xL a]
     (repeat'(first|exact trivial|rfl|exact CG rfl (CG (Q0 (C.s du.own) (by simp[rI])) trivial)|refine CG ?_ ?_)))
   |(have a:G7 t f i=false:=O0 (by grind)
     (conv=>whnf)
     refine CA (i+1) ω ω ?_;rw[Ax a]
     (exact wA))
 ·repeat'(first|refine gD ?_|fail)
  obtain rfl:i=t.Entries.length:=ω
  rfl
theorem cH(t:aG)(p:Int)(b:aG.sml t):ao Tryz.prog 110 false [.val (some 1) (aG.enc .imm t),.val none [I p]] .agg (bj.enc .own (ar t p)):=by
 have d:=b.1;refine fO 18 [] Tryz.func110 rfl ?_ (.inr (bj.enc_fr _));by_cases a:0<=p/\p<t.Entries.length
 ·have c:=ah (xs:=t.Entries) (i:=p.toNat) ω
  repeat'(first|refine gD ?_|(conv=>whnf);first|refine C5 (aD _ 0 _) ?_|refine CI a.1 (aa c) ?_)
  all_goals(unfold ar;rw[C7 a];rfl)
 ·repeat'(first|refine gD ?_|(conv=>whnf);first|refine C5 (aD _ 0 _) ?_)
  all_goals(unfold ar;rw[C6 a];rfl)
theorem jD(t:aG)(p:Int)(b:aG.sml t):ao Tryz.prog 97 false [.val (some 1) (aG.enc .imm t),.val none [I p]] .agg (bj.enc .own (ar t p)):=by
 have d:=b.1;refine fO 18 [] Tryz.func97 rfl ?_ (.inr (bj.enc_fr _));by_cases a:0<=p/\p<t.Entries.length
 ·have c:=ah (xs:=t.Entries) (i:=p.toNat) ω
  repeat'(first|refine gD ?_|(conv=>whnf);first|refine C5 (aI _ 0 _) ?_|refine CI a.1 (aa c) ?_)
  all_goals(unfold ar;rw[C7 a];rfl)
 ·repeat'(first|refine gD ?_|(conv=>whnf);first|refine C5 (aI _ 0 _) ?_)
  all_goals(unfold ar;rw[C6 a];rfl)
theorem pf(t:aG)(f:Int):(pagesOn t f).length<=t.Entries.length:=qU ..
theorem mE(m:aS)(b:aS.sml m):ao Tryz.prog 266 false [.val (some 3) (aS.enc .imm m)] .one [B (db m)]:=by
 have q:m.Frames.Used.length<=1048576:=b.1.2;have l:m.Frames.Cells.length<=1048576:=b.1.1.1;have c:=wj m.Frames b.1;have e:=yc m.Table m.Frames.Cells.length b.2;cases a:cV m.Frames with
 | false=>
  rw[a]at c;refine fO 39 [(6,13,[26,27,28,29,30,31,32,33,34,35,36,37,38])] Tryz.func266 rfl ?_
  repeat'(first|refine gO ?_|(conv=>whnf);first|refine C5 c ?_)
  exact Q0 (λz=>[B z]) ((by unfold db;rw[a];rfl))
 | true=>
  have g:=zv a;rw[a]at c;cases d:fk m.Table m.Frames.Used.length with
  | false=>
   rw[show(m.Frames.Cells.length:Int)=m.Frames.Used.length by omega,d]at e;refine fO 39 [(6,13,[26,27,28,29,30,31,32,33,34,35,36,37,38])] Tryz.func266 rfl ?_
   repeat'(first|refine gO ?_|(conv=>whnf);first|refine C5 c ?_|refine C5 ((show(m.Frames.Cells.length:Int)=m.Frames.Used.length by omega) ▸ e) ?_)
   exact Q0 (λz=>[B z]) ((by unfold db;rw[a,d];rfl))
  | true=>
   rw[show(m.Frames.Cells.length:Int)=m.Frames.Used.length by omega,d]at e;refine fO 39 [(6,13,[26,27,28,29,30,31,32,33,34,35,36,37,38])] Tryz.func266 rfl ?_
   repeat'(first|refine gO ?_|(conv=>whnf);first|refine C5 c ?_|refine C5 ((show(m.Frames.Cells.length:Int)=m.Frames.Used.length by omega) ▸ e) ?_)
   (conv=>whnf)
   refine CB (ι:=Nat) (λi=>[(1,.hold .box (aS.enc .imm m)),(3,.hold .one [I ((i:Nat):Int)])]) (λi=>i<=m.Frames.Used.length/\cw i (mO m)=true) (λi=>m.Frames.Used.length - i) 0 ?_ ⟨P0 _,rfl⟩ λi h=>?_
   ·exact wB
   obtain⟨h,j⟩:=h;by_cases k:i<m.Frames.Used.length
   ·have n:=ah k
    have o:=pf m.Table (i:Nat)
    repeat'(first|refine gD ?_|(conv=>whnf);first|with_reducible (first|refine C9 (aa n) ?_|refine Bf.NB (λp=>?_) (λp=>?_))|refine C5 (fJ m.Table (i:Nat) b.2) ?_)
    all_goals first
     | exact Q0 (λz=>[B z]) ((by symm;unfold db;rw[a,d,bW k (by unfold mO;grind)];rfl))
     | ((conv=>whnf);refine CA (i+1) ⟨ω,bH j (by unfold mO;grind)⟩ ω ?_;(exact wB))
   ·repeat'(first|refine gD ?_|fail)
    obtain rfl:i=m.Frames.Used.length:=ω
    exact Q0 (λz=>[B z]) ((by unfold db;rw[a,d,j];rfl))
theorem uO(m:aS)(d:aS.sml m):ao Tryz.prog 144 false [.val (some 3) (aS.enc .imm m)] .one [B (db m)]:=by
 have o:m.Frames.Used.length<=1048576:=d.1.2;have b:=vY m.Frames d.1;have e:=yl m.Table m.Frames.Used.length d.2;cases a:cV m.Frames with
 | false=>
  rw[a]at b;refine fO 37 [] Tryz.func144 rfl ?_
  repeat'(first|refine gO ?_|(conv=>whnf);first|refine C5 b ?_)
  exact Q0 (λz=>[B z]) ((by unfold db;rw[a];rfl))
 | true=>
  rw[a]at b;cases c:fk m.Table m.Frames.Used.length with
  | false=>
   rw[c]at e;refine fO 37 [] Tryz.func144 rfl ?_
   repeat'(first|refine gO ?_|(conv=>whnf);first|refine C5 b ?_|refine C5 e ?_)
   exact Q0 (λz=>[B z]) ((by unfold db;rw[a,c];rfl))
  | true=>
   rw[c]at e;refine fO 37 [] Tryz.func144 rfl ?_
   repeat'(first|refine gO ?_|(conv=>whnf);first|refine C5 b ?_|refine C5 e ?_)
   (conv=>whnf)
   refine CB (ι:=Nat) (λi=>[(1,.hold .box (aS.enc .imm m)),(21,.hold .one (y9 .imm m.Frames.Used)),(22,.hold .one [I (m.Frames.Used.length)]),(23,.hold .one [I ((i:Nat):Int)])]) (λi=>i<=m.Frames.Used.length/\cw i (mO m)=true) (λi=>m.Frames.Used.length - i) 0 ?_ ⟨P0 _,rfl⟩ λi g=>?_
   ·exact wB
   obtain⟨g,h⟩:=g;by_cases j:i<m.Frames.Used.length
   ·have k:=ah j
    have l:=pf m.Table (i:Nat)
    repeat'(first|refine gD ?_|(conv=>whnf);first|with_reducible (first|refine C9 (aa k) ?_|refine Bf.NB (λn=>?_) (λn=>?_))|refine C5 (p8 m.Table (i:Nat) d.2) ?_)
    all_goals first
     | exact Q0 (λz=>[B z]) ((by symm;unfold db;rw[a,c,bW j (by unfold mO;grind)];rfl))
     | ((conv=>whnf);refine CA (i+1) ⟨ω,bH h (by unfold mO;grind)⟩ ω ?_;(exact wB))
   ·repeat'(first|refine gD ?_|fail)
    obtain rfl:i=m.Frames.Used.length:=ω
    exact Q0 (λz=>[B z]) ((by unfold db;rw[a,c,h];rfl))
theorem kz(k:af)(d:af.sml k):ao Tryz.prog 201 false [.val (some 5) (af.enc .imm k)] .one [B (aA k)]:=by
 have n:k.Refuse.length<=1048576:=d.2;have a:=mE k.Machine d.1;refine fO 31 [] Tryz.func201 rfl ?_
 repeat'(first|refine gO ?_|fail)
 (conv=>whnf)
 refine CB (ι:=Nat) (λi=>[(1,.hold .box (af.enc .imm k)),(3,.hold .one [I ((i:Nat):Int)])]) (λi=>i<=k.Refuse.length/\cw i (λj=>decide (0<=nth k.Refuse j))=true) (λi=>k.Refuse.length - i) 0 ?_ ⟨P0 _,rfl⟩ λi e=>?_
 ·exact wB
 obtain⟨e,g⟩:=e;by_cases h:i<k.Refuse.length
 ·have l:=ah h
  repeat'(first|refine gD ?_|(conv=>whnf);first|with_reducible (first|refine C9 (aa l) ?_|refine Bf.D (λc=>?_) (λc=>?_)))
  all_goals first
   | exact Q0 (λz=>[B z]) ((by symm;unfold aA;rw[bW h (O0 ω)];rfl))
   | ((conv=>whnf);refine CA (i+1) ⟨ω,bH g (N0 ω)⟩ ω ?_;(exact wB))
 ·obtain rfl:i=k.Refuse.length:=ω
  cases b:db k.Machine with
  | false=>
   rw[b]at a
   repeat'(first|refine gD ?_|(conv=>whnf);first|refine C5 a ?_)
   all_goals exact Q0 (λz=>[B z]) ((by unfold aA;rw[b];simp))
  | true=>
   rw[b]at a
   repeat'(first|refine gD ?_|(conv=>whnf);first|with_reducible refine Bf.D (λc=>?_) (λc=>?_)|refine C5 a ?_|refine C5 (aD _ 0 100000) ?_)
   all_goals exact Q0 (λz=>[B z]) ((by unfold aA;rw[b,g];simp only[Bool.true_and];first|exact decide_eq_decide.2 ω|(symm;exact O0 ω)|(symm;exact N0 ω)))
theorem oh(k:af)(b:af.sml k):ao Tryz.prog 57 false [.val (some 5) (af.enc .imm k)] .one [B (aA k)]:=by
 have l:k.Refuse.length<=1048576:=b.2;have g:=uO k.Machine b.1;refine fO 29 [] Tryz.func57 rfl ?_
 repeat'(first|refine gO ?_|fail)
 (conv=>whnf)
 refine CB (ι:=Nat) (λi=>[(1,.hold .box (af.enc .imm k)),(6,.hold .one (aF .imm k.Refuse)),(7,.hold .one [I (k.Refuse.length)]),(8,.hold .one [I ((i:Nat):Int)])]) (λi=>i<=k.Refuse.length/\cw i (λj=>decide (0<=nth k.Refuse j))=true) (λi=>k.Refuse.length - i) 0 ?_ ⟨P0 _,rfl⟩ λi c=>?_
 ·exact wB
 obtain⟨c,d⟩:=c;by_cases e:i<k.Refuse.length
 ·have h:=ah e
  repeat'(first|refine gD ?_|(conv=>whnf);first|with_reducible (first|refine C9 (aa h) ?_|refine Bf.D (λa=>?_) (λa=>?_)))
  all_goals first
   | exact Q0 (λz=>[B z]) ((by symm;unfold aA;rw[bW e (O0 ω)];rfl))
   | ((conv=>whnf);refine CA (i+1) ⟨ω,bH d (N0 ω)⟩ ω ?_;(exact wB))
 ·obtain rfl:i=k.Refuse.length:=ω
  repeat'(first|refine gD ?_|(conv=>whnf);first|with_reducible refine Bf.D (λa=>?_) (λa=>?_)|refine C5 g ?_|refine C5 (aI _ 0 100000) ?_)
  all_goals exact Q0 (λz=>[B z]) ((by unfold aA;rw[d];cases db k.Machine<;>simp only[Bool.true_and,Bool.false_and]<;>first|rfl|exact decide_eq_decide.2 ω|(symm;exact O0 ω)|(symm;exact N0 ω)))
theorem vo(pages:Int)(r:a7)(b:0<=pages/\pages<=1048576):ao Tryz.prog 267 false [.val none [I pages],.val (some 2) (a7.enc .imm r)] .one [B (rangeIn pages r)]:=by
 refine fO 18 [] Tryz.func267 rfl ?_
 repeat'(first|refine gO ?_|(conv=>whnf);first|with_reducible refine Bf.D (λa=>?_) (λa=>?_)|refine C5 (aD _ 1 _) ?_|refine C5 (aD _ 0 _) ?_)
 all_goals exact Q0 (λz=>[B z]) ((by unfold rangeIn;first|(symm;exact O0 ω)|exact decide_eq_decide.2 ω))
theorem Df(pages:Int)(r:a7)(b:0<=pages/\pages<=1048576):ao Tryz.prog 159 false [.val none [I pages],.val (some 2) (a7.enc .imm r)] .one [B (rangeIn pages r)]:=by
 refine fO 18 [] Tryz.func159 rfl ?_
 repeat'(first|refine gO ?_|(conv=>whnf);first|with_reducible refine Bf.D (λa=>?_) (λa=>?_)|refine C5 (aI _ 1 _) ?_|refine C5 (aI _ 0 _) ?_)
 all_goals exact Q0 (λz=>[B z]) ((by unfold rangeIn;first|(symm;exact O0 ω)|exact decide_eq_decide.2 ω))
theorem lG(k:Int):ao Tryz.prog 194 false [.val none [I k]] .one [I (slots k)]:=by
 by_cases b:0<=k/\k<=3
 ·obtain rfl|rfl|rfl|rfl:k=0\/k=1\/k=2\/k=3:=ω
  all_goals
   refine fO 9 [] Tryz.func194 rfl ?_
   repeat'(first|refine gD ?_|(conv=>whnf);first|with_reducible refine Bf.D (λa=>?_) (λa=>?_)|refine C5 (aD _ 0 3) ?_|refine CJ (by decide) ?_|refine CH rfl ?_|refine CP rfl ?_)
   exact Q0 (λz=>[I z]) (by decide)
 ·refine fO 9 [] Tryz.func194 rfl ?_
  repeat'(first|refine gD ?_|(conv=>whnf);first|with_reducible refine Bf.D (λa=>?_) (λa=>?_)|refine C5 (aD _ 0 3) ?_)
  exact Q0 (λz=>[I z]) (by unfold slots;rw[C6 ω,C6 ω,C6 ω,C6 ω])
theorem gU(k:Int):ao Tryz.prog 172 false [.val none [I k]] .one [I (slots k)]:=by
 by_cases b:0<=k/\k<=3
 ·obtain rfl|rfl|rfl|rfl:k=0\/k=1\/k=2\/k=3:=ω
  all_goals
   refine fO 9 [] Tryz.func172 rfl ?_
   repeat'(first|refine gD ?_|(conv=>whnf);first|with_reducible refine Bf.D (λa=>?_) (λa=>?_)|refine C5 (eB _) ?_|refine C5 (ee _) ?_|refine CJ (by decide) ?_|refine CH rfl ?_|refine CP rfl ?_)
   exact Q0 (λz=>[I z]) (by decide)
 ·refine fO 9 [] Tryz.func172 rfl ?_
  repeat'(first|refine gD ?_|(conv=>whnf);first|with_reducible refine Bf.D (λa=>?_) (λa=>?_)|refine C5 (eB _) ?_)
  exact Q0 (λz=>[I z]) (by unfold slots;rw[C6 ω,C6 ω,C6 ω,C6 ω])
def Jt(k b:Int):Bool:=decide (0<=k/\k<=3/\0<=b/\b<=lim k)
theorem ou(k b:Int):ao Tryz.prog 193 false [.val none [I (slots k)],.val none [I b]] .one [B (Jt k b)]:=by
 by_cases d:0<=k/\k<=3
 ·obtain rfl|rfl|rfl|rfl:k=0\/k=1\/k=2\/k=3:=ω
  all_goals
   first|rw[show slots 0=16 from rfl]|rw[show slots 1=8 from rfl]|rw[show slots 2=4 from rfl]|rw[show slots 3=2 from rfl]
   refine fO 15 [] Tryz.func193 rfl ?_
   repeat'(first|refine gD ?_|(conv=>whnf);first|with_reducible refine Bf.D (λa=>?_) (λa=>?_)|refine C5 (aD _ 1 16) ?_|refine C5 (aD _ 0 _) ?_|refine CJ (by decide) ?_|refine CH (show _=(65536:Int) by decide) ?_|refine CH (show _=(65535:Int) by decide) ?_|refine CH (show _=(256:Int) by decide) ?_|refine CH (show _=(255:Int) by decide) ?_|refine CH (show _=(16:Int) by decide) ?_|refine CH (show _=(15:Int) by decide) ?_|refine CH (show _=(4:Int) by decide) ?_|refine CH (show _=(8:Int) by decide) ?_|refine CH (show _=(2:Int) by decide) ?_|refine CH (show _=(3:Int) by decide) ?_)
   all_goals exact Q0 (λz=>[B z]) ((decide_eq_decide.2 (by simp[lim])))
 ·have c:slots k=0:=by unfold slots;rw[C6 ω,C6 ω,C6 ω,C6 ω]
  rw[c];refine fO 15 [] Tryz.func193 rfl ?_
  repeat'(first|refine gD ?_|(conv=>whnf);first|with_reducible refine Bf.D (λa=>?_) (λa=>?_)|refine C5 (aD _ 1 16) ?_)
  exact Q0 (λz=>[B z]) ((by symm;exact O0 ω))
theorem vQ(k b:Int):ao Tryz.prog 244 false [.val none [I (slots k)],.val none [I b]] .one [B (Jt k b)]:=by
 by_cases d:0<=k/\k<=3
 ·obtain rfl|rfl|rfl|rfl:k=0\/k=1\/k=2\/k=3:=ω
  all_goals
   first|rw[show slots 0=16 from rfl]|rw[show slots 1=8 from rfl]|rw[show slots 2=4 from rfl]|rw[show slots 3=2 from rfl]
   refine fO 14 [] Tryz.func244 rfl ?_
   repeat'(first|refine gD ?_|(conv=>whnf);first|with_reducible refine Bf.D (λa=>?_) (λa=>?_)|refine C5 (aI _ 1 16) ?_|refine C5 (aI _ 0 _) ?_|refine CJ (by decide) ?_|refine CH (er (by decide) (by decide)) ?_)
   all_goals exact Q0 (λz=>[B z]) ((decide_eq_decide.2 (by simp[lim,IntKind.bits])))
 ·have c:slots k=0:=by unfold slots;rw[C6 ω,C6 ω,C6 ω,C6 ω]
  rw[c];refine fO 14 [] Tryz.func244 rfl ?_
  repeat'(first|refine gD ?_|(conv=>whnf);first|with_reducible refine Bf.D (λa=>?_) (λa=>?_)|refine C5 (aI _ 1 16) ?_)
  exact Q0 (λz=>[B z]) ((by symm;exact O0 ω))
theorem f6(s:au):ao Tryz.prog 113 false [.val (some 3) (au.enc .imm s)] .one [B (aX s)]:=by
 refine fO 14 [(1,12,[3,4,5,6,7,8,9,10,11,12,13,2])] Tryz.func113 rfl ?_
 repeat'(first|refine gO ?_|(conv=>whnf);first|with_reducible refine Bf.D (λa=>?_) (λa=>?_)|refine C5 (aD _ 0 31) ?_|refine C5 (lG _) ?_|refine C5 (ou _ _) ?_)
 all_goals exact Q0 (λz=>[B z]) ((by unfold aX;first|(symm;exact O0 ω)|exact decide_eq_decide.2 ω))
theorem iz(s:au):ao Tryz.prog 161 false [.val (some 3) (au.enc .imm s)] .one [B (aX s)]:=by
 refine fO 19 [(1,17,[3,4,5,6,7,8,9,10,11,12,13,14,15,16,17,18,2])] Tryz.func161 rfl ?_
 repeat'(first|refine gO ?_|(conv=>whnf);first|with_reducible refine Bf.D (λa=>?_) (λa=>?_)|refine C5 (aI _ 0 31) ?_|refine C5 (eB _) ?_|refine C5 (gU _) ?_|refine C5 (vQ _ _) ?_)
 all_goals exact Q0 (λz=>[B z]) ((by unfold aX;first|(symm;exact O0 ω)|exact decide_eq_decide.2 ω))
section
variable{α:Type}{xs:List α}{p:α->Bool}{i:Nat}{y:α}
theorem yp(h:xs[i]? = some y)(a:p y=true):xs.any p=true:=W2.2 ⟨y,I1 h,a⟩
theorem tq(h:xs[i]? = some y)(a:(xs.take i).any p=false)(b:p y=false):(xs.take (i+1)).any p=false:=by
 rw[Y3,h,List.any_append,a];simp[b]
theorem EQ(a:xs.length<=i)(b:(xs.take i).any p=false):xs.any p=false:=by
 rwa [W4 a]at b
theorem fg[Inhabited α](a:0<i)(b:i<xs.length):xs[((i:Int) - 1).toNat]? = some (nth xs (i - 1)):=by
 rw[show((i:Int) - 1).toNat=i - 1 by omega];exact ah ω
end
theorem tV{pages:Int}{xs:List a7}{i n:Nat}(a:cw n (fj pages xs)=true)(b:i<n):1<=(nth xs i).Len/\(nth xs i).Len<=pages/\0<=(nth xs i).At/\(nth xs i).At<=pages - (nth xs i).Len:=by
 have:=d6 a b;unfold fj rangeIn at this;simp only[I0,C0]at this;exact this.1
theorem kr(pages:Int)(xs:List a7)(e:0<=pages/\pages<=1048576)(k:gw xs):ao Tryz.prog 202 false [.val none [I pages],.val none (bF .imm xs)] .one [B (bw pages xs)]:=by
 have n:=k.1;refine fO 46 [(4,32,[12,13,14,15,16,17,18,19,20,21,22,23,24,25,26,27,28,29,30,31,32,33,34,35,36,37,38,39,40,41,42,43])] Tryz.func202 rfl ?_
 repeat'(first|refine gO ?_|fail)
 (conv=>whnf)
 refine CB (ι:=Nat) (λi=>[(0,.hold .one [I (pages)]),(1,.hold .one (bF .imm xs)),(5,.hold .one [I ((i:Nat):Int)])]) (λi=>i<=xs.length/\cw i (fj pages xs)=true) (λi=>xs.length - i) 0 ?_ ⟨P0 _,rfl⟩ λi g=>?_
 ·exact wB
 obtain⟨g,d⟩:=g;by_cases c:i<xs.length
 ·have j:=ah c
  have o:0<i->1<=(nth xs (i - 1)).Len/\(nth xs (i - 1)).Len<=pages/\0<=(nth xs (i - 1)).At/\(nth xs (i - 1)).At<=pages - (nth xs (i - 1)).Len:=λh=>tV d ω
  cases a:rangeIn pages (nth xs i) with
  | false=>
   have b:=vo pages (nth xs i) e;rw[a]at b
   repeat'(first|refine gD ?_|(conv=>whnf);first|with_reducible refine C9 (aa j) ?_|refine C5 b ?_)
   exact Q0 (λz=>[B z]) ((by symm;unfold bw;rw[bW c (by unfold fj;rw[a];rfl)];rfl))
  | true=>
   have b:=vo pages (nth xs i) e;rw[a]at b
   repeat'(first|refine gD ?_|(conv=>whnf);first|with_reducible (first|refine C9 (aa j) ?_|refine Bf.D (λl=>?_) (λl=>?_))|refine C5 b ?_|refine CI ω (aa (fg ω c)) ?_)
   all_goals first
    | exact Q0 (λz=>[B z]) ((by symm;unfold bw;rw[bW c (by unfold fj;rw[a,O0 ω];rfl)];rfl))
    | ((conv=>whnf);refine CA (i+1) ⟨ω,bH d (by unfold fj;rw[a,N0 ω];rfl)⟩ ω ?_;(exact wB))
 ·repeat'(first|refine gD ?_|(conv=>whnf);first|refine C5 (aD pages 1 32) ?_)
  obtain rfl:i=xs.length:=ω
  exact Q0 (λz=>[B z]) ((by unfold bw;rw[d];rfl))
theorem wo(pages:Int)(xs:List a7)(j:0<=pages/\pages<=1048576)(k:gw xs):ao Tryz.prog 67 false [.val none [I pages],.val none (bF .imm xs)] .one [B (bw pages xs)]:=by
 have n:=k.1;refine fO 43 [(4,26,[14,15,16,17,18,19,20,21,22,23,24,25,26,27,28,29,30,31,32,33,34,35,36,37,38,39])] Tryz.func67 rfl ?_
 repeat'(first|refine gO ?_|fail)
 (conv=>whnf)
 refine CB (ι:=Nat) (λi=>[(0,.hold .one [I (pages)]),(1,.hold .one (bF .imm xs)),(7,.hold .one (bF .imm xs)),(8,.hold .one [I (xs.length)]),(9,.hold .one [I ((i:Nat):Int)])]) (λi=>i<=xs.length/\cw i (fj pages xs)=true) (λi=>xs.length - i) 0 ?_ ⟨P0 _,rfl⟩ λi e=>?_
 ·exact wB
 obtain⟨e,d⟩:=e;by_cases b:i<xs.length
 ·have g:=ah b
  have o:0<i->1<=(nth xs (i - 1)).Len/\(nth xs (i - 1)).Len<=pages/\0<=(nth xs (i - 1)).At/\(nth xs (i - 1)).At<=pages - (nth xs (i - 1)).Len:=λh=>tV d ω
  have c:=Df pages (nth xs i) j;cases a:rangeIn pages (nth xs i) with
  | false=>
   rw[a]at c
   repeat'(first|refine gD ?_|(conv=>whnf);first|with_reducible refine C9 (aa g) ?_|refine C5 c ?_)
   exact Q0 (λz=>[B z]) ((by symm;unfold bw;rw[bW b (by unfold fj;rw[a];rfl)];rfl))
  | true=>
   rw[a]at c
   repeat'(first|refine gD ?_|(conv=>whnf);first|with_reducible (first|refine C9 (aa g) ?_|refine Bf.D (λl=>?_) (λl=>?_))|refine C5 c ?_|refine CI ω (aa (fg ω b)) ?_)
   all_goals first
    | exact Q0 (λz=>[B z]) ((by symm;unfold bw;rw[bW b (by unfold fj;rw[a,O0 ω];rfl)];rfl))
    | ((conv=>whnf);refine CA (i+1) ⟨ω,bH d (by unfold fj;rw[a,N0 ω];rfl)⟩ ω ?_;(exact wB))
 ·repeat'(first|refine gD ?_|(conv=>whnf);first|refine C5 (aI pages 1 32) ?_)
  obtain rfl:i=xs.length:=ω
  exact Q0 (λz=>[B z]) ((by unfold bw;rw[d];rfl))
theorem vO(xs:List a7)(page:Int)(g:xs.length<=9223372036854775807):ao Tryz.prog 270 false [.val none (bF .imm xs),.val none [I page]] .one [B (xs.any (oU page))]:=by
 refine fO 34 [(4,22,[12,13,14,15,16,17,18,19,20,21,22,23,24,25,26,27,28,29,30,31,32,33])] Tryz.func270 rfl ?_
 repeat'(first|refine gO ?_|fail)
 (conv=>whnf)
 refine CB (ι:=Nat) (λi=>[(0,.hold .one (bF .imm xs)),(1,.hold .one [I (page)]),(5,.hold .one [I ((i:Nat):Int)])]) (λi=>i<=xs.length/\(xs.take i).any (oU page)=false) (λi=>xs.length - i) (0) ?_ (⟨P0 _,rfl⟩) λi b=>?_
 ·exact wB
 obtain⟨b,c⟩:=b;by_cases d:i<xs.length
 ·have a:=ah d
  repeat'(first|refine gD ?_|(conv=>whnf);first|with_reducible (first|refine C9 (aa a) ?_|refine Bf.D (λe=>?_) (λe=>?_))|refine CH rfl ?_)
  all_goals first
   | exact Q0 (λz=>[B z]) ((yp a (by unfold oU;rw[N0 (by assumption),N0 (by assumption)];rfl)).symm)
   | ((conv=>whnf);refine CA (i+1) ⟨ω,tq a c (by unfold oU;first|(rw[O0 (by assumption:¬(nth xs i).At<=page)];rfl)|(rw[O0 (by assumption:¬page<_)];simp))⟩ ω ?_;(exact wB))
 ·repeat'(first|refine gD ?_|fail)
  exact Q0 (λz=>[B z]) ((EQ ω c).symm)
theorem tdiv16{z:Int}(h:0<=z):z.tdiv 16=z / 16:=Int.tdiv_eq_ediv_of_nonneg h
theorem ky(z:Int):ao Tryz.prog 293 false [.val none [I z]] .one [I (ed z)]:=by
 refine fO 10 [] Tryz.func293 rfl ?_;by_cases b:9<=z/\z<=1000
 ·repeat'(first|refine gD ?_|(conv=>whnf);first|with_reducible refine Bf.D (λa=>?_) (λa=>?_)|refine C5 (aD z 9 1000) ?_|refine CJ (by decide) ?_|refine CH ((Q0 _ (tdiv16 ω)).trans (er ω ω)) ?_)
  all_goals exact Q0 (λz=>[I z]) (by unfold ed;rw[C7 b];omega)
 ·repeat'(first|refine gD ?_|(conv=>whnf);first|with_reducible refine Bf.D (λa=>?_) (λa=>?_)|refine C5 (aD z 9 1000) ?_)
  all_goals exact Q0 (λz=>[I z]) (by unfold ed;rw[C6 b])
theorem w7(z:Int):ao Tryz.prog 217 false [.val none [I z]] .one [I (ed z)]:=by
 refine fO 10 [] Tryz.func217 rfl ?_;by_cases b:9<=z/\z<=1000
 ·repeat'(first|refine gD ?_|(conv=>whnf);first|with_reducible refine Bf.D (λa=>?_) (λa=>?_)|refine C5 (aI z 9 1000) ?_|refine CJ (by decide) ?_|refine CH ((Q0 _ (tdiv16 ω)).trans (er ω ω)) ?_)
  all_goals exact Q0 (λz=>[I z]) (by unfold ed;rw[C7 b];omega)
 ·repeat'(first|refine gD ?_|(conv=>whnf);first|with_reducible refine Bf.D (λa=>?_) (λa=>?_)|refine C5 (aI z 9 1000) ?_)
  all_goals exact Q0 (λz=>[I z]) (by unfold ed;rw[C6 b])
theorem lh(l:a8):ao Tryz.prog 269 false [.val (some 3) (a8.enc .imm l)] .one [B (bP l)]:=by
 have b:=ky l.Size;by_cases c:9<=l.Size/\l.Size<=1000
 ·rw[show ed l.Size=(l.Size+15) / 16 from C7 c]at b
  refine fO 22 [] Tryz.func269 rfl ?_
  repeat'(first|refine gO ?_|(conv=>whnf);first|with_reducible (first|refine Bf.D (λa=>?_) (λa=>?_)|refine Bf.E (λa=>?_) (λa=>?_))|refine C5 b ?_|refine C5 (aD _ 0 _) ?_)
  all_goals exact Q0 (λz=>[B z]) ((by unfold bP;first|(symm;exact O0 ω)|exact decide_eq_decide.2 ω))
 ·rw[show ed l.Size=0 from C6 c]at b
  refine fO 22 [] Tryz.func269 rfl ?_
  repeat'(first|refine gD ?_|(conv=>whnf);first|with_reducible refine Bf.D (λa=>?_) (λa=>?_)|refine C5 b ?_)
  all_goals exact Q0 (λz=>[B z]) ((by unfold bP;symm;exact O0 ω))
theorem pW(l:a8):ao Tryz.prog 162 false [.val (some 3) (a8.enc .imm l)] .one [B (bP l)]:=by
 have b:=w7 l.Size;by_cases c:9<=l.Size/\l.Size<=1000
 ·rw[show ed l.Size=(l.Size+15) / 16 from C7 c]at b
  refine fO 22 [(1,20,[3,4,5,6,7,8,9,10,11,12,13,14,15,16,17,18,19,20,21,2])] Tryz.func162 rfl ?_
  repeat'(first|refine gD ?_|(conv=>whnf);first|with_reducible (first|refine Bf.D (λa=>?_) (λa=>?_)|refine Bf.E (λa=>?_) (λa=>?_))|refine C5 b ?_|refine C5 (aI _ 9 1000) ?_|refine C5 (aI _ 0 _) ?_)
  all_goals exact Q0 (λz=>[B z]) ((by unfold bP;first|(symm;exact O0 ω)|exact decide_eq_decide.2 ω))
 ·refine fO 22 [(1,20,[3,4,5,6,7,8,9,10,11,12,13,14,15,16,17,18,19,20,21,2])] Tryz.func162 rfl ?_
  repeat'(first|refine gD ?_|(conv=>whnf);first|with_reducible refine Bf.D (λa=>?_) (λa=>?_)|refine C5 (aI _ 9 1000) ?_)
  all_goals exact Q0 (λz=>[B z]) ((by unfold bP;symm;exact O0 ω))
theorem lA{z:Int}(h:0<=z/\z<=9223372036854775807):(BitVec.ofInt IntKind.i64.bits z).toNat=z.toNat:=by
 show(BitVec.ofInt 64 z).toNat=z.toNat;rw[BitVec.toNat_ofInt]
 congr 1
 exact Int.emod_eq_of_lt h.1 (by show z<((2 ^ 64:Nat):Int);have:=h.2;norm_cast;omega)
theorem and64{z1 z2:Int}(h1:0<=z1/\z1<=9223372036854775807)(a:0<=z2/\z2<=9223372036854775807):IntKind.i64.wrap ((BitVec.ofInt IntKind.i64.bits z1 &&& BitVec.ofInt IntKind.i64.bits z2).toNat:Nat)=((z1.toNat &&& z2.toNat:Nat):Int):=by
 rw[BitVec.toNat_and,lA h1,lA a];have:z1.toNat &&& z2.toNat<=z1.toNat:=Nat.and_le_left;exact er ω ω
theorem Eg(k:Int):lim k<=65535:=by
 unfold lim
 (repeat' split)<;>decide
theorem ep{s:au}(h:aX s=true):0<=s.Bits/\s.Bits<=9223372036854775807:=by
 unfold aX at h;simp only[C0]at h;have:=Eg s.Class;omega
theorem kn(b c:au):ao Tryz.prog 40 false [.val (some 3) (au.enc .imm b),.val (some 3) (au.enc .imm c)] .one [B (meshable b c)]:=by
 have g:=f6 b;have h:=f6 c;cases d:aX b<;>rw[d]at g<;>cases e:aX c<;>rw[e]at h
 all_goals
  refine fO 33 [] Tryz.func40 rfl ?_
  repeat'(first|refine gO ?_|(conv=>whnf);first|with_reducible (first|refine Bf.D (λa=>?_) (λa=>?_)|refine Bf.N (λa=>?_) (λa=>?_)|refine Bf.E (λa=>?_) (λa=>?_))|refine C5 g ?_|refine C5 h ?_|refine CH (and64 (ep d) (ep e)) ?_)
  all_goals exact Q0 (λz=>[B z]) ((by unfold meshable;rw[d,e];first|rfl|(symm;exact O0 ω)|(rw[Q3];simp;omega)))
theorem wF(b c:au):ao Tryz.prog 165 false [.val (some 3) (au.enc .imm b),.val (some 3) (au.enc .imm c)] .one [B (meshable b c)]:=by
 have g:=iz b;have h:=iz c;cases d:aX b<;>rw[d]at g<;>cases e:aX c<;>rw[e]at h
 all_goals
  refine fO 33 [] Tryz.func165 rfl ?_
  repeat'(first|refine gO ?_|(conv=>whnf);first|with_reducible (first|refine Bf.D (λa=>?_) (λa=>?_)|refine Bf.N (λa=>?_) (λa=>?_)|refine Bf.E (λa=>?_) (λa=>?_))|refine C5 g ?_|refine C5 h ?_|refine CH (and64 (ep d) (ep e)) ?_)
  all_goals exact Q0 (λz=>[B z]) ((by unfold meshable;rw[d,e];first|rfl|(symm;exact O0 ω)|(rw[Q3];simp;omega)))
theorem Fk(k:Int):ao Tryz.prog 247 false [.val none [I k]] .one [B (decide (0<=k/\k<=15))]:=by
 refine fO 5 [] Tryz.func247 rfl ?_
 repeat'(first|refine gO ?_|(conv=>whnf);first|refine C5 (aI k 0 15) ?_)
 rfl
theorem rY(p:cr)(e:cr.sml p):ao Tryz.prog 279 false [.val (some 3) (cr.enc .imm p)] .one [B (ef p)]:=by
 have h:p.Cells.length<=1048576:=e;refine fO 51 [(4,25,[11,12,13,14,15,16,17,18,19,20,21,22,23,24,25,26,27,28,29,30,31,32,33,34,35])] Tryz.func279 rfl ?_
 repeat'(first|refine gO ?_|fail)
 (conv=>whnf)
 refine CB (ι:=Nat) (λi=>[(1,.hold .box (cr.enc .imm p)),(3,.hold .one [I ((i:Nat):Int)])]) (λi=>i<=p.Cells.length/\cw i (ly p.Cells)=true) (λi=>p.Cells.length - i) 0 ?_ ⟨P0 _,rfl⟩ λi c=>?_
 ·exact wB
 obtain⟨c,d⟩:=c;by_cases b:i<p.Cells.length
 ·have g:=ah b
  repeat'(first|refine gD ?_|(conv=>whnf);first|with_reducible (first|refine C9 (aa g) ?_|refine Bf.D (λa=>?_) (λa=>?_))|refine C5 (aD _ 0 15) ?_|refine CI ω (aa (fg ω b)) ?_)
  all_goals first
   | exact Q0 (λz=>[B z]) ((by symm;unfold ef;rw[bW b (O0 ω)];rfl))
   | ((conv=>whnf);refine CA (i+1) ⟨ω,bH d (N0 ω)⟩ ω ?_;(exact wB))
 ·obtain rfl:i=p.Cells.length:=ω
  repeat'(first|refine gD ?_|(conv=>whnf);first|with_reducible (first|refine Bf.D (λa=>?_) (λa=>?_)|refine Bf.NB (λa=>?_) (λa=>?_)|refine Bf.N (λa=>?_) (λa=>?_))|refine C5 (aD _ 0 31) ?_)
  all_goals exact Q0 (λz=>[B z]) ((by unfold ef;rw[d];simp only[Bool.true_and];first|(symm;exact O0 ω)|exact decide_eq_decide.2 ω|(rw[Q3];simp;omega)))
theorem BJ(p:cr)(e:cr.sml p):ao Tryz.prog 171 false [.val (some 3) (cr.enc .imm p)] .one [B (ef p)]:=by
 have h:p.Cells.length<=1048576:=e;refine fO 46 [] Tryz.func171 rfl ?_
 repeat'(first|refine gO ?_|fail)
 (conv=>whnf)
 refine CB (ι:=Nat) (λi=>[(1,.hold .box (cr.enc .imm p)),(6,.hold .one (aF .imm p.Cells)),(7,.hold .one [I (p.Cells.length)]),(8,.hold .one [I ((i:Nat):Int)])]) (λi=>i<=p.Cells.length/\cw i (ly p.Cells)=true) (λi=>p.Cells.length - i) 0 ?_ ⟨P0 _,rfl⟩ λi c=>?_
 ·exact wB
 obtain⟨c,d⟩:=c;by_cases b:i<p.Cells.length
 ·have g:=ah b
  repeat'(first|refine gD ?_|(conv=>whnf);first|with_reducible (first|refine C9 (aa g) ?_|refine Bf.D (λa=>?_) (λa=>?_))|refine C5 (Fk _) ?_|refine CI ω (aa (fg ω b)) ?_)
  all_goals first
   | exact Q0 (λz=>[B z]) ((by symm;unfold ef;rw[bW b (O0 ω)];rfl))
   | ((conv=>whnf);refine CA (i+1) ⟨ω,bH d (N0 ω)⟩ ω ?_;(exact wB))
 ·obtain rfl:i=p.Cells.length:=ω
  repeat'(first|refine gD ?_|(conv=>whnf);first|with_reducible (first|refine Bf.D (λa=>?_) (λa=>?_)|refine Bf.NB (λa=>?_) (λa=>?_)|refine Bf.N (λa=>?_) (λa=>?_))|refine C5 (aI _ 0 31) ?_)
  all_goals exact Q0 (λz=>[B z]) ((by unfold ef;rw[d];simp only[Bool.true_and];first|(symm;exact O0 ω)|exact decide_eq_decide.2 ω|(rw[Q3];simp;omega)))
theorem tz(j:cF)(a:cF.sml j):ao Tryz.prog 212 false [.val (some 5) (cF.enc .imm j)] .one [B (iB j)]:=by
 have e:j.Plan.Cells.length<=1048576:=a;have b:=rY j.Plan a;cases c:ef j.Plan<;>rw[c]at b
 all_goals
  refine fO 20 [] Tryz.func212 rfl ?_
  repeat'(first|refine gO ?_|(conv=>whnf);first|with_reducible refine Bf.D (λd=>?_) (λd=>?_)|refine C5 b ?_|refine C5 (aD _ 0 5) ?_|refine C5 (aD _ 0 _) ?_)
  all_goals exact Q0 (λz=>[B z]) ((by unfold iB;rw[c];first|rfl|(symm;exact O0 ω)|(rw[Q3];simp;omega)))
theorem BR(j:cF)(a:cF.sml j):ao Tryz.prog 77 false [.val (some 5) (cF.enc .imm j)] .one [B (iB j)]:=by
 have e:j.Plan.Cells.length<=1048576:=a;have b:=BJ j.Plan a;cases c:ef j.Plan<;>rw[c]at b
 all_goals
  refine fO 20 [] Tryz.func77 rfl ?_
  repeat'(first|refine gO ?_|(conv=>whnf);first|with_reducible refine Bf.D (λd=>?_) (λd=>?_)|refine C5 b ?_|refine C5 (aI _ 0 5) ?_|refine C5 (aI _ 0 _) ?_)
  all_goals exact Q0 (λz=>[B z]) ((by unfold iB;rw[c];first|rfl|(symm;exact O0 ω)|(rw[Q3];simp;omega)))
theorem jn(l:a8)(k:Nat):lpgs l (k+1)=lpgs l k++[l.Page+(k:Nat)]:=by
 unfold lpgs;rw[List.range_succ,t4];rfl
theorem A7(l:a8)(k:Nat):(lpgs l k).length=k:=by unfold lpgs;simp
theorem HV(l:a8){k n:Nat}(h:k<=n):lpgs l k <+: lpgs l n:=by
 induction n with
 | zero=>
  obtain rfl:k=0:=ω
  exact List.prefix_refl _
 | succ n b=>
  rcases Nat.lt_or_ge n k with a|a
  ·obtain rfl:k=n+1:=ω
   exact List.prefix_refl _
  ·rw[jn];exact(b a).trans (List.prefix_append ..)
theorem mW(sp:List au){la:List a8}{i:Nat}{l:a8}(h:la[i]? = some l):pgs sp (la.take (i+1))=pgs sp (la.take i)++lpgs l l.Pages.toNat:=by
 unfold pgs;rw[Y3,h,List.flatMap_append];simp
theorem K9(sp:List au)(la:List a8)(i:Nat):pgs sp (la.take i) <+: pgs sp la:=by
 unfold pgs;refine(List.prefix_append_right_inj _).2 ?_
 conv=>rhs;rw[<-List.take_append_drop i la,List.flatMap_append]
 exact List.prefix_append ..
theorem Jx{S all:List Int}{p:Int}(h:(S++[p]) <+: all)(b:p∈S):decide all.Nodup=false:=by
 refine O0 λc=>?_
 have a:=c.sublist h.sublist;rw[List.nodup_append]at a;exact a.2.2 p b p (by simp) rfl
theorem jB{S:List Int}{p:Int}(h:S.Nodup)(b:p∉S):(S++[p]).Nodup:=by
 rw[List.nodup_append];exact⟨h,by simp,λx c y a e=>by simp at a;subst a;subst e;exact b c⟩
theorem A4{sp:List au}{la:List a8}{i:Nat}{s:au}(h:sp[i]? = some s):((sp.take i).map (·.Page)++[s.Page]) <+: pgs sp la:=by
 have a:(sp.take i).map (·.Page)++[s.Page]=(sp.take (i+1)).map (·.Page):=by rw[Y3,h];simp
 rw[a];refine List.IsPrefix.trans ?_ (List.prefix_append ..);rw[v3];exact List.take_prefix ..
theorem xB{sp:List au}{la:List a8}{i k:Nat}{l:a8}(h:la[i]? = some l)(a:k<l.Pages.toNat):(pgs sp (la.take i)++lpgs l k++[l.Page+(k:Nat)]) <+: pgs sp la:=by
 refine List.IsPrefix.trans ?_ (K9 sp la (i+1));rw[mW sp h,Z3,<-jn];exact(List.prefix_append_right_inj _).2 (HV l a)
theorem nY{sp:List au}{la:List a8}{i:Nat}{s:au}(h:sp[i]? = some s)(a:aX s=false):bi sp la=false:=by
 unfold bi;rw[dJ h a];rfl
theorem mS{sp:List au}{la:List a8}{i:Nat}{l:a8}(h:la[i]? = some l)(a:bP l=false):bi sp la=false:=by
 unfold bi;rw[dJ h a];simp
theorem jd{sp:List au}{la:List a8}{S:List Int}{p:Int}(h:(S++[p]) <+: pgs sp la)(a:p∈S):bi sp la=false:=by
 unfold bi;rw[Jx h a];simp
theorem qr{sp:List au}{la:List a8}(h1:sp.all aX=true)(a:la.all bP=true)(b:(pgs sp la).Nodup):bi sp la=true:=by
 unfold bi;rw[h1,a,N0 b];rfl
theorem aT{l:a8}(h:bP l=true):1<=l.Pages/\l.Pages<=63/\0<=l.Page/\l.Page<=31:=by
 unfold bP at h;simp only[C0]at h;omega
theorem kA(sp:List au)(la:List a8)(t:dc sp)(u:dm la):ao Tryz.prog 203 false [.val none (bX .imm sp),.val none (bV .imm la)] .one [B (bi sp la)]:=by
 have J:=t.1;have K:=u.1;refine fO 79 [] Tryz.func203 rfl ?_
 repeat'(first|refine gO ?_|fail)
 (conv=>whnf)
 refine CB (ι:=Nat × List Int) (λi=>[(0,.hold .one (bX .imm sp)),(1,.hold .one (bV .imm la)),(5,.hold .one (aF .own i.2)),(6,.hold .one [I ((i.1:Nat):Int)])]) (λi=>i.1<=sp.length/\i.2=(sp.take i.1).map (·.Page)/\(sp.take i.1).all aX=true/\i.2.Nodup) (λi=>sp.length - i.1) ((0,[])) ?_ (⟨P0 _,rfl,rfl,List.nodup_nil⟩) λi p=>?_
 ·exact wB
 obtain⟨i,S⟩:=i;obtain⟨p,o,h,l⟩:=p;simp only at p o h l |-;have L:S.length=i:=by rw[o,T0,Z0];omega
 by_cases w:i<sp.length
 ·have a:=ah w
  have n:=f6 (nth sp i);cases j:aX (nth sp i)<;>rw[j]at n
  ·repeat'(first|refine gD ?_|(conv=>whnf);first|with_reducible refine C9 (aa a) ?_|refine C5 n ?_)
   exact Q0 (λz=>[B z]) ((nY a j).symm)
  ·repeat'(first|refine gD ?_|(conv=>whnf);first|with_reducible (first|refine C9 (aa a) ?_|refine Bf.D (λy=>?_) (λy=>?_))|refine C5 n ?_|refine CD (kO S _ ω) ⟨⟨rfl,dz _⟩,⟨rfl,rfl⟩,trivial⟩ ?_|refine CO cv (λr E=>by rw[W0.1 E];rfl) (by simp[aU,dx]) (by simp;omega) (by simp only[T0];exact vL (by simp;omega) (by decide)) rfl ?_)
   all_goals first
    | exact Q0 (λz=>[B z]) ((jd (S:=S) (by rw[o];exact A4 a) (by assumption)).symm)
    | ((conv=>whnf)
       refine CA (i+1,S++[(nth sp i).Page]) ⟨(by simp only;omega),(by simp only;rw[o,Y3,a];simp),(cm a h j),jB l (by assumption)⟩ (by simp only;omega) ?_
       (repeat'(first|exact trivial|rfl|exact CG rfl (CG (Q0 (C.s du.own) (by simp[rI])) trivial)|refine CG ?_ ?_)))
 ·obtain rfl:i=sp.length:=ω
  rw[U3]at h o
  repeat'(first|refine gD ?_|fail)
  (conv=>whnf)
  refine CB (ι:=Nat × List Int) (λi=>[(1,.hold .one (bV .imm la)),(5,.hold .one (aF .own i.2)),(7,.hold .one [I ((i.1:Nat):Int)])]) (λi=>i.1<=la.length/\i.2=pgs sp (la.take i.1)/\(la.take i.1).all bP=true/\i.2.Nodup/\i.2.length<=1048576+64*i.1) (λi=>la.length - i.1) ((0,S)) ?_ (⟨P0 _,by rw[o];unfold pgs;simp,rfl,l,by simp only;omega⟩) λi p=>?_
  ·exact wB
  obtain⟨i,S2⟩:=i;obtain⟨F,c,b,d,G⟩:=p;simp only at F c b d G |-;by_cases w:i<la.length
  ·have a:=ah w
   have n:=lh (nth la i);cases j:bP (nth la i)<;>rw[j]at n
   ·repeat'(first|refine gD ?_|(conv=>whnf);first|with_reducible refine C9 (aa a) ?_|refine C5 n ?_)
    exact Q0 (λz=>[B z]) ((mS a j).symm)
   ·have M:=aT j
    repeat'(first|refine gD ?_|(conv=>whnf);first|with_reducible refine C9 (aa a) ?_|refine C5 n ?_)
    (conv=>whnf)
    refine CB (ι:=Nat × List Int) (λk=>[(1,.hold .one (bV .imm la)),(5,.hold .one (aF .own k.2)),(7,.hold .one [I ((i:Nat):Int)]),(8,.hold .one [I ((k.1:Nat):Int)])]) (λk=>k.1<=(nth la i).Pages.toNat/\k.2=S2++lpgs (nth la i) k.1/\k.2.Nodup) (λk=>(nth la i).Pages.toNat - k.1) ((0,S2)) ?_ (⟨P0 _,by simp[lpgs],d⟩) λk H=>?_
    ·exact wB
    obtain⟨k,q⟩:=k;obtain⟨H,e,g⟩:=H;simp only at H e g |-;have N:q.length=S2.length+k:=by rw[e,I2,A7]
    by_cases O:k<(nth la i).Pages.toNat
    ·repeat'(first|refine gD ?_|(conv=>whnf);first|with_reducible (first|refine C9 (aa a) ?_|refine Bf.D (λy=>?_) (λy=>?_))|refine CD (kO q _ ω) ⟨⟨rfl,dz _⟩,⟨rfl,rfl⟩,trivial⟩ ?_|refine CO cv (λr E=>by rw[W0.1 E];rfl) (by simp[aU,dx]) (by simp;omega) (by show _*8<=_;simp;omega) rfl ?_)
     all_goals first
      | exact Q0 (λz=>[B z]) ((jd (S:=q) (by rw[e,c];exact xB a O) (by assumption)).symm)
      | ((conv=>whnf)
         refine CA (k+1,q++[(nth la i).Page+(k:Nat)]) ⟨(by simp only;omega),(by simp only;rw[e,jn,Z3]),jB g (by assumption)⟩ (by simp only;omega) ?_
         (repeat'(first|exact trivial|rfl|exact CG rfl (CG (Q0 (C.s du.own) (by simp[rI])) trivial)|refine CG ?_ ?_)))
    ·obtain rfl:k=(nth la i).Pages.toNat:=ω
     repeat'(first|refine gD ?_|(conv=>whnf);first|with_reducible refine C9 (aa a) ?_)
     ((conv=>whnf);refine CA (i+1,q) ⟨(by simp only;omega),(by simp only;rw[e,c,<-mW sp a]),(cm a b j),g,(by simp only;omega)⟩ (by simp only;omega) ?_;(exact wB))
  ·obtain rfl:i=la.length:=ω
   rw[U3]at b c
   repeat'(first|refine gD ?_|fail)
   exact Q0 (λz=>[B z]) ((qr h b (by rw[<-c];exact d)).symm)
def ins(S:List Int)(p:Int):List Int:=if p∈S then S else S++[p]
theorem Er{p:Int} : ∀{S:List Int},p∈S->mput (eA S) p (.bool true)=eA S
 | x::S,h=>by
  simp only[eA,z4,mput];by_cases a:x=p
  ·rw[C7 a,a]
  ·rw[C6 a]
   have:=Er (S:=S) ((List.mem_cons.1 h).resolve_left λe=>a e.symm);simp only[eA]at this;rw[this]
theorem tQ(S:List Int)(p:Int):eA (ins S p)=mput (eA S) p (.bool true):=by
 unfold ins;split
 ·rw[Er (by assumption)]
 ·rw[rq (by assumption)]
theorem Jn(S:List Int)(p:Int):aQ Tryz.prog 160 false [.val none [I p],.ptr [.m (eA S)]] [.val none [I p],.ptr [.m (eA (ins S p))]] .one [B (decide (p∉S))]:=by
 refine fM 12 [] [] [(0,0),(0,0)] Tryz.func160 rfl (λu q=>?_)
 repeat'(first|refine gO ?_|(conv=>whnf);first|refine Ml.mk (lc p S) ?_|refine Mu.mk (tQ S p) ?_)
 refine CC rfl ?_ ?_
 ·exact Q0 (λz=>[B z]) (by simp)
 ·exact wB
theorem nZ(sp:List au)(la:List a8)(t:dc sp)(u:dm la):ao Tryz.prog 68 false [.val none (bX .imm sp),.val none (bV .imm la)] .one [B (bi sp la)]:=by
 have F:=t.1;have G:=u.1;refine fP 54 [(160,[0,2])] [] Tryz.func68 rfl ?_
 repeat'(first|refine gO ?_|fail)
 (conv=>whnf)
 refine CB (ι:=Nat × List Int) (λi=>[(1,.hold .one (bV .imm la)),(5,.hold .box [.m (eA i.2)]),(6,.fn 160 [5]),(14,.hold .one (bX .imm sp)),(15,.hold .one [I (sp.length)]),(16,.hold .one [I ((i.1:Nat):Int)])]) (λi=>i.1<=sp.length/\i.2=(sp.take i.1).map (·.Page)/\(sp.take i.1).all aX=true/\i.2.Nodup) (λi=>sp.length - i.1) ((0,[])) ?_ (⟨P0 _,rfl,rfl,List.nodup_nil⟩) λi p=>?_
 ·exact wB
 obtain⟨i,S⟩:=i;obtain⟨p,q,h,n⟩:=p;simp only at p q h n |-;by_cases w:i<sp.length
 ·have c:=ah w
  have o:=iz (nth sp i);cases l:aX (nth sp i)<;>rw[l]at o
  ·repeat'(first|refine gD ?_|(conv=>whnf);first|with_reducible refine C9 (aa c) ?_|refine C5 o ?_)
   exact Q0 (λz=>[B z]) ((nY c l).symm)
  ·repeat'(first|refine gD ?_|(conv=>whnf);first|with_reducible (first|refine C9 (aa c) ?_|refine Bf.D (λy=>?_) (λy=>?_))|refine C5 o ?_|refine CF (Jn S _) (.inl rfl) ?_)
   all_goals first
    | exact Q0 (λz=>[B z]) ((jd (S:=S) (by rw[q];exact A4 c) (by grind)).symm)
    |(have a:(nth sp i).Page∉S:=by assumption
      (conv=>whnf)
      refine CA (i+1,ins S (nth sp i).Page) ⟨(by simp only;omega),(by simp only;unfold ins;rw[C6 a,q,Y3,c];simp),(cm c h l),(by simp only;unfold ins;rw[C6 a];exact jB n a)⟩ (by simp only;omega) ?_
      (exact wA))
 ·obtain rfl:i=sp.length:=ω
  rw[U3]at h q
  repeat'(first|refine gD ?_|fail)
  (conv=>whnf)
  refine CB (ι:=Nat × List Int) (λi=>[(5,.hold .box [.m (eA i.2)]),(6,.fn 160 [5]),(31,.hold .one (bV .imm la)),(32,.hold .one [I (la.length)]),(33,.hold .one [I ((i.1:Nat):Int)])]) (λi=>i.1<=la.length/\i.2=pgs sp (la.take i.1)/\(la.take i.1).all bP=true/\i.2.Nodup) (λi=>la.length - i.1) ((0,S)) ?_ (⟨P0 _,by rw[q];unfold pgs;simp,rfl,n⟩) λi p=>?_
  ·exact wB
  obtain⟨i,S2⟩:=i;obtain⟨C,d,b,e⟩:=p;simp only at C d b e |-;by_cases w:i<la.length
  ·have c:=ah w
   have o:=pW (nth la i);cases l:bP (nth la i)<;>rw[l]at o
   ·repeat'(first|refine gD ?_|(conv=>whnf);first|with_reducible refine C9 (aa c) ?_|refine C5 o ?_)
    exact Q0 (λz=>[B z]) ((mS c l).symm)
   ·have H:=aT l
    repeat'(first|refine gD ?_|(conv=>whnf);first|with_reducible refine C9 (aa c) ?_|refine C5 o ?_)
    (conv=>whnf)
    refine CB (ι:=Nat × List Int) (λk=>[(5,.hold .box [.m (eA k.2)]),(6,.fn 160 [5]),(10,.hold .box (a8.enc .imm (nth la i))),(11,.hold .one [I ((k.1:Nat):Int)]),(31,.hold .one (bV .imm la)),(32,.hold .one [I (la.length)]),(33,.hold .one [I ((i:Nat):Int)])]) (λk=>k.1<=(nth la i).Pages.toNat/\k.2=S2++lpgs (nth la i) k.1/\k.2.Nodup) (λk=>(nth la i).Pages.toNat - k.1) ((0,S2)) ?_ (⟨P0 _,by simp[lpgs],e⟩) λk E=>?_
    ·exact wB
    obtain⟨k,r⟩:=k;obtain⟨E,j,g⟩:=E;simp only at E j g |-;by_cases J:k<(nth la i).Pages.toNat
    ·repeat'(first|refine gD ?_|(conv=>whnf);first|with_reducible refine Bf.D (λy=>?_) (λy=>?_)|refine CF (Jn r _) (.inl rfl) ?_)
     all_goals first
      | exact Q0 (λz=>[B z]) ((jd (S:=r) (by rw[j,d];exact xB c J) (by grind)).symm)
      |(have a:(nth la i).Page+(k:Nat)∉r:=by assumption
        (conv=>whnf)
        refine CA (k+1,ins r ((nth la i).Page+(k:Nat))) ⟨(by simp only;omega),(by simp only;unfold ins;rw[C6 a,j,jn,Z3]),(by simp only;unfold ins;rw[C6 a];exact jB g a)⟩ (by simp only;omega) ?_
        (exact wA))
    ·obtain rfl:k=(nth la i).Pages.toNat:=ω
     repeat'(first|refine gD ?_|fail)
     ((conv=>whnf);refine CA (i+1,r) ⟨(by simp only;omega),(by simp only;rw[j,d,<-mW sp c]),(cm c b l),g⟩ (by simp only;omega) ?_;(exact wB))
  ·obtain rfl:i=la.length:=ω
   rw[U3]at b d
   repeat'(first|refine gD ?_|fail)
   exact Q0 (λz=>[B z]) ((qr h b (by rw[<-d];exact e)).symm)
theorem aE{s:au}(h:aX s=true):0<=s.Page/\s.Page<=31/\0<=s.Class/\s.Class<=3:=by
 unfold aX at h;simp only[C0]at h;omega
theorem ce{k:Int}(h:0<=k/\k<=3):csz k=1\/csz k=2\/csz k=4\/csz k=8:=by
 obtain rfl|rfl|rfl|rfl:k=0\/k=1\/k=2\/k=3:=ω
 all_goals decide
theorem mT{x y:Int}(h:0<=x):x.tdiv y=x / y:=Int.tdiv_eq_ediv_of_nonneg h
theorem f8{x y:Int}(h:0<=x):x.tmod y=x % y:=Int.tmod_eq_emod_of_nonneg h
def S2(p:Int × Int):List C:=[I p.1,I p.2]
theorem wW{a b:Int}{p:Int × Int}(h:(a,b)=p):[I a,I b]=S2 p:=by subst h;rfl
theorem rH(s:au)(a:Int)(k:kX a):ao Tryz.prog 328 false [.val (some 3) (au.enc .imm s),.val none [I a]] (.tup [none,none]) (S2 (gM s a)):=by
 have g:=f6 s;have l:=dq s.Class;obtain⟨n,o⟩:=k;cases b:aX s<;>rw[b]at g
 ·refine fO 33 [(4,12,[23,24,25,26,27,28,29,30,31,32,4,5])] Tryz.func328 rfl ?_ (.inr ⟨trivial,trivial,trivial⟩)
  repeat'(first|refine gO ?_|(conv=>whnf);first|refine C5 g ?_)
  exact wW (by unfold gM cn;rw[b];rfl)
 ·have h:=aE b
  have i:=ce ⟨h.2.2.1,h.2.2.2⟩;by_cases c:16*s.Page<=a/\a<=16*s.Page+15
  ·have j:0<=a:=ω
   refine fO 33 [(4,12,[23,24,25,26,27,28,29,30,31,32,4,5])] Tryz.func328 rfl ?_ (.inr ⟨trivial,trivial,trivial⟩)
   repeat'(first|refine gD ?_|(conv=>whnf);first|with_reducible refine Bf.N (λd=>?_) (λd=>?_)|refine C5 g ?_|refine C5 l ?_|refine CJ (by decide) ?_|refine CJ ω ?_|refine CH ((Q0 _ (mT j)).trans (er ω ω)) ?_|refine CP (f8 j) ?_|refine CH ((Q0 _ (mT ω)).trans (er (by rcases i with e|e|e|e<;>rw[e]<;>omega) (by rcases i with e|e|e|e<;>rw[e]<;>omega))) ?_|refine CP (f8 ω) ?_)
   all_goals first
    |(exfalso;omega)
    |exact wW (by unfold gM cn;rw[b,N0 c];show _=((a - 16*s.Page) / csz s.Class,(a - 16*s.Page) % csz s.Class);rw[show a % 16=a - 16*s.Page by omega])
  ·refine fO 33 [(4,12,[23,24,25,26,27,28,29,30,31,32,4,5])] Tryz.func328 rfl ?_ (.inr ⟨trivial,trivial,trivial⟩)
   repeat'(first|refine gO ?_|(conv=>whnf);first|with_reducible (first|refine Bf.D (λd=>?_) (λd=>?_)|refine Bf.N (λd=>?_) (λd=>?_))|refine C5 g ?_|refine CJ (by decide) ?_|refine CH ((Q0 _ (mT ω)).trans (er ω ω)) ?_)
   all_goals first
    |exact wW (by unfold gM cn;rw[b,O0 c];rfl)
    |(exfalso;omega)
theorem Bc(s:au)(a:Int):ao Tryz.prog 182 false [.val (some 3) (au.enc .imm s),.val none [I a]] (.tup [none,none]) (S2 (gM s a)):=by
 have d:=iz s;have j:=ee s.Class;cases b:aX s<;>rw[b]at d
 ·refine fO 38 [(4,12,[28,29,30,31,32,33,34,35,36,37,4,5])] Tryz.func182 rfl ?_ (.inr ⟨trivial,trivial,trivial⟩)
  repeat'(first|refine gO ?_|(conv=>whnf);first|refine C5 d ?_)
  exact wW (by unfold gM cn;rw[b];rfl)
 ·have h:=aE b
  have i:=ce ⟨h.2.2.1,h.2.2.2⟩;by_cases c:16*s.Page<=a/\a<=16*s.Page+15
  ·refine fO 38 [(4,12,[28,29,30,31,32,33,34,35,36,37,4,5])] Tryz.func182 rfl ?_ (.inr ⟨trivial,trivial,trivial⟩)
   repeat'(first|refine gD ?_|(conv=>whnf);first|with_reducible refine Bf.D (λg=>?_) (λg=>?_)|refine C5 d ?_|refine C5 j ?_|refine C5 (aI _ _ _) ?_|refine CJ ω ?_|refine CH ((Q0 _ (mT ω)).trans (er (by rcases i with e|e|e|e<;>rw[e]<;>omega) (by rcases i with e|e|e|e<;>rw[e]<;>omega))) ?_|refine CP (f8 ω) ?_)
   all_goals exact wW (by unfold gM cn;rw[b,N0 c];show _=((a - 16*s.Page) / csz s.Class,(a - 16*s.Page) % csz s.Class);rw[show a - s.Page*16=a - 16*s.Page by omega])
  ·refine fO 38 [(4,12,[28,29,30,31,32,33,34,35,36,37,4,5])] Tryz.func182 rfl ?_ (.inr ⟨trivial,trivial,trivial⟩)
   repeat'(first|refine gD ?_|(conv=>whnf);first|with_reducible refine Bf.D (λg=>?_) (λg=>?_)|refine C5 d ?_|refine C5 (aI _ _ _) ?_)
   all_goals exact wW (by unfold gM cn;rw[b,O0 c];rfl)
theorem nG(b i:Int):ao Tryz.prog 260 false [.val none [I b],.val none [I i]] .one [B (decide (0<=b/\0<=i/\i<=15))]:=by
 refine fO 11 [] Tryz.func260 rfl ?_
 repeat'(first|refine gO ?_|(conv=>whnf);first|with_reducible refine Bf.D (λa=>?_) (λa=>?_)|refine C5 (aD _ 0 15) ?_)
 all_goals exact Q0 (λz=>[B z]) ((by first|(symm;exact O0 ω)|exact decide_eq_decide.2 ω))
theorem xw(b i:Int):ao Tryz.prog 248 false [.val none [I b],.val none [I i]] .one [B (decide (0<=b/\0<=i/\i<=15))]:=by
 refine fO 11 [] Tryz.func248 rfl ?_
 repeat'(first|refine gO ?_|(conv=>whnf);first|with_reducible refine Bf.D (λa=>?_) (λa=>?_)|refine C5 (aI _ 0 15) ?_)
 all_goals exact Q0 (λz=>[B z]) ((by first|(symm;exact O0 ω)|exact decide_eq_decide.2 ω))
theorem GI{b i:Int}(a:0<=b/\b<=9223372036854775807)(e:0<=i/\i<=15):b.fdiv (2 ^ min i.toNat IntKind.i64.bits)=b / 2 ^ i.toNat/\0<=b / 2 ^ i.toNat/\b / 2 ^ i.toNat<=9223372036854775807:=by
 have d:min i.toNat IntKind.i64.bits=i.toNat:=Nat.min_eq_left (show i.toNat<=64 by omega);rw[d];have c:(0:Int)<=2 ^ i.toNat:=Int.pow_nonneg (by decide);refine⟨Int.fdiv_eq_ediv_of_nonneg _ c,Int.ediv_nonneg a.1 c,?_⟩;have:=Int.ediv_le_self (2 ^ i.toNat:Int) a.1;omega
theorem tC{b i:Int}(a:0<=b)(e:0<=i/\i<=15):((((b / 2 ^ i.toNat).toNat &&& (1:Int).toNat:Nat):Int) == 1)=aW b i:=by
 have c:(0:Int)<=b / 2 ^ i.toNat:=Int.ediv_nonneg a (Int.pow_nonneg (by decide));have d:(b / 2 ^ i.toNat).toNat &&& (1:Int).toNat=(b / 2 ^ i.toNat).toNat % 2:=Nat.and_one_is_mod _;rw[d];unfold aW;generalize b / 2 ^ i.toNat=q at c |-;rw[Q3,beq_iff_eq,C0];omega
theorem gV(b i:Int)(c:b<=9223372036854775807):ao Tryz.prog 192 false [.val none [I b],.val none [I i]] .one [B (aW b i)]:=by
 by_cases h:0<=b/\0<=i/\i<=15
 ·obtain⟨d,g⟩:=GI (b:=b) (i:=i) ⟨h.1,c⟩ h.2
  have j:IntKind.u64.wrap i=i:=by unfold IntKind.wrap;simp[IntKind.signed,IntKind.bits];omega
  refine fO 16 [] Tryz.func192 rfl ?_
  repeat'(first|refine gD ?_|(conv=>whnf);first|with_reducible refine Bf.D (λa=>?_) (λa=>?_)|refine C5 (nG _ _) ?_|refine CJ ω ?_|refine CH j ?_|refine CP d ?_|refine CH (and64 g ⟨by decide,by decide⟩) ?_)
  all_goals exact Q0 (λz=>[B z]) ((tC h.1 h.2))
 ·refine fO 16 [] Tryz.func192 rfl ?_
  repeat'(first|refine gD ?_|(conv=>whnf);first|with_reducible refine Bf.D (λa=>?_) (λa=>?_)|refine C5 (nG _ _) ?_)
  all_goals exact Q0 (λz=>[B z]) ((by unfold aW;symm;exact O0 λe=>h ⟨e.1,e.2.1,e.2.2.1⟩))
theorem pX(b i:Int)(c:b<=9223372036854775807):ao Tryz.prog 173 false [.val none [I b],.val none [I i]] .one [B (aW b i)]:=by
 by_cases h:0<=b/\0<=i/\i<=15
 ·obtain⟨d,g⟩:=GI (b:=b) (i:=i) ⟨h.1,c⟩ h.2
  refine fO 15 [] Tryz.func173 rfl ?_
  repeat'(first|refine gD ?_|(conv=>whnf);first|with_reducible refine Bf.D (λa=>?_) (λa=>?_)|refine C5 (xw _ _) ?_|refine CJ ω ?_|refine CP d ?_|refine CH (and64 g ⟨by decide,by decide⟩) ?_)
  all_goals exact Q0 (λz=>[B z]) ((tC h.1 h.2))
 ·refine fO 15 [] Tryz.func173 rfl ?_
  repeat'(first|refine gD ?_|(conv=>whnf);first|with_reducible refine Bf.D (λa=>?_) (λa=>?_)|refine C5 (xw _ _) ?_)
  all_goals exact Q0 (λz=>[B z]) ((by unfold aW;symm;exact O0 λe=>h ⟨e.1,e.2.1,e.2.2.1⟩))
theorem ci{l:a8}(h:bP l=true):9<=l.Size/\l.Size<=1000/\0<=l.Page/\l.Page<=31:=by
 unfold bP at h;simp only[C0]at h;omega
theorem nU(l:a8)(a:Int):ao Tryz.prog 329 false [.val (some 3) (a8.enc .imm l),.val none [I a]] .one [B (bv l a)]:=by
 have c:=lh l;cases b:bP l<;>rw[b]at c
 ·refine fO 24 [] Tryz.func329 rfl ?_
  repeat'(first|refine gO ?_|(conv=>whnf);first|refine C5 c ?_)
  exact Q0 (λz=>[B z]) ((by unfold bv;rw[b];rfl))
 ·have e:=ci b
  refine fO 24 [] Tryz.func329 rfl ?_
  repeat'(first|refine gO ?_|(conv=>whnf);first|with_reducible refine Bf.D (λd=>?_) (λd=>?_)|refine C5 c ?_)
  all_goals exact Q0 (λz=>[B z]) ((by unfold bv;rw[b,Bool.true_and];first|(symm;exact O0 ω)|exact decide_eq_decide.2 ω))
theorem ot(l:a8)(a:Int):ao Tryz.prog 183 false [.val (some 3) (a8.enc .imm l),.val none [I a]] .one [B (bv l a)]:=by
 have c:=pW l;cases b:bP l<;>rw[b]at c
 ·refine fO 21 [] Tryz.func183 rfl ?_
  repeat'(first|refine gO ?_|(conv=>whnf);first|refine C5 c ?_)
  exact Q0 (λz=>[B z]) ((by unfold bv;rw[b];rfl))
 ·have e:=ci b
  refine fO 21 [] Tryz.func183 rfl ?_
  repeat'(first|refine gO ?_|(conv=>whnf);first|with_reducible refine Bf.D (λd=>?_) (λd=>?_)|refine C5 c ?_|refine C5 (aI _ _ _) ?_)
  all_goals exact Q0 (λz=>[B z]) ((by unfold bv;rw[b,Bool.true_and];exact decide_eq_decide.2 ω))
theorem rg(l:a8)(a:Int)(h:bv l a=true):ao Tryz.prog 330 false [.val (some 3) (a8.enc .imm l),.val none [I a]] .one [I (a - 16*l.Page)]:=by
 have b:=nU l a;rw[h]at b;unfold bv at h;simp only[I0,C0]at h;have c:=ci h.1;refine fO 14 [] Tryz.func330 rfl ?_
 repeat'(first|refine gO ?_|(conv=>whnf);first|refine C5 b ?_)
 exact Q0 (λz=>[I z]) ω
theorem qB(l:a8)(a:Int)(h:bv l a=true):ao Tryz.prog 184 false [.val (some 3) (a8.enc .imm l),.val none [I a]] .one [I (a - 16*l.Page)]:=by
 have b:=ot l a;rw[h]at b;unfold bv at h;simp only[I0,C0]at h;have c:=ci h.1;refine fO 14 [] Tryz.func184 rfl ?_
 repeat'(first|refine gO ?_|(conv=>whnf);first|refine C5 b ?_)
 exact Q0 (λz=>[I z]) ω
theorem nH{m:aJ}{i:Nat}(a:i<m.Buffers.length)(h:fT m i=false):b9 m=false:=by
 unfold b9;rw[bW a h];simp
theorem tt{m:aJ}(h:¬(1<=m.Buffers.length/\m.Buffers.length<=4/\m.Inbox.length=m.Buffers.length)):b9 m=false:=by
 unfold b9;rw[O0 h];rfl
theorem vh{m:aJ}(h1:1<=m.Buffers.length/\m.Buffers.length<=4/\m.Inbox.length=m.Buffers.length)(a:cw m.Buffers.length (fT m)=true):b9 m=decide (bm m m.Buffers.length<=30):=by
 unfold b9;rw[N0 h1,a];rfl
theorem jY(m:aJ)(h:aJ.sml m):ao Tryz.prog 206 false [.val (some 2) (aJ.enc .imm m)] .one [B (b9 m)]:=by
 have u:m.Buffers.length<=1048576:=h.1.1;have w:m.Inbox.length<=1048576:=h.2.1;by_cases n:1<=m.Buffers.length/\m.Buffers.length<=4/\m.Inbox.length=m.Buffers.length
 ·refine fO 92 [(19,15,[75,76,77,78,79,80,81,82,83,84,85,86,87,88,89])] Tryz.func206 rfl ?_
  repeat'(first|refine gA ?_|(conv=>whnf);first|with_reducible (first|refine Bf.D (λa=>?_) (λa=>?_)|refine Bf.N (λa=>?_) (λa=>?_))|refine C5 (aD _ 1 4) ?_)
  (conv=>whnf)
  refine CB (ι:=Nat) (λi=>[(1,.hold .box (aJ.enc .imm m)),(3,.hold .one [I (m.Buffers.length)]),(4,.hold .one [I (bm m i)]),(5,.hold .one [I ((i:Nat):Int)])]) (λi=>i<=m.Buffers.length/\cw i (fT m)=true/\0<=bm m i/\bm m i<=2097152*i) (λi=>m.Buffers.length - i) (0) ?_ (⟨P0 _,rfl,by simp[bm],by simp[bm]⟩) λi o=>?_
  ·exact wB
  obtain⟨o,p,G,H⟩:=o;by_cases j:i<m.Buffers.length
  ·have l:=ah j
   have q:=ah (xs:=m.Inbox) (i:=i) ω;have y:(nth m.Buffers i).length<=1048576:=(h.1.2 _ (am j)).1;have C:(nth m.Inbox i).length<=1048576:=h.2.2 _ (am ω)
   repeat'(first|refine gD ?_|fail)
   (conv=>whnf)
   refine CB (ι:=Nat) (λk=>[(1,.hold .box (aJ.enc .imm m)),(3,.hold .one [I (m.Buffers.length)]),(4,.hold .one [I (bm m i)]),(5,.hold .one [I ((i:Nat):Int)]),(6,.hold .one [I ((k:Nat):Int)])]) (λk=>k<=(nth m.Buffers i).length/\((nth m.Buffers i).take k).all (lJ m.Buffers.length)=true) (λk=>(nth m.Buffers i).length - k) (0) ?_ (⟨P0 _,rfl⟩) λk r=>?_
   ·exact wB
   obtain⟨r,t⟩:=r;by_cases E:k<(nth m.Buffers i).length
   ·have c:=ah E
    repeat'(first|refine gD ?_|(conv=>whnf);first|with_reducible (first|refine C9 (aa l) ?_|refine C9 (aa c) ?_|refine Bf.D (λa=>?_) (λa=>?_))|refine C5 (aD _ 0 _) ?_)
    all_goals first
     | exact Q0 (λz=>[B z]) ((nH j (by unfold fT;rw[dJ c (by unfold lJ;exact O0 ω)];rfl)).symm)
     | ((conv=>whnf);refine CA (k+1) ⟨ω,cm c t (by unfold lJ;exact N0 ω)⟩ ω ?_;(exact wB))
   ·have F:=fS ω t
    repeat'(first|refine gD ?_|(conv=>whnf);first|with_reducible refine C9 (aa l) ?_)
    (conv=>whnf)
    refine CB (ι:=Nat) (λb=>[(1,.hold .box (aJ.enc .imm m)),(3,.hold .one [I (m.Buffers.length)]),(4,.hold .one [I (bm m i)]),(5,.hold .one [I ((i:Nat):Int)]),(8,.hold .one [I ((b:Nat):Int)])]) (λb=>b<=(nth m.Inbox i).length/\((nth m.Inbox i).take b).all KA=true) (λb=>(nth m.Inbox i).length - b) (0) ?_ (⟨P0 _,rfl⟩) λb e=>?_
    ·exact wB
    obtain⟨e,ak2⟩:=e;by_cases lk2:b<(nth m.Inbox i).length
    ·have c:=ah lk2
     repeat'(first|refine gD ?_|(conv=>whnf);first|with_reducible (first|refine C9 (aa q) ?_|refine C9 (aa c) ?_|refine Bf.D (λa=>?_) (λa=>?_)))
     all_goals first
      | exact Q0 (λz=>[B z]) ((nH j (by unfold fT;rw[dJ c (by unfold KA;exact O0 ω)];simp)).symm)
      | ((conv=>whnf);refine CA (b+1) ⟨ω,cm c ak2 (by unfold KA;exact N0 ω)⟩ ω ?_;(exact wB))
    ·have ae2:=fS ω ak2
     have g:bm m (i+1)=bm m i+((nth m.Buffers i).length+(nth m.Inbox i).length):=rfl;have d:bm m (i+1)=bm m i+(nth m.Buffers i).length+(nth m.Inbox i).length:=by rw[g];omega
     repeat'(first|refine gD ?_|(conv=>whnf);first|with_reducible (first|refine C9 (aa l) ?_|refine C9 (aa q) ?_))
     ((conv=>whnf);refine CA (i+1) ⟨ω,bH p (by unfold fT;rw[F,ae2];rfl),ω,ω⟩ ω ?_)
     rw[d];exact wB
  ·obtain rfl:i=m.Buffers.length:=ω
   repeat'(first|refine gD ?_|fail)
   exact Q0 (λz=>[B z]) ((vh n p).symm)
 ·refine fO 92 [(19,15,[75,76,77,78,79,80,81,82,83,84,85,86,87,88,89])] Tryz.func206 rfl ?_
  repeat'(first|refine gO ?_|(conv=>whnf);first|with_reducible (first|refine Bf.D (λa=>?_) (λa=>?_)|refine Bf.N (λa=>?_) (λa=>?_))|refine C5 (aD _ 1 4) ?_)
  all_goals first
   | exact Q0 (λz=>[B z]) ((tt n).symm)
   |(exfalso;omega)
theorem r8(m:aJ)(g:aJ.sml m):ao Tryz.prog 70 false [.val (some 2) (aJ.enc .imm m)] .one [B (b9 m)]:=by
 have t:m.Buffers.length<=1048576:=g.1.1;have u:m.Inbox.length<=1048576:=g.2.1;by_cases n:1<=m.Buffers.length/\m.Buffers.length<=4/\m.Inbox.length=m.Buffers.length
 ·refine fO 82 [(20,15,[64,65,66,67,68,69,70,71,72,73,74,75,76,77,78])] Tryz.func70 rfl ?_
  repeat'(first|refine gA ?_|(conv=>whnf);first|with_reducible (first|refine Bf.D (λa=>?_) (λa=>?_)|refine Bf.N (λa=>?_) (λa=>?_))|refine C5 (aI _ 1 4) ?_)
  (conv=>whnf)
  refine CB (ι:=Nat) (λi=>[(1,.hold .box (aJ.enc .imm m)),(3,.hold .one [I (m.Buffers.length)]),(4,.hold .one [I (bm m i)]),(25,.hold .one [I (m.Buffers.length)]),(26,.hold .one [I ((i:Nat):Int)])]) (λi=>i<=m.Buffers.length/\cw i (fT m)=true/\0<=bm m i/\bm m i<=2097152*i) (λi=>m.Buffers.length - i) (0) ?_ (⟨P0 _,rfl,by simp[bm],by simp[bm]⟩) λi o=>?_
  ·exact wB
  obtain⟨o,p,F,G⟩:=o;by_cases h:i<m.Buffers.length
  ·have j:=ah h
   have l:=ah (xs:=m.Inbox) (i:=i) ω;have w:(nth m.Buffers i).length<=1048576:=(g.1.2 _ (am h)).1;have y:(nth m.Inbox i).length<=1048576:=g.2.2 _ (am ω)
   repeat'(first|refine gD ?_|(conv=>whnf);first|with_reducible refine C9 (aa j) ?_)
   (conv=>whnf)
   refine CB (ι:=Nat) (λk=>[(1,.hold .box (aJ.enc .imm m)),(3,.hold .one [I (m.Buffers.length)]),(4,.hold .one [I (bm m i)]),(5,.hold .one [I ((i:Nat):Int)]),(25,.hold .one [I (m.Buffers.length)]),(26,.hold .one [I ((i:Nat):Int)]),(33,.hold .one (cL .imm (nth m.Buffers i))),(34,.hold .one [I ((nth m.Buffers i).length)]),(35,.hold .one [I ((k:Nat):Int)])]) (λk=>k<=(nth m.Buffers i).length/\((nth m.Buffers i).take k).all (lJ m.Buffers.length)=true) (λk=>(nth m.Buffers i).length - k) (0) ?_ (⟨P0 _,rfl⟩) λk q=>?_
   ·exact wB
   obtain⟨q,r⟩:=q;by_cases C:k<(nth m.Buffers i).length
   ·have c:=ah C
    repeat'(first|refine gD ?_|(conv=>whnf);first|with_reducible (first|refine C9 (aa j) ?_|refine C9 (aa c) ?_|refine Bf.D (λa=>?_) (λa=>?_))|refine C5 (aI _ 0 _) ?_)
    all_goals first
     | exact Q0 (λz=>[B z]) ((nH h (by unfold fT;rw[dJ c (by unfold lJ;exact O0 ω)];rfl)).symm)
     | ((conv=>whnf);refine CA (k+1) ⟨ω,cm c r (by unfold lJ;exact N0 ω)⟩ ω ?_;(exact wB))
   ·have E:=fS ω r
    repeat'(first|refine gD ?_|(conv=>whnf);first|with_reducible (first|refine C9 (aa j) ?_|refine C9 (aa l) ?_))
    (conv=>whnf)
    refine CB (ι:=Nat) (λb=>[(1,.hold .box (aJ.enc .imm m)),(3,.hold .one [I (m.Buffers.length)]),(4,.hold .one [I (bm m i)]),(5,.hold .one [I ((i:Nat):Int)]),(25,.hold .one [I (m.Buffers.length)]),(26,.hold .one [I ((i:Nat):Int)]),(55,.hold .one (aF .imm (nth m.Inbox i))),(56,.hold .one [I ((nth m.Inbox i).length)]),(57,.hold .one [I ((b:Nat):Int)])]) (λb=>b<=(nth m.Inbox i).length/\((nth m.Inbox i).take b).all KA=true) (λb=>(nth m.Inbox i).length - b) (0) ?_ (⟨P0 _,rfl⟩) λb d=>?_
    ·exact wB
    obtain⟨d,ak2⟩:=d;by_cases lk2:b<(nth m.Inbox i).length
    ·have c:=ah lk2
     repeat'(first|refine gD ?_|(conv=>whnf);first|with_reducible (first|refine C9 (aa l) ?_|refine C9 (aa c) ?_|refine Bf.D (λa=>?_) (λa=>?_)))
     all_goals first
      | exact Q0 (λz=>[B z]) ((nH h (by unfold fT;rw[dJ c (by unfold KA;exact O0 ω)];simp)).symm)
      | ((conv=>whnf);refine CA (b+1) ⟨ω,cm c ak2 (by unfold KA;exact N0 ω)⟩ ω ?_;(exact wB))
    ·have ae2:=fS ω ak2
     have e:bm m (i+1)=bm m i+((nth m.Buffers i).length+(nth m.Inbox i).length):=rfl
     repeat'(first|refine gD ?_|(conv=>whnf);first|with_reducible (first|refine C9 (aa j) ?_|refine C9 (aa l) ?_))
     ((conv=>whnf);refine CA (i+1) ⟨ω,bH p (by unfold fT;rw[E,ae2];rfl),ω,ω⟩ ω ?_)
     rw[e];exact wB
  ·obtain rfl:i=m.Buffers.length:=ω
   repeat'(first|refine gD ?_|fail)
   exact Q0 (λz=>[B z]) ((vh n p).symm)
 ·refine fO 82 [(20,15,[64,65,66,67,68,69,70,71,72,73,74,75,76,77,78])] Tryz.func70 rfl ?_
  repeat'(first|refine gO ?_|(conv=>whnf);first|with_reducible (first|refine Bf.D (λa=>?_) (λa=>?_)|refine Bf.N (λa=>?_) (λa=>?_))|refine C5 (aI _ 1 4) ?_)
  all_goals first
   | exact Q0 (λz=>[B z]) ((tt n).symm)
   |(exfalso;omega)
theorem wP{s:au}{a:Int}(h:cn s a=false):S2 (gM s a)=[I (-1),I (-1)]:=by
 unfold gM;rw[h];rfl
theorem vH{s:au}{a:Int}(h:cn s a=true):S2 (gM s a)=[I ((a - 16*s.Page) / csz s.Class),I ((a - 16*s.Page) % csz s.Class)]:=by
 unfold gM;rw[h];rfl
theorem pU{s:au}{a:Int}(h:cn s a=true):aX s=true/\0<=(a - 16*s.Page) / csz s.Class/\(a - 16*s.Page) / csz s.Class<=15:=by
 unfold cn at h;simp only[I0,C0]at h;have b:=aE h.1;refine⟨h.1,?_⟩;rcases ce ⟨b.2.2.1,b.2.2.2⟩ with e|e|e|e<;>rw[e]<;>omega
theorem kZ{sp:List au}{la:List a8}{a:Int}{i:Nat}(b:i<sp.length)(h:cn (nth sp i) a=true)(c:∀(j:Nat)(z:au),j<i->sp[j]? = some z->cn z a=false):denotes sp la a=nL i (nth sp i) a:=by
 unfold denotes;rw[ta (pr:=(cn · a)) (ah b) h c]
theorem ku{sp:List au}{la:List a8}{a:Int}{i n:Nat}(b:sp.length<=n)(c:∀(j:Nat)(z:au),j<n->sp[j]? = some z->cn z a=false)(d:i<la.length)(h:bv (nth la i) a=true)(e:∀(j:Nat)(z:a8),j<i->la[j]? = some z->bv z a=false) :
  denotes sp la a = ⟨3,i,0,a - 16*(nth la i).Page⟩:=by
 unfold denotes;rw[vb (pr:=(cn · a)) b c,ta (pr:=(bv · a)) (ah d) h e]
theorem vn{sp:List au}{la:List a8}{a:Int}{n k:Nat}(b:sp.length<=n)(c:∀(j:Nat)(z:au),j<n->sp[j]? = some z->cn z a=false)(d:la.length<=k)(e:∀(j:Nat)(z:a8),j<k->la[j]? = some z->bv z a=false):denotes sp la a = ⟨0,0,0,0⟩:=by
 unfold denotes;rw[vb (pr:=(cn · a)) b c,vb (pr:=(bv · a)) d e]
theorem lR(sp:List au)(la:List a8)(a:Int)(e:dc sp)(g:dm la)(h:bi sp la=true)(C:kX a):ao Tryz.prog 275 false [.val none (bX .imm sp),.val none (bV .imm la),.val none [I a]] .agg (ip.enc .own (denotes sp la a)):=by
 have E:=e.1;have F:=g.1;have q:=kA sp la e g;rw[h]at q;refine fO 67 [] Tryz.func275 rfl ?_ (.inr (ip.enc_fr _))
 repeat'(first|refine gO ?_|(conv=>whnf);first|refine C5 q ?_)
 (conv=>whnf)
 refine CB (ι:=Nat) (λi=>[(0,.hold .one (bX .imm sp)),(1,.hold .one (bV .imm la)),(2,.hold .one [I (a)]),(6,.hold .box ([I 0,I 0,I 0,I 0])),(7,.hold .one [I ((i:Nat):Int)])]) (λi=>i<=sp.length/\∀(j:Nat)(z:au),j<i->sp[j]? = some z->cn z a=false) (λi=>sp.length - i) (0) ?_ (⟨P0 _,λj z G=>ω⟩) λi r=>?_
 ·exact wB
 obtain⟨r,l⟩:=r;by_cases t:i<sp.length
 ·have d:=ah t
  have c:=rH (nth sp i) a C;cases b:cn (nth sp i) a with
  | false=>
   rw[wP b]at c
   repeat'(first|refine gD ?_|(conv=>whnf);first|with_reducible (first|refine C9 (aa d) ?_|refine Bf.D (λo=>?_) (λo=>?_))|refine C5 c ?_)
   ((conv=>whnf);refine CA (i+1) ⟨ω,cW (pr:=(cn · a)) d b l⟩ ω ?_;(exact wB))
  | true=>
   rw[vH b]at c;obtain⟨H,J,K⟩:=pU b;have u:=gV (nth sp i).Bits ((a - 16*(nth sp i).Page) / csz (nth sp i).Class) (ep H).2;cases w:aW (nth sp i).Bits ((a - 16*(nth sp i).Page) / csz (nth sp i).Class)<;>rw[w]at u
   all_goals
    repeat'(first|refine gD ?_|(conv=>whnf);first|with_reducible (first|refine C9 (aa d) ?_|refine Bf.D (λo=>?_) (λo=>?_))|refine C5 c ?_|refine C5 u ?_)
    all_goals(rw[kZ t b l];unfold nL;rw[w];rfl)
 ·repeat'(first|refine gD ?_|fail)
  (conv=>whnf)
  refine CB (ι:=Nat) (λk=>[(1,.hold .one (bV .imm la)),(2,.hold .one [I (a)]),(6,.hold .box ([I 0,I 0,I 0,I 0])),(11,.hold .one [I ((k:Nat):Int)])]) (λk=>k<=la.length/\∀(j:Nat)(z:a8),j<k->la[j]? = some z->bv z a=false) (λk=>la.length - k) (0) ?_ (⟨P0 _,λj z G=>ω⟩) λk y=>?_
  ·exact wB
  obtain⟨y,p⟩:=y;by_cases B:k<la.length
  ·have d:=ah B
   have c:=nU (nth la k) a;cases b:bv (nth la k) a<;>rw[b]at c
   ·repeat'(first|refine gD ?_|(conv=>whnf);first|with_reducible refine C9 (aa d) ?_|refine C5 c ?_)
    ((conv=>whnf);refine CA (k+1) ⟨ω,cW (pr:=(bv · a)) d b p⟩ ω ?_;(exact wB))
   ·repeat'(first|refine gD ?_|(conv=>whnf);first|with_reducible refine C9 (aa d) ?_|refine C5 c ?_|refine C5 (rg (nth la k) a b) ?_)
    rw[ku (n:=i) ω l B b p];rfl
  ·repeat'(first|refine gD ?_|fail)
   rw[vn (n:=i) (k:=k) ω l ω p];rfl
theorem pH(sp:List au)(la:List a8)(a:Int)(g:dc sp)(h:dm la):ao Tryz.prog 91 false [.val none (bX .imm sp),.val none (bV .imm la),.val none [I a]] .agg (ip.enc .own (denotes sp la a)):=by
 have y:=g.1;have B:=h.1;refine fO 56 [] Tryz.func91 rfl ?_ (.inr (ip.enc_fr _))
 repeat'(first|refine gO ?_|fail)
 (conv=>whnf)
 refine CB (ι:=Nat) (λi=>[(1,.hold .one (bV .imm la)),(2,.hold .one [I (a)]),(6,.hold .box ([I 0,I 0,I 0,I 0])),(14,.hold .one (bX .imm sp)),(15,.hold .one [I (sp.length)]),(16,.hold .one [I ((i:Nat):Int)])]) (λi=>i<=sp.length/\∀(j:Nat)(z:au),j<i->sp[j]? = some z->cn z a=false) (λi=>sp.length - i) (0) ?_ (⟨P0 _,λj z C=>ω⟩) λi p=>?_
 ·exact wB
 obtain⟨p,e⟩:=p;by_cases q:i<sp.length
 ·have d:=ah q
  have c:=Bc (nth sp i) a;cases b:cn (nth sp i) a with
  | false=>
   rw[wP b]at c
   repeat'(first|refine gD ?_|(conv=>whnf);first|with_reducible (first|refine C9 (aa d) ?_|refine Bf.D (λl=>?_) (λl=>?_))|refine C5 c ?_)
   ((conv=>whnf);refine CA (i+1) ⟨ω,cW (pr:=(cn · a)) d b e⟩ ω ?_;(exact wB))
  | true=>
   rw[vH b]at c;obtain⟨E,F,G⟩:=pU b;have r:=pX (nth sp i).Bits ((a - 16*(nth sp i).Page) / csz (nth sp i).Class) (ep E).2;cases t:aW (nth sp i).Bits ((a - 16*(nth sp i).Page) / csz (nth sp i).Class)<;>rw[t]at r
   all_goals
    repeat'(first|refine gD ?_|(conv=>whnf);first|with_reducible (first|refine C9 (aa d) ?_|refine Bf.D (λl=>?_) (λl=>?_))|refine C5 c ?_|refine C5 r ?_)
    all_goals(rw[kZ q b e];unfold nL;rw[t];rfl)
 ·repeat'(first|refine gD ?_|fail)
  (conv=>whnf)
  refine CB (ι:=Nat) (λk=>[(2,.hold .one [I (a)]),(6,.hold .box ([I 0,I 0,I 0,I 0])),(39,.hold .one (bV .imm la)),(40,.hold .one [I (la.length)]),(41,.hold .one [I ((k:Nat):Int)])]) (λk=>k<=la.length/\∀(j:Nat)(z:a8),j<k->la[j]? = some z->bv z a=false) (λk=>la.length - k) (0) ?_ (⟨P0 _,λj z C=>ω⟩) λk u=>?_
  ·exact wB
  obtain⟨u,o⟩:=u;by_cases w:k<la.length
  ·have d:=ah w
   have c:=ot (nth la k) a;cases b:bv (nth la k) a<;>rw[b]at c
   ·repeat'(first|refine gD ?_|(conv=>whnf);first|with_reducible refine C9 (aa d) ?_|refine C5 c ?_)
    ((conv=>whnf);refine CA (k+1) ⟨ω,cW (pr:=(bv · a)) d b o⟩ ω ?_;(exact wB))
   ·repeat'(first|refine gD ?_|(conv=>whnf);first|with_reducible refine C9 (aa d) ?_|refine C5 c ?_|refine C5 (qB (nth la k) a b) ?_)
    rw[ku (n:=i) ω e w b o];rfl
  ·repeat'(first|refine gD ?_|fail)
   rw[vn (n:=i) (k:=k) ω e ω o];rfl
section
variable{α:Type}
def zX(ag:Option Nat)(e:α->List C)(pr:α->Bool)(xs:List α):List (Option Nat × List C)->Kd->List C->Prop:=λL k rcs=>∃x,x∈xs/\L=[(ag,e x)]/\k=.one/\rcs=[B (pr x)]
end
theorem sN(xs:List a7)(pr:a7->Bool)(n:xs.length<=9223372036854775807):ao Tryz.prog 311 false [.val none (bF .imm xs),.fn (o9 Tryz.prog (zX (some 2) (a7.enc .imm) pr xs))] .one [I (cQ pr xs)]:=by
 refine fO 19 [] Tryz.func311 rfl ?_
 repeat'(first|refine gO ?_|fail)
 (conv=>whnf)
 refine CB (ι:=Nat) (λi=>[(0,.hold .one (bF .imm xs)),(1,.fv (o9 Tryz.prog (zX (some 2) (a7.enc .imm) pr xs))),(7,.hold .one [I xs.length]),(8,.hold .one [I (i:Nat)])]) (λi=>i<=xs.length/\∀(j:Nat)(z:a7),j<i->xs[j]? = some z->pr z=false) (λi=>xs.length - i) 0 ?_ ⟨P0 _,λj z h=>ω⟩ λi e=>?_
 ·exact wB
 ·obtain⟨e,b⟩:=e
  by_cases c:i<xs.length
  ·obtain⟨y,a⟩ : ∃y,xs[i]? = some y:=⟨_,O1 c⟩
   repeat'(first|refine gD ?_|(conv=>whnf);first|with_reducible refine C9 (aa a) ?_|refine Fv.mk (k:=.one) (rcs:=[B (pr y)]) ⟨y,I1 a,rfl,rfl,rfl⟩ ?_|refine Bf.P (λl=>?_) (λl=>?_))
   ·exact Q0 (λz=>[I z]) (d9 a ‹_› b).symm
   ·(conv=>whnf)
    refine CA (i+1) ⟨ω,λj z h d=>?_⟩ ω ?_
    ·rcases Nat.lt_or_ge j i with g|g
     ·exact b j z g d
     ·obtain rfl:j=i:=ω
      rw[a]at d;cases d;assumption
    ·exact wB
  ·repeat'(first|refine gD ?_|fail)
   exact Q0 (λz=>[I z]) (f7 ω b).symm
theorem oL(xs:List a7)(pr:a7->Bool)(a:xs.length<=9223372036854775807):ao Tryz.prog 245 false [.val none (bF .imm xs),.fn (o9 Tryz.prog (zX (some 2) (a7.enc .imm) pr xs))] .one [B (xs.any pr)]:=by
 refine fO 9 [] Tryz.func245 rfl ?_
 repeat'(first|refine gO ?_|(conv=>whnf);first|refine C5 (sN xs pr a) ?_)
 exact Q0 (λz=>[B z]) (jl pr xs)
theorem rD(r:a7)(page:Int):ao Tryz.prog 246 false [.val (some 2) (a7.enc .imm r),.ptr [I page]] .one [B (oU page r)]:=by
 refine fO 17 [] Tryz.func246 rfl ?_
 repeat'(first|refine gO ?_|(conv=>whnf);first|with_reducible refine Bf.D (λa=>?_) (λa=>?_)|refine CH rfl ?_)
 all_goals exact Q0 (λz=>[B z]) (by unfold oU;first|(rw[N0 (by assumption:r.At<=page)];simp;done)|(rw[O0 (by assumption:¬r.At<=page)];rfl))
theorem vS(xs:List a7)(page:Int)(a:xs.length<=9223372036854775807):ao Tryz.prog 164 false [.val none (bF .imm xs),.val none [I page]] .one [B (xs.any (oU page))]:=by
 refine fO 8 [] Tryz.func164 rfl ?_
 repeat'(first|refine gO ?_|(conv=>whnf);first|refine Cq.mk (zX (some 2) (a7.enc .imm) (oU page) xs) (rD default page).has (λL k rcs b=>?_) ?_|refine C5 (oL xs (oU page) a) ?_)
 ·obtain⟨x,-,rfl,rfl,rfl⟩:=b
  exact rD x page
 ·rfl
theorem sH(xs:List aM)(pr:aM->Bool)(g:xs.length<=9223372036854775807):ao Tryz.prog 323 false [.val none (cu .imm xs),.fn (o9 Tryz.prog (zX (some 3) (aM.enc .imm) pr xs))] .one [I (cQ pr xs)]:=by
 refine fO 19 [] Tryz.func323 rfl ?_
 repeat'(first|refine gO ?_|fail)
 (conv=>whnf)
 refine CB (ι:=Nat) (λi=>[(0,.hold .one (cu .imm xs)),(1,.fv (o9 Tryz.prog (zX (some 3) (aM.enc .imm) pr xs))),(7,.hold .one [I xs.length]),(8,.hold .one [I (i:Nat)])]) (λi=>i<=xs.length/\∀(j:Nat)(z:aM),j<i->xs[j]? = some z->pr z=false) (λi=>xs.length - i) 0 ?_ ⟨P0 _,λj z h=>ω⟩ λi d=>?_
 ·exact wB
 ·obtain⟨d,b⟩:=d
  by_cases c:i<xs.length
  ·obtain⟨y,a⟩ : ∃y,xs[i]? = some y:=⟨_,O1 c⟩
   repeat'(first|refine gD ?_|(conv=>whnf);first|with_reducible refine C9 (aa a) ?_|refine Fv.mk (k:=.one) (rcs:=[B (pr y)]) ⟨y,I1 a,rfl,rfl,rfl⟩ ?_|refine Bf.P (λe=>?_) (λe=>?_))
   ·exact Q0 (λz=>[I z]) (d9 a ‹_› b).symm
   ·(conv=>whnf)
    refine CA (i+1) ⟨ω,cW a (by assumption) b⟩ ω ?_;exact wB
  ·repeat'(first|refine gD ?_|fail)
   exact Q0 (λz=>[I z]) (f7 ω b).symm
theorem oK(xs:List aM)(pr:aM->Bool)(a:xs.length<=9223372036854775807):ao Tryz.prog 252 false [.val none (cu .imm xs),.fn (o9 Tryz.prog (zX (some 3) (aM.enc .imm) pr xs))] .one [B (xs.any pr)]:=by
 refine fO 9 [] Tryz.func252 rfl ?_
 repeat'(first|refine gO ?_|(conv=>whnf);first|refine C5 (sH xs pr a) ?_)
 exact Q0 (λz=>[B z]) (jl pr xs)
theorem vC(xs:List au)(pr:au->Bool)(g:xs.length<=9223372036854775807):ao Tryz.prog 99 false [.val none (bX .imm xs),.fn (o9 Tryz.prog (zX (some 3) (au.enc .imm) pr xs))] .one [I (cQ pr xs)]:=by
 refine fO 19 [] Tryz.func99 rfl ?_
 repeat'(first|refine gO ?_|fail)
 (conv=>whnf)
 refine CB (ι:=Nat) (λi=>[(0,.hold .one (bX .imm xs)),(1,.fv (o9 Tryz.prog (zX (some 3) (au.enc .imm) pr xs))),(7,.hold .one [I xs.length]),(8,.hold .one [I (i:Nat)])]) (λi=>i<=xs.length/\∀(j:Nat)(z:au),j<i->xs[j]? = some z->pr z=false) (λi=>xs.length - i) 0 ?_ ⟨P0 _,λj z h=>ω⟩ λi d=>?_
 ·exact wB
 ·obtain⟨d,b⟩:=d
  by_cases c:i<xs.length
  ·obtain⟨y,a⟩ : ∃y,xs[i]? = some y:=⟨_,O1 c⟩
   repeat'(first|refine gD ?_|(conv=>whnf);first|with_reducible refine C9 (aa a) ?_|refine Fv.mk (k:=.one) (rcs:=[B (pr y)]) ⟨y,I1 a,rfl,rfl,rfl⟩ ?_|refine Bf.P (λe=>?_) (λe=>?_))
   ·exact Q0 (λz=>[I z]) (d9 a ‹_› b).symm
   ·(conv=>whnf)
    refine CA (i+1) ⟨ω,cW a (by assumption) b⟩ ω ?_;exact wB
  ·repeat'(first|refine gD ?_|fail)
   exact Q0 (λz=>[I z]) (f7 ω b).symm
theorem ow(xs:List bG)(pr:bG->Bool)(g:xs.length<=9223372036854775807):ao Tryz.prog 101 false [.val none (mN .imm xs),.fn (o9 Tryz.prog (zX (some 4) (bG.enc .imm) pr xs))] .one [I (cQ pr xs)]:=by
 refine fO 19 [] Tryz.func101 rfl ?_
 repeat'(first|refine gO ?_|fail)
 (conv=>whnf)
 refine CB (ι:=Nat) (λi=>[(0,.hold .one (mN .imm xs)),(1,.fv (o9 Tryz.prog (zX (some 4) (bG.enc .imm) pr xs))),(7,.hold .one [I xs.length]),(8,.hold .one [I (i:Nat)])]) (λi=>i<=xs.length/\∀(j:Nat)(z:bG),j<i->xs[j]? = some z->pr z=false) (λi=>xs.length - i) 0 ?_ ⟨P0 _,λj z h=>ω⟩ λi d=>?_
 ·exact wB
 ·obtain⟨d,b⟩:=d
  by_cases c:i<xs.length
  ·obtain⟨y,a⟩ : ∃y,xs[i]? = some y:=⟨_,O1 c⟩
   repeat'(first|refine gD ?_|(conv=>whnf);first|with_reducible refine C9 (aa a) ?_|refine Fv.mk (k:=.one) (rcs:=[B (pr y)]) ⟨y,I1 a,rfl,rfl,rfl⟩ ?_|refine Bf.P (λe=>?_) (λe=>?_))
   ·exact Q0 (λz=>[I z]) (d9 a ‹_› b).symm
   ·(conv=>whnf)
    refine CA (i+1) ⟨ω,cW a (by assumption) b⟩ ω ?_;exact wB
  ·repeat'(first|refine gD ?_|fail)
   exact Q0 (λz=>[I z]) (f7 ω b).symm
theorem qM(xs:List bG)(pr:bG->Bool)(a:xs.length<=9223372036854775807):ao Tryz.prog 168 false [.val none (mN .imm xs),.fn (o9 Tryz.prog (zX (some 4) (bG.enc .imm) pr xs))] .one [B (xs.any pr)]:=by
 refine fO 9 [] Tryz.func168 rfl ?_
 repeat'(first|refine gO ?_|(conv=>whnf);first|refine C5 (ow xs pr a) ?_)
 exact Q0 (λz=>[B z]) (jl pr xs)
theorem KE{k:Nat}(a:k<=3):IntKind.i64.wrap (1*2 ^ min ((k:Nat):Int).toNat IntKind.i64.bits)=csz (k:Nat):=by
 obtain rfl|rfl|rfl|rfl:k=0\/k=1\/k=2\/k=3:=ω
 all_goals decide
theorem Kz{k:Nat}(a:k<=100):IntKind.u64.wrap (k:Nat)=(k:Nat):=by
 unfold IntKind.wrap;simp[IntKind.signed,IntKind.bits];omega
theorem yb{k:Nat}{z:Int}(a:k<=3)(h:csz (k:Nat)<z)(b:z<=8):k<=2:=by
 have c:csz ((3:Nat):Int)=8:=by decide
 obtain rfl|rfl|rfl|rfl:k=0\/k=1\/k=2\/k=3:=ω
 all_goals omega
theorem vJ{k:Nat}{z:Int}(g:k<=3)(h1:1<=z)(a:k=0\/csz ((k - 1:Nat):Int)<z)(b:¬csz (k:Nat)<z):aN z=(k:Nat):=by
 have c:csz ((0:Nat):Int)=1:=by decide
 have d:csz ((1:Nat):Int)=2:=by decide
 have e:csz ((2:Nat):Int)=4:=by decide
 have f:csz ((3:Nat):Int)=8:=by decide
 unfold aN;obtain rfl|rfl|rfl|rfl:k=0\/k=1\/k=2\/k=3:=ω
 all_goals simp only[Nat.reduceSub,c,d,e,f]at a b
 all_goals(repeat' split)<;>omega
theorem je(z:Int):ao Tryz.prog 233 false [.val none [I z]] .one [I (aN z)]:=by
 refine fO 15 [] Tryz.func233 rfl ?_;by_cases c:1<=z/\z<=8
 ·repeat'(first|refine gD ?_|(conv=>whnf);first|with_reducible refine Bf.D (λb=>?_) (λb=>?_)|refine C5 (aD z 1 8) ?_)
  (conv=>whnf)
  refine CB (ι:=Nat) (λk=>[(0,.hold .one [I (z)]),(3,.hold .one [I ((k:Nat):Int)])]) (λk=>k<=3/\(k=0\/csz ((k - 1:Nat):Int)<z)) (λk=>4 - k) (0) ?_ (⟨ω,.inl rfl⟩) λk a=>?_
  ·exact wB
  obtain⟨a,d⟩:=a
  repeat'(first|refine gO ?_|(conv=>whnf);first|with_reducible refine Bf.D (λb=>?_) (λb=>?_)|refine CH (Kz ω) ?_|refine CH (KE a) ?_|refine CJ ω ?_)
  all_goals first
   | exact Q0 (λz=>[I z]) (vJ a c.1 d (by assumption)).symm
   | ((conv=>whnf);refine CA (k+1) ⟨by have:=yb a (by assumption) c.2;omega,.inr (by simpa using (by assumption:csz (k:Nat)<z))⟩ (by have:=yb a (by assumption) c.2;omega) ?_;(exact wB))
 ·repeat'(first|refine gD ?_|(conv=>whnf);first|with_reducible refine Bf.D (λb=>?_) (λb=>?_)|refine C5 (aD z 1 8) ?_)
  all_goals exact Q0 (λz=>[I z]) (by unfold aN;(repeat' split)<;>omega)
theorem yq(z:Int):ao Tryz.prog 88 false [.val none [I z]] .one [I (aN z)]:=by
 refine fO 14 [] Tryz.func88 rfl ?_;by_cases c:1<=z/\z<=8
 ·repeat'(first|refine gD ?_|(conv=>whnf);first|with_reducible refine Bf.D (λa=>?_) (λa=>?_)|refine C5 (aI z 1 8) ?_)
  (conv=>whnf)
  refine CB (ι:=Nat) (λk=>[(0,.hold .one [I (z)]),(3,.hold .one [I ((k:Nat):Int)])]) (λk=>k<=3/\(k=0\/csz ((k - 1:Nat):Int)<z)) (λk=>4 - k) (0) ?_ (⟨ω,.inl rfl⟩) λk b=>?_
  ·exact wB
  obtain⟨b,d⟩:=b
  repeat'(first|refine gO ?_|(conv=>whnf);first|with_reducible refine Bf.D (λa=>?_) (λa=>?_)|refine C5 (ee _) ?_)
  all_goals first
   | exact Q0 (λz=>[I z]) (vJ b c.1 d (by assumption)).symm
   | ((conv=>whnf);refine CA (k+1) ⟨by have:=yb b (by assumption) c.2;omega,.inr (by simpa using (by assumption:csz (k:Nat)<z))⟩ (by have:=yb b (by assumption) c.2;omega) ?_;(exact wB))
 ·repeat'(first|refine gD ?_|(conv=>whnf);first|with_reducible refine Bf.D (λa=>?_) (λa=>?_)|refine C5 (aI z 1 8) ?_)
  all_goals exact Q0 (λz=>[I z]) (by unfold aN;(repeat' split)<;>omega)
theorem pu(q:bC)(a:Int)(e:bC.sml q):ao Tryz.prog 272 false [.val (some 2) (bC.enc .imm q),.val none [I a]] .one [B (q.Lst.any (dA a))]:=by
 have j:q.Lst.length<=1048576:=e.1;refine fO 21 [] Tryz.func272 rfl ?_
 repeat'(first|refine gO ?_|fail)
 (conv=>whnf)
 refine CB (ι:=Nat) (λi=>[(1,.hold .one [I (a)]),(2,.hold .box (bC.enc .imm q)),(5,.hold .one [I ((i:Nat):Int)])]) (λi=>i<=q.Lst.length/\(q.Lst.take i).any (dA a)=false) (λi=>q.Lst.length - i) (0) ?_ (⟨P0 _,rfl⟩) λi c=>?_
 ·exact wB
 obtain⟨c,d⟩:=c;by_cases g:i<q.Lst.length
 ·have b:=ah g
  repeat'(first|refine gD ?_|(conv=>whnf);first|with_reducible (first|refine C9 (aa b) ?_|refine Bf.E (λh=>?_) (λh=>?_)))
  all_goals first
   | exact Q0 (λz=>[B z]) ((yp b (N0 (by assumption))).symm)
   | ((conv=>whnf);refine CA (i+1) ⟨ω,tq b d (O0 (by assumption))⟩ ω ?_;(exact wB))
 ·repeat'(first|refine gD ?_|fail)
  exact Q0 (λz=>[B z]) ((EQ ω d).symm)
theorem gK(xs:List aM)(i:Nat):quarCells xs (i+1)=quarCells xs i+csz (nth xs i).Class:=rfl
theorem Ht(k:Int):0<=csz k/\csz k<=8:=by
 by_cases h:0<=k/\k<=3
 ·rcases ce h with e|e|e|e<;>rw[e]<;>decide
 ·unfold csz;rw[C6 h];decide
theorem rA(xs:List aM)(c:jr xs):ao Tryz.prog 273 false [.val none (cu .imm xs)] .one [I (quarCells xs xs.length)]:=by
 have g:=c.1;refine fO 20 [] Tryz.func273 rfl ?_
 repeat'(first|refine gO ?_|fail)
 (conv=>whnf)
 refine CB (ι:=Nat) (λi=>[(0,.hold .one (cu .imm xs)),(3,.hold .one [I (quarCells xs i)]),(4,.hold .one [I ((i:Nat):Int)])]) (λi=>i<=xs.length/\0<=quarCells xs i/\quarCells xs i<=8*i) (λi=>xs.length - i) (0) ?_ (⟨P0 _,by simp[quarCells],by simp[quarCells]⟩) λi b=>?_
 ·exact wB
 obtain⟨b,h,j⟩:=b;by_cases d:i<xs.length
 ·have e:=ah d
  have k:=Ht (nth xs i).Class;have a:=gK xs i
  repeat'(first|refine gD ?_|(conv=>whnf);first|with_reducible refine C9 (aa e) ?_|refine C5 (dq _) ?_)
  ((conv=>whnf);refine CA (i+1) ⟨ω,ω,ω⟩ ω ?_)
  rw[a];exact wB
 ·repeat'(first|refine gD ?_|fail)
  obtain rfl:i=xs.length:=ω
  rfl
theorem uY(xs:List aM)(c:jr xs):ao Tryz.prog 87 false [.val none (cu .imm xs)] .one [I (quarCells xs xs.length)]:=by
 have g:=c.1;refine fO 19 [] Tryz.func87 rfl ?_
 repeat'(first|refine gO ?_|fail)
 (conv=>whnf)
 refine CB (ι:=Nat) (λi=>[(3,.hold .one [I (quarCells xs i)]),(6,.hold .one (cu .imm xs)),(7,.hold .one [I (xs.length)]),(8,.hold .one [I ((i:Nat):Int)])]) (λi=>i<=xs.length/\0<=quarCells xs i/\quarCells xs i<=8*i) (λi=>xs.length - i) (0) ?_ (⟨P0 _,by simp[quarCells],by simp[quarCells]⟩) λi b=>?_
 ·exact wB
 obtain⟨b,h,j⟩:=b;by_cases d:i<xs.length
 ·have e:=ah d
  have k:=Ht (nth xs i).Class;have a:=gK xs i
  repeat'(first|refine gD ?_|(conv=>whnf);first|with_reducible refine C9 (aa e) ?_|refine C5 (ee _) ?_)
  ((conv=>whnf);refine CA (i+1) ⟨ω,ω,ω⟩ ω ?_)
  rw[a];exact wB
 ·repeat'(first|refine gD ?_|fail)
  obtain rfl:i=xs.length:=ω
  rfl
theorem xC(a:aM):ao Tryz.prog 271 false [.val (some 3) (aM.enc .imm a)] .one [B (decide (0<=a.Class/\a.Class<=3/\0<=a.Addr/\0<=a.Since))]:=by
 refine fO 16 [] Tryz.func271 rfl ?_
 repeat'(first|refine gO ?_|(conv=>whnf);first|with_reducible refine Bf.D (λb=>?_) (λb=>?_)|refine C5 (aD _ 0 3) ?_)
 all_goals exact Q0 (λz=>[B z]) ((by first|(symm;exact O0 ω)|exact decide_eq_decide.2 ω))
theorem GC{xs:List aM}(a:jr xs)(i:Nat):jr (xs.take i):=⟨by have:=a.1;rw[Z0];omega,λ_ _=>trivial⟩
theorem na(q:bC)(a:bC.sml q):ao Tryz.prog 207 false [.val (some 2) (bC.enc .imm q)] .one [B (eX q)]:=by
 have l:q.Lst.length<=1048576:=a.1;refine fO 57 [(5,29,[17,18,19,20,21,22,23,24,25,26,27,28,29,30,31,32,33,34,35,36,37,38,39,40,41,42,43,44,45]),(7,11,[46,47,48,49,50,51,52,53,54,55,56])] Tryz.func207 rfl ?_
 repeat'(first|refine gO ?_|fail)
 (conv=>whnf)
 refine CB (ι:=Nat) (λi=>[(1,.hold .box (bC.enc .imm q)),(3,.hold .one [I ((i:Nat):Int)])]) (λi=>i<=q.Lst.length/\cw i (jc q.Lst)=true) (λi=>q.Lst.length - i) 0 ?_ ⟨P0 _,rfl⟩ λi e=>?_
 ·exact wB
 obtain⟨e,g⟩:=e;by_cases b:i<q.Lst.length
 ·have j:=ah b
  have h:=pu ⟨0,q.Lst.take i⟩ (nth q.Lst i).Addr (GC a i);cases c:(q.Lst.take i).any (dA (nth q.Lst i).Addr)<;>rw[show(bC.mk 0 (q.Lst.take i)).Lst.any (dA (nth q.Lst i).Addr)=_ from c]at h
  all_goals
   repeat'(first|refine gD ?_|(conv=>whnf);first|with_reducible (first|refine C9 (aa j) ?_|refine Bf.D (λd=>?_) (λd=>?_))|refine C5 (xC _) ?_|refine CI ω (aa (fg ω b)) ?_|refine CR i rfl (by simp;omega) (λr k=>by obtain⟨z,-,rfl⟩:=C3.1 k;rfl) (v3 ..) ?_|refine C5 h ?_)
   all_goals first
    | exact Q0 (λz=>[B z]) ((by symm;unfold eX;rw[bW b (by unfold jc;first|(rw[c];simp;done)|(rw[O0 ω];rfl))];rfl))
    | ((conv=>whnf);refine CA (i+1) ⟨ω,bH g (by unfold jc;rw[c,N0 ω];rfl)⟩ ω ?_;(exact wB))
 ·obtain rfl:i=q.Lst.length:=ω
  repeat'(first|refine gD ?_|(conv=>whnf);first|with_reducible refine Bf.D (λd=>?_) (λd=>?_)|refine C5 (aD _ 0 500) ?_|refine C5 (rA q.Lst a) ?_)
  all_goals exact Q0 (λz=>[B z]) ((by unfold eX;rw[g];simp only[Bool.true_and];first|(symm;exact O0 ω)|exact decide_eq_decide.2 ω))
theorem rO(b:aM)(a:Int):ao Tryz.prog 253 false [.val (some 3) (aM.enc .imm b),.ptr [I a]] .one [B (dA a b)]:=by
 refine fO 8 [] Tryz.func253 rfl ?_
 repeat'(first|refine gO ?_|fail)
 exact Q0 (λz=>[B z]) ((by unfold dA;rw[Q3];simp))
theorem wl(xs:List aM)(a:Int)(b:xs.length<=9223372036854775807):ao Tryz.prog 179 false [.val none (cu .imm xs),.val none [I a]] .one [B (xs.any (dA a))]:=by
 refine fO 8 [] Tryz.func179 rfl ?_
 repeat'(first|refine gO ?_|(conv=>whnf);first|refine Cq.mk (zX (some 3) (aM.enc .imm) (dA a) xs) (rO default a).has (λL k rcs c=>?_) ?_|refine C5 (oK xs (dA a) b) ?_)
 ·obtain⟨y,-,rfl,rfl,rfl⟩:=c
  exact rO y a
 ·rfl
def n8(xs:List aM)(a:aM):Bool:=decide (0<=a.Class/\a.Class<=3/\0<=a.Addr/\0<=a.Since/\(xs.length=0\/(nth xs (xs.length - 1)).Since<=a.Since))&&!xs.any (dA a.Addr)
theorem z7(xs:List aM)(b:aM)(g:xs.length<=1048576):ao Tryz.prog 166 false [.val none (cu .imm xs),.val (some 3) (aM.enc .imm b)] .one [B (n8 xs b)]:=by
 have c:=wl xs b.Addr ω;cases d:xs.any (dA b.Addr)<;>rw[d]at c
 ·by_cases h:xs.length=0
  ·refine fO 40 [(3,15,[25,26,27,28,29,30,31,32,33,34,35,36,37,38,39])] Tryz.func166 rfl ?_
   repeat'(first|refine gO ?_|(conv=>whnf);first|with_reducible (first|refine Bf.D (λa=>?_) (λa=>?_)|refine Bf.E (λa=>?_) (λa=>?_))|refine C5 (eB _) ?_|refine C5 c ?_)
   all_goals first
    | exact Q0 (λz=>[B z]) ((by unfold n8;rw[d,Bool.not_false,Bool.and_true];first|(symm;exact O0 ω)|(symm;exact N0 ω)|exact decide_eq_decide.2 ω))
    |(exfalso;omega)
    |trace_state
  ·have e:xs[((xs.length:Int) - 1).toNat]? = some (nth xs (xs.length - 1)):=by rw[show((xs.length:Int) - 1).toNat=xs.length - 1 by omega];exact ah ω
   refine fO 40 [(3,15,[25,26,27,28,29,30,31,32,33,34,35,36,37,38,39])] Tryz.func166 rfl ?_
   repeat'(first|refine gO ?_|(conv=>whnf);first|with_reducible (first|refine Bf.D (λa=>?_) (λa=>?_)|refine Bf.E (λa=>?_) (λa=>?_))|refine C5 (eB _) ?_|refine C5 c ?_|refine CI ω (aa e) ?_)
   all_goals first
    | exact Q0 (λz=>[B z]) ((by unfold n8;rw[d,Bool.not_false,Bool.and_true];first|(symm;exact O0 ω)|(symm;exact N0 ω)|exact decide_eq_decide.2 ω))
    |(exfalso;omega)
    |trace_state
 ·refine fO 40 [(3,15,[25,26,27,28,29,30,31,32,33,34,35,36,37,38,39])] Tryz.func166 rfl ?_
  repeat'(first|refine gO ?_|(conv=>whnf);first|with_reducible refine Bf.D (λa=>?_) (λa=>?_)|refine C5 (eB _) ?_|refine C5 c ?_)
  all_goals exact Q0 (λz=>[B z]) ((by unfold n8;rw[d];simp))
theorem Dl{xs:List aM}{i:Nat}(d:i<xs.length):n8 (xs.take i) (nth xs i)=jc xs i:=by
 unfold n8 jc;have a:(xs.take i).length=i:=by rw[Z0];omega
 rw[a]
 congr 1
 refine decide_eq_decide.2 ?_;by_cases b:i=0
 ·subst b;simp
 ·have c:nth (xs.take i) (i - 1)=nth xs (i - 1):=by
   have:=ah (xs:=xs) (i:=i - 1) ω;exact bp (by rw[List.getElem?_take_of_lt ω];exact this)
  rw[c]
theorem BL(q:bC)(d:bC.sml q):ao Tryz.prog 71 false [.val (some 2) (bC.enc .imm q)] .one [B (eX q)]:=by
 have l:q.Lst.length<=1048576:=d.1;refine fO 32 [(4,7,[13,14,15,16,17,18,19]),(7,11,[21,22,23,24,25,26,27,28,29,30,31])] Tryz.func71 rfl ?_
 repeat'(first|refine gO ?_|fail)
 (conv=>whnf)
 refine CB (ι:=Nat) (λi=>[(1,.hold .box (bC.enc .imm q)),(6,.hold .one (cu .imm q.Lst)),(7,.hold .one [I (q.Lst.length)]),(8,.hold .one [I ((i:Nat):Int)])]) (λi=>i<=q.Lst.length/\cw i (jc q.Lst)=true) (λi=>q.Lst.length - i) 0 ?_ ⟨P0 _,rfl⟩ λi e=>?_
 ·exact wB
 obtain⟨e,g⟩:=e;by_cases a:i<q.Lst.length
 ·have h:=ah a
  have b:=z7 (q.Lst.take i) (nth q.Lst i) (by rw[Z0];omega);rw[Dl a]at b;cases c:jc q.Lst i<;>rw[c]at b
  all_goals
   repeat'(first|refine gD ?_|(conv=>whnf);first|with_reducible refine C9 (aa h) ?_|refine CR i rfl (by simp;omega) (λr j=>by obtain⟨z,-,rfl⟩:=C3.1 j;rfl) (v3 ..) ?_|refine C5 b ?_)
   all_goals first
    | exact Q0 (λz=>[B z]) ((by symm;unfold eX;rw[bW a c];rfl))
    | ((conv=>whnf);refine CA (i+1) ⟨ω,bH g c⟩ ω ?_;(exact wB))
 ·obtain rfl:i=q.Lst.length:=ω
  repeat'(first|refine gD ?_|(conv=>whnf);first|with_reducible refine Bf.D (λk=>?_) (λk=>?_)|refine C5 (aI _ 0 500) ?_|refine C5 (uY q.Lst d) ?_)
  all_goals exact Q0 (λz=>[B z]) ((by unfold eX;rw[g];simp only[Bool.true_and];first|(symm;exact O0 ω)|exact decide_eq_decide.2 ω))
def sI(h:ac):Prop:=aG.sml h.Kernel.Machine.Table
theorem gk(h:ac)(p:Int)(a:sI h):ao Tryz.prog 36 false [.val (some 24) (ac.enc .imm h),.val none [I p]] .one (aF .own (aK h p)):=by
 refine fO 23 [] Tryz.func36 rfl ?_ (.inr (bM _))
 repeat'((conv=>whnf);first|with_reducible (first|refine Lm ?_|refine Wm ω ?_|refine Bf.E (λb=>?_) (λb=>?_)|refine Bn ?_|refine io.wk rfl ?_)|refine Bt ?_|refine Bu ?_|refine C5 (cH h.Kernel.Machine.Table p a) ?_|refine C5 (fJ h.Kernel.Machine.Table _ a) ?_)
 all_goals(unfold aK;first|rw[C7 (by assumption)]|rw[C6 (by assumption)])
 all_goals exact⟨rfl,trivial⟩
theorem iM(h:ac)(p:Int)(a:sI h):ao Tryz.prog 26 false [.val (some 24) (ac.enc .imm h),.val none [I p]] .one (aF .own (aK h p)):=by
 refine fO 22 [] Tryz.func26 rfl ?_ (.inr (bM _))
 repeat'((conv=>whnf);first|with_reducible (first|refine Lm ?_|refine Wm ω ?_|refine Bf.E (λb=>?_) (λb=>?_)|refine Bn ?_|refine io.wk rfl ?_)|refine Bt ?_|refine Bu ?_|refine C5 (jD h.Kernel.Machine.Table p a) ?_|refine C5 (p8 h.Kernel.Machine.Table _ a) ?_)
 all_goals(unfold aK;first|rw[C7 (by assumption)]|rw[C6 (by assumption)])
 all_goals exact⟨rfl,trivial⟩
theorem Ba(k:af)(p:Int)(a:aG.sml k.Machine.Table):ao Tryz.prog 163 false [.val (some 5) (af.enc .imm k),.val none [I p]] .one [B (decide ((ar k.Machine.Table p).Mode≠0))]:=by
 refine fO 12 [] Tryz.func163 rfl ?_
 repeat'(first|refine gO ?_|(conv=>whnf);first|refine C5 (jD k.Machine.Table p a) ?_)
 exact Q0 (λz=>[B z]) ((by rw[Q3];simp))
theorem m0(z:Int):ao Tryz.prog 75 false [.val none [I z]] .one [B (decide (0<=z/\z<=1073741823))]:=by
 refine fO 5 [] Tryz.func75 rfl ?_
 repeat'(first|refine gO ?_|(conv=>whnf);first|refine C5 (aI z 0 1073741823) ?_)
 rfl
theorem iJ(h:ac)(p:Int)(g:h.Spans.length<=1048576):ao Tryz.prog 39 false [.val (some 24) (ac.enc .imm h),.val none [I p]] .one [I (fw h p)]:=by
 refine fO 22 [] Tryz.func39 rfl ?_
 repeat'(first|refine gO ?_|fail)
 (conv=>whnf)
 refine CB (ι:=Nat) (λi=>[(1,.hold .one [I (p)]),(2,.hold .box (ac.enc .imm h)),(5,.hold .one [I ((i:Nat):Int)])]) (λi=>i<=h.Spans.length/\∀(j:Nat)(z:au),j<i->h.Spans[j]? = some z->iN p z=false) (λi=>h.Spans.length - i) (0) ?_ (⟨P0 _,λj z k=>ω⟩) λi c=>?_
 ·exact wB
 obtain⟨c,a⟩:=c;by_cases d:i<h.Spans.length
 ·have b:=ah d
  repeat'(first|refine gD ?_|(conv=>whnf);first|with_reducible (first|refine C9 (aa b) ?_|refine Bf.E (λe=>?_) (λe=>?_)))
  all_goals first
   | exact Q0 (λz=>[I z]) (d9 b (N0 (by assumption)) a).symm
   | ((conv=>whnf);refine CA (i+1) ⟨ω,cW b (O0 (by assumption)) a⟩ ω ?_;(exact wB))
 ·repeat'(first|refine gD ?_|fail)
  exact Q0 (λz=>[I z]) (f7 ω a).symm
theorem xo(s:au)(p:Int):ao Tryz.prog 100 false [.val (some 3) (au.enc .imm s),.ptr [I p]] .one [B (iN p s)]:=by
 refine fO 8 [] Tryz.func100 rfl ?_
 repeat'(first|refine gO ?_|fail)
 exact Q0 (λz=>[B z]) ((by unfold iN;rw[Q3];simp))
theorem nl(h:ac)(p:Int)(b:h.Spans.length<=1048576):ao Tryz.prog 27 false [.val (some 24) (ac.enc .imm h),.val none [I p]] .one [I (fw h p)]:=by
 refine fO 9 [] Tryz.func27 rfl ?_
 repeat'(first|refine gO ?_|(conv=>whnf);first|refine Cq.mk (zX (some 3) (au.enc .imm) (iN p) h.Spans) (xo default p).has (λL k rcs a=>?_) ?_|refine C5 (vC h.Spans (iN p) ω) ?_)
 ·obtain⟨y,-,rfl,rfl,rfl⟩:=a
  exact xo y p
 ·rfl
def flight1(m:aJ)(i:Nat):List Int:=(m.Buffers.take i).flatMap λl=>l.map (·.Addr)
def flight2(m:aJ)(i:Nat):List Int:=(m.Inbox.take i).flatten
theorem lC{m:aJ}{i:Nat}{l:List cP}(h:m.Buffers[i]? = some l):flight1 m (i+1)=flight1 m i++l.map (·.Addr):=by
 unfold flight1;rw[Y3,h,List.flatMap_append];simp
theorem lg{m:aJ}{i:Nat}{l:List Int}(h:m.Inbox[i]? = some l):flight2 m (i+1)=flight2 m i++l:=by
 unfold flight2;rw[Y3,h,List.flatten_append];simp
theorem mM{m:aJ}(h:b9 m=true):aL m=flight1 m m.Buffers.length++flight2 m m.Inbox.length:=by
 unfold aL flight1 flight2;rw[C7 h,U3,U3]
theorem sf{m:aJ}(h:b9 m=false):aL m=[]:=by
 unfold aL;rw[h];rfl
theorem lI{m:aJ}(h:b9 m=true):1<=m.Buffers.length/\m.Buffers.length<=4/\m.Inbox.length=m.Buffers.length:=by
 unfold b9 at h;simp only[I0,C0]at h;exact h.1.1
theorem Bz{l:List Int} : ∀r∈l.map (rI .imm),r.length=1:=by
 intro r a;obtain⟨z,-,rfl⟩:=C3.1 a;rfl
theorem EG{l:List Int} : ∀r∈l.map (rI .imm),aU r=true:=by
 intro r a;obtain⟨z,-,rfl⟩:=C3.1 a;rfl
theorem wD(m:aJ)(j:aJ.sml m):ao Tryz.prog 277 false [.val (some 2) (aJ.enc .imm m)] .one (aF .own (aL m)):=by
 have l:=jY m j;cases e:b9 m<;>rw[e]at l
 ·refine fO 56 [] Tryz.func277 rfl ?_ (.inr (bM _))
  repeat'((conv=>whnf);first|with_reducible (first|refine Lm ?_|refine Wm ω ?_|refine Bn ?_|refine io.wk rfl ?_)|refine Bt ?_|refine Bu ?_|refine C5 l ?_)
  all_goals(rw[sf e];exact⟨rfl,trivial⟩)
 ·obtain⟨D,E,F⟩:=lI e
  refine fO 56 [] Tryz.func277 rfl ?_ (.inr (bM _))
  repeat'(first|refine gO ?_|(conv=>whnf);first|refine C5 l ?_)
  (conv=>whnf)
  refine CB (ι:=Nat × List Int) (λi=>[(1,.hold .box (aJ.enc .imm m)),(3,.hold .one (aF .own i.2)),(4,.hold .one [I ((i.1:Nat):Int)])]) (λi=>i.1<=m.Buffers.length/\i.2=flight1 m i.1/\i.2.length<=1048576*i.1) (λi=>m.Buffers.length - i.1) ((0,[])) ?_ (⟨P0 _,rfl,P0 _⟩) λi n=>?_
  ·exact wB
  obtain⟨i,S⟩:=i;obtain⟨n,o,t⟩:=n;simp only at n o t |-;by_cases q:i<m.Buffers.length
  ·have g:=ah q
   have u:(nth m.Buffers i).length<=1048576:=(j.1.2 _ (am q)).1
   repeat'(first|refine gD ?_|(conv=>whnf);first|with_reducible refine C9 (aa g) ?_)
   (conv=>whnf)
   refine CB (ι:=Nat × List Int) (λk=>[(1,.hold .box (aJ.enc .imm m)),(3,.hold .one (aF .own k.2)),(4,.hold .one [I ((i:Nat):Int)]),(5,.hold .one [I ((k.1:Nat):Int)])]) (λk=>k.1<=(nth m.Buffers i).length/\k.2=S++((nth m.Buffers i).take k.1).map (·.Addr)) (λk=>(nth m.Buffers i).length - k.1) ((0,S)) ?_ (⟨P0 _,by simp⟩) λk b=>?_
   ·exact wB
   obtain⟨k,c⟩:=k;obtain⟨b,a⟩:=b;simp only at b a |-;have w:c.length=S.length+k:=by rw[a,I2,T0,Z0];omega
   by_cases h:k<(nth m.Buffers i).length
   ·have d:=ah h
    repeat'(first|refine gD ?_|(conv=>whnf);first|with_reducible (first|refine C9 (aa g) ?_|refine C9 (aa d) ?_)|refine CO cv (λr y=>by rw[W0.1 y];rfl) (by simp[aU,dx]) (by simp;omega) (by show _*8<=_;simp;omega) rfl ?_)
    ((conv=>whnf)
     refine CA (k+1,c++[(nth (nth m.Buffers i) k).Addr]) ⟨(by simp only;omega),(by simp only;rw[a,Y3,d,t4,Z3];simp)⟩ (by simp only;omega) ?_
     (repeat'(first|exact trivial|rfl|exact CG rfl (CG (Q0 (C.s du.own) (by simp[rI])) trivial)|refine CG ?_ ?_)))
   ·obtain rfl:k=(nth m.Buffers i).length:=ω
    rw[U3]at a
    repeat'(first|refine gD ?_|(conv=>whnf);first|with_reducible refine C9 (aa g) ?_)
    ((conv=>whnf);refine CA (i+1,c) ⟨(by simp only;omega),(by simp only;rw[lC g,<-o,a]),(by simp only;omega)⟩ (by simp only;omega) ?_;(exact wB))
  ·obtain rfl:i=m.Buffers.length:=ω
   repeat'(first|refine gD ?_|fail)
   (conv=>whnf)
   refine CB (ι:=Nat × List Int) (λk=>[(1,.hold .box (aJ.enc .imm m)),(3,.hold .one (aF .own k.2)),(6,.hold .one [I ((k.1:Nat):Int)])]) (λk=>k.1<=m.Inbox.length/\k.2=S++flight2 m k.1/\k.2.length<=S.length+1048576*k.1) (λk=>m.Inbox.length - k.1) ((0,S)) ?_ (⟨P0 _,by simp[flight2],by simp⟩) λk b=>?_
   ·exact wB
   obtain⟨k,c⟩:=k;obtain⟨b,a,p⟩:=b;simp only at b a p |-;by_cases h:k<m.Inbox.length
   ·have d:=ah h
    have B:(nth m.Inbox k).length<=1048576:=j.2.2 _ (am h)
    repeat'(first|refine gD ?_|(conv=>whnf);first|with_reducible refine C9 (aa d) ?_|refine CO cv Bz (λ_=>EG) (by simp;omega) (by show _*8<=_;simp;omega) rfl ?_)
    ((conv=>whnf)
     refine CA (k+1,c++nth m.Inbox k) ⟨(by simp only;omega),(by simp only;rw[lg d,a,Z3]),(by simp only;rw[I2];omega)⟩ (by simp only;omega) ?_
     (repeat'(first|exact trivial|rfl|exact CG rfl (CG (Q0 (C.s du.own) (by simp[rI])) trivial)|refine CG ?_ ?_)))
   ·obtain rfl:k=m.Inbox.length:=ω
    repeat'(first|refine gD ?_|fail)
    rw[mM e,<-o,<-a];rfl
theorem wg(m:aJ)(h:aJ.sml m):ao Tryz.prog 78 false [.val (some 2) (aJ.enc .imm m)] .one (aF .own (aL m)):=by
 have j:=r8 m h;cases e:b9 m<;>rw[e]at j
 ·refine fO 46 [] Tryz.func78 rfl ?_ (.inr (bM _))
  repeat'((conv=>whnf);first|with_reducible (first|refine Lm ?_|refine Wm ω ?_|refine Bn ?_|refine io.wk rfl ?_)|refine Bt ?_|refine Bu ?_|refine C5 j ?_)
  all_goals(rw[sf e];exact⟨rfl,trivial⟩)
 ·obtain⟨D,E,F⟩:=lI e
  refine fO 46 [] Tryz.func78 rfl ?_ (.inr (bM _))
  repeat'(first|refine gO ?_|(conv=>whnf);first|refine C5 j ?_)
  (conv=>whnf)
  refine CB (ι:=Nat × List Int) (λi=>[(1,.hold .box (aJ.enc .imm m)),(3,.hold .one (aF .own i.2)),(15,.hold .one (AF .imm m.Buffers)),(16,.hold .one [I (m.Buffers.length)]),(17,.hold .one [I ((i.1:Nat):Int)])]) (λi=>i.1<=m.Buffers.length/\i.2=flight1 m i.1/\i.2.length<=1048576*i.1) (λi=>m.Buffers.length - i.1) ((0,[])) ?_ (⟨P0 _,rfl,P0 _⟩) λi l=>?_
  ·exact wB
  obtain⟨i,S⟩:=i;obtain⟨l,n,t⟩:=l;simp only at l n t |-;by_cases p:i<m.Buffers.length
  ·have q:=ah p
   have u:(nth m.Buffers i).length<=1048576:=(h.1.2 _ (am p)).1
   repeat'(first|refine gD ?_|(conv=>whnf);first|with_reducible refine C9 (aa q) ?_)
   (conv=>whnf)
   refine CB (ι:=Nat × List Int) (λk=>[(1,.hold .box (aJ.enc .imm m)),(3,.hold .one (aF .own k.2)),(15,.hold .one (AF .imm m.Buffers)),(16,.hold .one [I (m.Buffers.length)]),(17,.hold .one [I ((i:Nat):Int)]),(21,.hold .one (cL .imm (nth m.Buffers i))),(22,.hold .one [I ((nth m.Buffers i).length)]),(23,.hold .one [I ((k.1:Nat):Int)])]) (λk=>k.1<=(nth m.Buffers i).length/\k.2=S++((nth m.Buffers i).take k.1).map (·.Addr)) (λk=>(nth m.Buffers i).length - k.1) ((0,S)) ?_ (⟨P0 _,by simp⟩) λk b=>?_
   ·exact wB
   obtain⟨k,c⟩:=k;obtain⟨b,a⟩:=b;simp only at b a |-;have w:c.length=S.length+k:=by rw[a,I2,T0,Z0];omega
   by_cases g:k<(nth m.Buffers i).length
   ·have d:=ah g
    repeat'(first|refine gD ?_|(conv=>whnf);first|with_reducible refine C9 (aa d) ?_|refine CO cv (λr y=>by rw[W0.1 y];rfl) (by simp[aU,dx]) (by simp;omega) (by show _*8<=_;simp;omega) rfl ?_)
    ((conv=>whnf)
     refine CA (k+1,c++[(nth (nth m.Buffers i) k).Addr]) ⟨(by simp only;omega),(by simp only;rw[a,Y3,d,t4,Z3];simp)⟩ (by simp only;omega) ?_
     (repeat'(first|exact trivial|rfl|exact CG rfl (CG (Q0 (C.s du.own) (by simp[rI])) trivial)|refine CG ?_ ?_)))
   ·obtain rfl:k=(nth m.Buffers i).length:=ω
    rw[U3]at a
    repeat'(first|refine gD ?_|fail)
    ((conv=>whnf);refine CA (i+1,c) ⟨(by simp only;omega),(by simp only;rw[lC q,<-n,a]),(by simp only;omega)⟩ (by simp only;omega) ?_;(exact wB))
  ·obtain rfl:i=m.Buffers.length:=ω
   repeat'(first|refine gD ?_|fail)
   (conv=>whnf)
   refine CB (ι:=Nat × List Int) (λk=>[(3,.hold .one (aF .own k.2)),(35,.hold .one (k7 .imm m.Inbox)),(36,.hold .one [I (m.Inbox.length)]),(37,.hold .one [I ((k.1:Nat):Int)])]) (λk=>k.1<=m.Inbox.length/\k.2=S++flight2 m k.1/\k.2.length<=S.length+1048576*k.1) (λk=>m.Inbox.length - k.1) ((0,S)) ?_ (⟨P0 _,by simp[flight2],by simp⟩) λk b=>?_
   ·exact wB
   obtain⟨k,c⟩:=k;obtain⟨b,a,o⟩:=b;simp only at b a o |-;by_cases g:k<m.Inbox.length
   ·have d:=ah g
    have B:(nth m.Inbox k).length<=1048576:=h.2.2 _ (am g)
    repeat'(first|refine gD ?_|(conv=>whnf);first|with_reducible refine C9 (aa d) ?_|refine CO cv Bz (λ_=>EG) (by simp;omega) (by show _*8<=_;simp;omega) rfl ?_)
    ((conv=>whnf)
     refine CA (k+1,c++nth m.Inbox k) ⟨(by simp only;omega),(by simp only;rw[lg d,a,Z3]),(by simp only;rw[I2];omega)⟩ (by simp only;omega) ?_
     (repeat'(first|exact trivial|rfl|exact CG rfl (CG (Q0 (C.s du.own) (by simp[rI])) trivial)|refine CG ?_ ?_)))
   ·obtain rfl:k=m.Inbox.length:=ω
    repeat'(first|refine gD ?_|fail)
    rw[mM e,<-n,<-a];rfl
def tbl(h:ac):aG:=h.Kernel.Machine.Table
def dG(h:ac):Nat:=h.Kernel.Machine.Table.Entries.length
def ui(xs:List au)(i:Nat):Bool:=decide (i=0\/(nth xs (i - 1)).Page<(nth xs i).Page)
def u6(xs:List a8)(i:Nat):Bool:=decide (i=0\/(nth xs (i - 1)).Page<(nth xs i).Page)
def u7(h:ac)(l:a8)(k:Nat):Bool:=decide ((aK h (l.Page+(k:Nat))).length=1)
def qZ(h:ac)(i:Nat):Bool:=u6 h.Larges i&&cw (nth h.Larges i).Pages.toNat (u7 h (nth h.Larges i))
def sM(h:ac)(p:Nat):Bool:=decide ((nth (tbl h).Entries p).Mode≠0↔(p:Int)∈pgs h.Spans h.Larges)&&(decide ((nth (tbl h).Entries p).Mode≠0) != h.Free.any (oU (p:Nat)))
def pages0(h:ac):Bool:=((cw h.Spans.length (ui h.Spans)&&cw h.Larges.length (qZ h))&&(pgs h.Spans h.Larges).all λp=>decide (p<dG h))&&cw (dG h) (sM h)
def k6(h:ac)(i:Nat)(q:Int):Bool:=decide (fw h q=(i:Nat)) || (decide (0<=fw h q)&&meshable (nth h.Spans i) (nth h.Spans (fw h q).toNat))
def r6(h:ac):Bool:=cw h.Spans.length λi=>(aK h (nth h.Spans i).Page).all (k6 h i)
def jv(h:ac)(i j:Nat):Bool:=decide ((ar (tbl h) (nth h.Spans i).Page).Frame≠(ar (tbl h) (nth h.Spans j).Page).Frame) || meshable (nth h.Spans i) (nth h.Spans j)
def mg(h:ac):Bool:=cw h.Spans.length λi=>cw i (jv h i)
def jz(z:Int)(o:bG):Bool:=decide (o.Id=z)
def ja(h:ac)(o:bG):Bool:=
 let w:=denotes h.Spans h.Larges o.Addr
 decide (w.Offset=0)&&((decide (w.Kind=1)&&decide ((nth h.Spans w.Index.toNat).Class=aN o.Size)) || (decide (w.Kind=3)&&decide ((nth h.Larges w.Index.toNat).Size=o.Size)))
def gl(a:Int)(h:ac)(i:Nat):Bool:=decide ((i=0\/(nth h.Objs (i - 1)).Addr<(nth h.Objs i).Addr)/\1<=(nth h.Objs i).Id/\(nth h.Objs i).Id<=a/\0<=(nth h.Objs i).Thread/\(nth h.Objs i).Thread<=h.Caches.length - 1)
def objAt(a:Int)(h:ac)(i:Nat):Bool:=(gl a h i&&!(h.Objs.take i).any (jz (nth h.Objs i).Id))&&ja h (nth h.Objs i)
def eK(h:ac):Bool:=cw h.Objs.length (objAt (IntKind.i64.wrap (h.Next - 1)) h)
def cS(h:ac)(a c:Int):Bool:=
 let w:=denotes h.Spans h.Larges a
 (decide (w.Kind=1)&&decide (w.Offset=0))&&(decide (c<0) || decide ((nth h.Spans w.Index.toNat).Class=c))
def pz(h:ac)(c:aB)(k:Nat):Bool:=(nth c.Lists k).all λa=>cS h a (k:Nat)
def dM(h:ac)(c:aB):Bool:=cw c.Lists.length (pz h c)
def gd(h:ac)(x:aM):Bool:=cS h x.Addr x.Class
def iY(h:ac)(a:Int):Bool:=cS h a (-1)
def bY(h:ac):List Int:=h.Caches.flatMap λc=>c.Lists.flatten
def gm(h:ac):Bool:=((h.Caches.all (dM h))&&h.Quar.Lst.all (gd h))&&(aL h.Mail).all (iY h)
def holders(h:ac):List Int:=((h.Objs.map (·.Addr)++bY h)++h.Quar.Lst.map (·.Addr))++aL h.Mail
def iQ(sp:List au)(la:List a8)(a:Nat):Bool:=
 let w:=denotes sp la (a:Nat)
 decide (w.Offset=0)&&(decide (w.Kind=1) || decide (w.Kind=3))
def jN(sp:List au)(la:List a8)(n:Nat):List Int:=((List.range n).filter (iQ sp la)).map λ(i:Nat)=>(i:Int)
def gQ(sp:List au)(la:List a8):List Int:=jN sp la 512
def hB(h:ac):Bool:=(gm h&&decide (holders h).Nodup)&&decide ((holders h).length=(gQ h.Spans h.Larges).length)
def kg(h:ac):Bool:=h.Quar.Lst.all λx=>decide (x.Since<=h.Clock)
def ca(h:ac):Bool:=decide (0<=h.Seed/\h.Seed<=1073741823/\0<=h.Clock/\h.Clock<=1000000/\0<=h.Limit/\h.Limit<=1000/\1<=h.Next/\h.Next<=1000000)
def r9(h:ac):Bool:=if h.Meshing then(iB h.Job&&decide (0<=fw h h.Job.Plan.Keep))&&decide (0<=fw h h.Job.Plan.Move) else p7 h.Job
def lL(h:ac):Bool:=((aA h.Kernel&&bw (dG h) h.Free)&&bi h.Spans h.Larges)&&pages0 h
end Go.Proofs.YtembpgjjnioagaaGreat.Ab
