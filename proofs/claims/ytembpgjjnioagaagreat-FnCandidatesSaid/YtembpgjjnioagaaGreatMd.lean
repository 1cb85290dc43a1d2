/- A function's contract out of the abstract run of its body, where something is lent to it. No condition. -/
import Derived.Test.YtembpgjjnioagaaGreatMc
set_option linter.unusedVariables false
set_option linter.unusedSimpArgs false
set_option linter.constructorNameAsVariable false
namespace Go.Proofs.YtembpgjjnioagaaGreat.Ab
open Go.RowKit
def Mz:C->Value->C
 | .s .own rows,v=>.s (.tag v) rows
 | c,_=>c
def w9 (u:Nat->Value):Nat->List C->List C
 | _,[]=>[]
 | j,c::cs=>Mz c (u j)::w9 u (j+1) cs
def un (u:Nat->Nat->Value):Nat->List MA->List (Nat × AV)
 | _,[]=>[]
 | i,.val ag cs::A=>(i,.hold (jY ag) cs)::un u (i+1) A
 | i,.mut ag cs::A=>(i,.hold (jY ag) (w9 (u i) 0 cs))::un u (i+1) A
 | i,.ptr cs::A=>(i,.hold .box cs)::un u (i+1) A
def Fe (p:Nat->Value):Nat->List MA->List (Nat × Value)
 | _,[]=>[]
 | i,.ptr _::A=>(i,p i)::Fe p (i+1) A
 | i,_::A=>Fe p (i+1) A
def Dy:Nat->List MA->List (Nat × Nat)->List (Option Nat)
 | i,.val _ _::A,_::pl=>none::Dy (i+1) A pl
 | i,.mut _ _::A,p::pl=>some p.1::Dy (i+1) A pl
 | i,.ptr _::A,_::pl=>some i::Dy (i+1) A pl
 | _,_,_=>[]
def DY:List (Option Nat)->Bool
 | []=>true
 | none::l=>DY l
 | some t::l=>l.all (fun x=>match x with|some t'=>!Nat.beq t t'|none=>true)&&DY l
def sles:List (Option Nat)->List Nat
 | []=>[]
 | none::l=>sles l
 | some t::l=>t::sles l
def NH (v:Value) (c y o:C):Prop:=
 match c with
 | .s .own _=>(match y with|.s (.tag v') rows=>v'=v/\o=.s .own rows|_=>False)
 | .s (.tag _) _=>False
 | .m _=>False
 | .it _ _=>False
 | c=>o=c
def Mf (u:Nat->Value):Nat->List C->List C->List C->Prop
 | _,[],_,o=>o=[]
 | j,c::cs,y::xs,o::os=>NH (u j) c y o/\Mf u (j+1) cs xs os
 | _,_,_,_=>False
def gM (u:Nat->Nat->Value) (F:Nat->AV):Nat->List MA->List (Nat × Nat)->List MA->Prop
 | _,[],_,[]=>True
 | i,.val _ _::A,_::pl,.val _ _::B=>gM u F (i+1) A pl B
 | i,.mut ag cs::A,p::pl,.mut ag' out::B=>(ag'=ag/\match F p.1 with|.hold _ xs=>Mf (u i) 0 cs (xs.drop p.2) out|_=>False)/\gM u F (i+1) A pl B
 | i,.ptr _::A,_::pl,.ptr out::B=>(match F i with|.hold .box xs=>xs=out|_=>False)/\gM u F (i+1) A pl B
 | _,_,_,_=>False
inductive aR (k k':Kd) (cs cs':List C) (Q:Prop):Prop
 |mk_ (h:k=k'/\cs=cs'/\Q)
theorem aR.mk {k k':Kd} {cs cs':List C} {Q:Prop} (h1:k=k') (h2:cs=cs') (h3:Q):aR k k' cs cs' Q:=by refine .mk_ ?_;exact⟨h1,h2,h3⟩
theorem aR.out {k k':Kd} {cs cs':List C} {Q:Prop} (h:aR k k' cs cs' Q):k=k'/\cs=cs'/\Q:=by obtain⟨h⟩:=h;exact h
def Mw (TE:Nat->Option TI) (rs:List ResultVar) (k:Kd) (rcs:List C) (u:Nat->Nat->Value) (A B:List MA) (pl:List (Nat × Nat)):Exit->(Nat->AV)->Prop:=fun e F=>
 match e with
 | .normal=>resA TE F rs (sles (Dy 0 A pl)) fun sh cs=>aR (iY sh) k cs rcs (gM u F 0 A pl B)
 | .ret=>resA TE F rs (sles (Dy 0 A pl)) fun sh cs=>aR (iY sh) k cs rcs (gM u F 0 A pl B)
 | _=>False
section
variable {P:Program} {w0 w w1:World} {M S0 S:ac} {N:eL} {φ:Nat->ac} {F:Nat->AV} {a:Act} {TE:Nat->Option TI}
theorem dP.tag {Y:ac} {c:C} {v:Value} (h:dP w S Y c v):dP w S Y (Mz c v) v:=by
 cases h with
 | nil _ o a ho=>cases o with
  | own=>exact .nil _ _ _ rfl
  | _=>exact .nil _ _ _ ho
 | own _ o g k n cap rows u f ho hn hk hcap hpos hF hu hf hd hc=>cases o with
  | own=>exact .own _ _ g k n cap rows u f rfl hn hk hcap hpos hF hu hf hd hc
  | imm=>exact ho.elim
  | tag z=>exact .own _ _ g k n cap rows u f ho hn hk hcap hpos hF hu hf hd hc
 | v _ x h1=>exact .v _ _ h1
 | x _ u h1=>exact .x _ _ h1
 | z _ a=>exact .z _ _
 | imm _ g off k n cap rows u hn hk hcap hS hc=>exact .imm _ g off k n cap rows u hn hk hcap hS hc
 | m _ b clock es ents hF hb he hv hst=>exact .m _ b clock es ents hF hb he hv hst
 | it _ r b since c0 clock seen ents cur left hF hr hb hst hc hv hl hcur=>exact .it _ r b since c0 clock seen ents cur left hF hr hb hst hc hv hl hcur
theorem dP.untag {Y:ac} {z v:Value} {rows:List (List C)} (h:dP w S Y (.s (.tag z) rows) v):v=z/\dP w S Y (.s .own rows) v:=by
 cases h with
 | nil _ o a ho=>exact⟨Eq.symm ho,.nil _ _ _ trivial⟩
 | own _ o g k n cap rows u f ho hn hk hcap hpos hF hu hf hd hc=>exact⟨Eq.symm ho,.own _ _ g k n cap rows u f trivial hn hk hcap hpos hF hu hf hd hc⟩
theorem mR (u:Nat->Value):∀ (j:Nat) (cs:List C),(w9 u j cs).length=cs.length
 | _,[]=>rfl
 | j,c::cs=>by simp[w9,mR u (j+1) cs]
theorem Bl (u:Nat->Value):∀ (j0:Nat) (cs:List C) (j:Nat),(w9 u j0 cs)[j]? = (cs[j]?).map fun c=>Mz c (u (j0+j))
 | _,[],j=>by simp[w9]
 | j0,c::cs,0=>by simp[w9]
 | j0,c::cs,j+1=>by simp only[w9,List.getElem?_cons_succ];rw[Bl u (j0+1) cs j,show j0+1+j=j0+(j+1) by omega]
theorem cF.tag {Y:ac} {cs:List C} {u:Nat->Value} (h:cF w S Y cs u):cF w S Y (w9 u 0 cs) u:=by
 obtain⟨f,h1,h2,h3⟩:=h;refine⟨f,fun j c hj=>?_,fun j hj=>h2 j (by rwa [mR]at hj),fun j j' hj hj'=>h3 j j' (by rwa [mR]at hj) (by rwa [mR]at hj')⟩;rw[Bl,Y4]at hj;cases hc:cs[j]? with
 | none=>rw[hc]at hj;cases hj
 | some c0=>
  rw[hc]at hj;simp only[Y3,T0]at hj;subst hj;exact(h1 j c0 hc).tag
def celF (v:Value) (j:Nat):Value:=v.cells.toList.getD j undef
theorem bN.celF {Y:ac} {ag:Option Nat} {cs:List C} {v:Value} (h:bN w S Y ag cs v):cs.length=ag.getD 1/\v=mkv ag (celF v)/\cF w S Y cs (celF v):=by
 obtain⟨h1,u,h2,h3⟩:=h;have hc:=nJ (ag:=ag) (u:=u) (fun e=>by subst e;exact h3.one (by simp at h1;omega));have hu:∀ j,j<ag.getD 1->Ab.celF v j=u j:=fun j hj=>by
  unfold Ab.celF;rw[h2,hc];simp[List.getD,hj]
 exact⟨h1,h2.trans (gH fun j hj=>(hu j hj).symm),h3.congr fun j hj=>hu j (by omega)⟩
def Me (u:Nat->Nat->Value) (i:Nat):MA->AV
 | .val ag cs=>.hold (jY ag) cs
 | .mut ag cs=>.hold (jY ag) (w9 (u i) 0 cs)
 | .ptr cs=>.hold .box cs
theorem yy {u:Nat->Nat->Value} : ∀ {A:List MA} {vs:List Value} {V:Nat->ac} (i:Nat),K9 w S V A vs->∀ t,(lay (un u i A) t=.dead)\/(∃ m v,i<=t/\vs[t - i]? = some v/\A[t - i]? = some m/\lay (un u i A) t=Me u t m/\ou w S (V (t - i)) m v)
 | [],_,_,i,_,t=>.inl rfl
 | m::A,[],_,i,h,t=>h.elim
 | m::A,v::vs,V,i,h,t=>by
  have hl:lay (un u i (m::A)) t=bif Nat.beq t i then Me u i m else lay (un u (i+1) A) t:=by cases m<;>rfl
  rw[hl];cases hb:Nat.beq t i with
  | true=>
   have:=P1 hb;subst this;exact .inr ⟨m,v,I2 _,by simp,by simp,rfl,by rw[Nat.sub_self];exact h.1⟩
  | false=>
   have hne:t≠i:=fun e=>by subst e;rw[Nat.beq_refl]at hb;cases hb
   rcases yy (i+1) h.2 t with h1|⟨m',v',h1,h2,h3,h4,h5⟩
   ·exact .inl h1
   ·refine .inr ⟨m',v',by omega,?_,?_,h4,?_⟩
    ·rw[show t - i=(t - (i+1))+1 by omega];simpa using h2
    ·rw[show t - i=(t - (i+1))+1 by omega];simpa using h3
    ·rw[show t - i=(t - (i+1))+1 by omega];exact h5
theorem FE:∀ {A:List MA} {vs:List Value} {V:Nat->ac},K9 w S V A vs->A.length=vs.length
 | [],[],_,_=>rfl
 | _::_,_::_,_,h=>by simp[FE h.2]
 | [],_::_,_,h=>h.elim
 | _::_,[],_,h=>h.elim
theorem Fb {p:Nat->Value} : ∀ {A:List MA} {i:Nat} {q:Nat × Value},q∈Fe p i A->i<=q.1/\q.1<i+A.length/\q.2=p q.1
 | [],_,_,h=>by simp[Fe]at h
 | m::A,i,q,h=>by
  have hr:q∈Fe p (i+1) A->i<=q.1/\q.1<i+(m::A).length/\q.2=p q.1:=fun h=>by
   obtain⟨h1,h2,h3⟩:=Fb h;exact⟨by omega,by simp;omega,h3⟩
  cases m with
  | ptr cs=>
   rcases List.mem_cons.1 h with rfl|h
   ·exact⟨I2 _,by simp,rfl⟩
   ·exact hr h
  | val=>exact hr h
  | «mut»=>exact hr h
theorem FW {p:Nat->Value} : ∀ {A:List MA} {i n:Nat} {cs:List C},A[n]? = some (.ptr cs)->(i+n,p (i+n))∈Fe p i A
 | [],_,n,_,h=>by simp at h
 | m::A,i,0,cs,h=>by simp at h;subst h;simp[Fe]
 | m::A,i,n+1,cs,h=>by
  have h1:=FW (p:=p) (i:=i+1) (show A[n]? = some (.ptr cs) by simpa using h);rw[show i+1+n=i+(n+1) by omega]at h1;cases m with
  | ptr cs=>exact Z3 _ h1
  | val=>exact h1
  | «mut»=>exact h1
def Mr (φ:Nat->ac):Option (Option Nat)->ac
 | some (some t)=>φ t
 | _=>NO
theorem Ax {u:Nat->Value} : ∀ {j0:Nat} {cs xs os:List C},Mf u j0 cs xs os->cs.length=os.length/\∀ (j:Nat) (c o:C),cs[j]? = some c->os[j]? = some o->∃ y,(d4 c=true->xs[j]? = some y)/\NH (u (j0+j)) c y o
 | _,[],xs,os,h=>by simp only[Mf]at h;subst h;exact⟨rfl,fun j c o h=>by simp at h⟩
 | _,_::_,[],_,h=>by simp only[Mf]at h
 | _,_::_,_::_,[],h=>by simp only[Mf]at h
 | j0,c0::cs,x0::xs,o0::os,h=>by
  simp only[Mf]at h;obtain⟨h1,h2⟩:=Ax h.2;refine⟨by simp[h1],fun j c o hj ho=>?_⟩;cases j with
  | zero=>simp at hj ho;subst hj ho;exact⟨x0,fun _=>rfl,h.1⟩
  | succ j=>
   obtain⟨y,e1,e2⟩:=h2 j c o (by simpa using hj) (by simpa using ho);exact⟨y,fun hc=>by simpa using e1 hc,by rw[show j0+(j+1)=j0+1+j by omega];exact e2⟩
theorem HZ {S' Y Y':ac} {u tu:Nat->Value} {cs xs os:List C} {off:Nat} (hsame:bi S w w1) (hsub:∀ b o,S b o->S' b o) (h:cF w S Y cs u) (h':cF w1 S' Y' xs tu) (hb:Mf u 0 cs (xs.drop off) os):cF w1 S' Y' os u:=by
 obtain⟨f,h1,h2,h3⟩:=h;obtain⟨f',h1',h2',h3'⟩:=h';obtain⟨hl,hg⟩:=Ax hb;refine⟨fun j b o=>off+j<xs.length/\f' (off+j) b o,fun j c hj=>?_,fun j hj b o hb=>h2' _ hb.1 b o hb.2,fun j j' hj hj' hne b o hb hb'=>h3' _ _ hb.1 hb'.1 (by omega) b o hb.2 hb'.2⟩;have hjl:=(R1.1 hj).1;have hcs:cs[j]? = some cs[j]:=Q1 (by omega);obtain⟨y,hx,hbk⟩:=hg j _ c hcs hj;rw[Y4]at hbk;have hrep:=h1 j _ hcs;generalize cs[j]=c0 at hcs hbk hrep hx;have keep:d4 c0=false->c=c0->dP w1 S' (fun b o=>off+j<xs.length/\f' (off+j) b o) c (u j):=fun hi e=>by
  subst e;exact((hrep.bare (F':=NO) hi).keep hsame (fun _ _ h=>h.elim)).mono hsub (fun _ _ h=>h.elim)
 cases c0 with
 | v x0=>exact keep rfl hbk
 | x=>exact keep rfl hbk
 | z=>exact keep rfl hbk
 | m es=>exact hbk.elim
 | it=>exact hbk.elim
 | s o rows=>
  cases o with
  | imm=>exact keep rfl hbk
  | tag z=>exact hbk.elim
  | own=>
   have hx:=hx rfl;rw[List.getElem?_drop]at hx;have hlt:=(R1.1 hx).1;simp only[NH]at hbk;split at hbk
   case h_2=>exact hbk.elim
   rename_i v' rows';obtain⟨rfl,rfl⟩:=hbk;obtain⟨e1,e2⟩:=(h1' _ _ hx).untag;rw[e1]at e2;exact e2.mono (fun _ _ h=>h) (fun b o h=>⟨hlt,h⟩)
theorem bh.backs {w':World} {S':ac} {u:Nat->Nat->Value} (h:bh w0 M S0 N S' φ F a w') (hsame:bi S w w') (hsub:∀ b o,S b o->S' b o):∀ {A:List MA} {pl:List (Nat × Nat)} {B:List MA} {vs:List Value} {V:Nat->ac} {i:Nat},K9 w S V A vs->
  (∀ j v,vs[j]? = some v->u (i+j)=celF v)->(∀ j v cs,vs[j]? = some v->A[j]? = some (.ptr cs)->tvs a (i+j)=v)->gM u F i A pl B->BL w' S' (fun n=>Mr φ (Dy i A pl)[n]?) B vs
 | [],pl,B,vs,V,i,hA,hu,hp,hb=>by
  cases vs with
  | cons _ _=>exact hA.elim
  | nil=>cases B with
   | nil=>trivial
   | cons _ _=>simp only[gM]at hb
 | m::A,[],B,vs,V,i,hA,hu,hp,hb=>by cases m<;>simp only[gM]at hb
 | m::A,p::pl,[],vs,V,i,hA,hu,hp,hb=>by cases m<;>simp only[gM]at hb
 | m::A,p::pl,m'::B,[],V,i,hA,hu,hp,hb=>hA.elim
 | m::A,p::pl,m'::B,v::vs,V,i,hA,hu,hp,hb=>by
  have next:gM u F (i+1) A pl B->BL w' S' (fun n=>Mr φ (Dy (i+1) A pl)[n]?) B vs:=fun hb=>
   bh.backs h hsame hsub hA.2 (fun j v hj=>by rw[show i+1+j=i+(j+1) by omega];exact hu (j+1) v (by simpa using hj))
    (fun j v cs hj hc=>by rw[show i+1+j=i+(j+1) by omega];exact hp (j+1) v cs (by simpa using hj) (by simpa using hc)) hb
  cases m with
  | val ag cs=>
   cases m' with
   | val ag' cs'=>simp only[gM]at hb;exact⟨trivial,next hb⟩
   | ptr=>simp only[gM]at hb
   | «mut»=>simp only[gM]at hb
  | «mut» ag cs=>
   cases m' with
   | val=>simp only[gM]at hb
   | ptr=>simp only[gM]at hb
   | «mut» ag' out=>
    simp only[gM]at hb;obtain⟨⟨rfl,hb1⟩,hb2⟩:=hb;refine⟨?_,next hb2⟩;have hv:=bN.celF (show bN w S (V 0) ag' cs v from hA.1);have hu0:u i=celF v:=hu 0 v (by simp);have hs:=h.slot p.1;cases hF:F p.1 with
    | hold k xs=>
     rw[hF]at hb1 hs;simp only at hb1;rw[hu0]at hb1;obtain⟨X1,Y,e1,e2,e3,e4,e5⟩:=hs;refine⟨by rw[<-(Ax hb1).1];exact hv.1,celF v,hv.2.1,?_⟩;exact(HZ hsame hsub hv.2.2 e5 hb1).mono (fun _ _ h=>h) (fun b o hb=>by simpa[Dy,Mr] using e2 b o hb)
    | _=>rw[hF]at hb1;exact hb1.elim
  | ptr cs=>
   cases m' with
   | val=>simp only[gM]at hb
   | «mut»=>simp only[gM]at hb
   | ptr out=>
    simp only[gM]at hb;refine⟨?_,next hb.2⟩;have hv:tvs a i=v:=hp 0 v cs (by simp) (by simp);have hs:=h.slot i;cases hF:F i with
    | hold k xs=>
     cases k with
     | box=>
      rw[hF]at hb hs;have:=hb.1;simp only at this;subst this;rw[hv]at hs;obtain⟨X1,Y,e1,e2,e3,e4,e5⟩:=hs;exact⟨X1,Y,fun b o hb=>by simpa[Dy,Mr] using e1 b o hb,fun b o hb=>by simpa[Dy,Mr] using e2 b o hb,e3,e4,e5⟩
     | _=>rw[hF]at hb;exact hb.1.elim
    | _=>rw[hF]at hb;exact hb.1.elim
theorem rW:∀ {l:List (Option Nat)},DY l=true->∀ (i i' t t':Nat),i≠i'->l[i]? = some (some t)->l[i']? = some (some t')->t≠t'
 | [],_,i,i',t,t',_,h,_=>by simp at h
 | none::l,hok,i,i',t,t',hne,h,h'=>by
  cases i with
  | zero=>simp at h
  | succ i=>cases i' with
   | zero=>simp at h'
   | succ i'=>exact rW (l:=l) hok i i' t t' (by omega) (by simpa using h) (by simpa using h')
 | some t0::l,hok,i,i',t,t',hne,h,h'=>by
  simp only[DY,I0]at hok;have hd:∀ (n s:Nat),l[n]? = some (some s)->t0≠s:=fun n s hn e=>by
   have:=v3.1 hok.1 _ (O1 hn);simp only[Bool.not_eq_true']at this;rw[e,Nat.beq_refl]at this;cases this
  cases i with
  | zero=>
   simp at h;subst h;cases i' with
   | zero=>exact absurd rfl hne
   | succ i'=>exact hd i' t' (by simpa using h')
  | succ i=>cases i' with
   | zero=>simp at h';subst h';exact fun e=>hd i t (by simpa using h) e.symm
   | succ i'=>exact rW hok.2 i i' t t' (by omega) (by simpa using h) (by simpa using h')
theorem uN:∀ {l:List (Option Nat)} {i t:Nat},l[i]? = some (some t)->t∈sles l
 | [],i,t,h=>by simp at h
 | none::l,i,t,h=>by
  cases i with
  | zero=>simp at h
  | succ i=>exact uN (l:=l) (i:=i) (by simpa using h)
 | some t0::l,i,t,h=>by
  cases i with
  | zero=>simp at h;subst h;simp[sles]
  | succ i=>exact Z3 _ (uN (l:=l) (i:=i) (by simpa using h))
theorem um {φ:Nat->ac} {x:Option (Option Nat)} {b o:Nat} (h:Mr φ x b o):∃ t,x=some (some t)/\φ t b o:=by
 match x,h with
 | some (some t),h=>exact⟨t,rfl,h⟩
 | some none,h=>exact h.elim
 | none,h=>exact h.elim
theorem Hg {f : Nat} {fn : Func} {c : Code} {sh : Bool} {A B : List MA} {k : Kd} {rcs : List C} {mo : List (Nat × List Nat)} {n : Nat} (pl : List (Nat × Nat)) (hTE : ∀ t i, TE t = some i -> bY P t i) (hf : P.funcs[f]? = some fn) (hn : (fn.name == "runtime.NumGoroutine") = false)
  (hb:fn.body=some c) {ck:Nat->Array Oper->Bool} {D:eL->Nat->Array Oper->((Nat->AV)->Prop)->(Nat->AV)->Prop} (hD:∀ N,vj P N ck (D N)) (hc:fy ck c=true) (hN:A.length+(fn.ntmps - A.length)=n) (hok:DY (Dy 0 A pl)=true) (hsh:sh=true\/gk rcs)
  (hp:∀ (u:Nat->Nat->Value) (p:Nat->Value),aw P TE ⟨n,Fe p 0 A,mo⟩ (D ⟨n,Fe p 0 A,mo⟩) c (Mw TE fn.results.toList k rcs u A B pl) (lay (un u 0 A))):aS P f sh A B k rcs:=by
 refine⟨⟨fn,hf,hn,by rw[hb];rfl⟩,fun w S V vs hS hV hVd hA=>?_⟩;have hlen:=FE hA;refine calls_of_wp hf hb ?_
 let u:Nat->Nat->Value:=fun i=>celF (vs.getD i undef)
 let p:Nat->Value:=fun i=>vs.getD i undef
 have htv:∀ t v,vs[t]? = some v->tvs {tmps:=vs.toArray++Array.replicate (fn.ntmps - vs.toArray.size) undef,defers:=[]} t=v:=fun t v h2=>by
  have hlt:=(R1.1 h2).1;simp only[tvs,V4];rw[Array.getElem?_append_left (by simpa using hlt)];simp only[List.getElem?_toArray];rw[h2];rfl
 have hst:St w (fun b o=>∃ i,V i b o) S ⟨n,Fe p 0 A,mo⟩ (lay (un u 0 A)) {tmps:=vs.toArray++Array.replicate (fn.ntmps - vs.toArray.size) undef,defers:=[]} w:=by
  refine⟨S,V,fun t=>?_,hVd,fun t b o h=>(hV t b o h).2,fun t b o h=>⟨(hV t b o h).1,.inr ⟨t,h⟩⟩,fun _ _ h=>h,fun b o h=>⟨hS b o h,.inl h⟩,bH.refl _ _,by simp;omega,rfl,fun q hq=>?_⟩
  ·rcases yy (u:=u) 0 hA t with h1|⟨m,v,-,h2,h2',h3,h4⟩
   ·rw[h1];trivial
   ·rw[h3]
    rw[Nat.sub_zero]at h2 h4;rw[htv t v h2];have hu:u t=celF v:=by show celF (vs.getD t undef)=_;rw[List.getD,h2];rfl
    cases m with
    | val ag cs=>exact(bN.mono (show bN w S NO ag cs v from h4) (fun _ _ h=>h) (fun _ _ h=>h.elim)).slot
    | «mut» ag cs=>
     obtain⟨e1,e2,e3⟩:=bN.celF (show bN w S (V t) ag cs v from h4);refine bN.slot ⟨by rw[mR];exact e1,celF v,e2,?_⟩;rw[hu];exact e3.tag
    | ptr cs=>exact h4
  ·obtain⟨-,h1,h2⟩:=Fb hq
   rw[h2];have hlt:q.1<vs.length:=by omega
   refine htv _ _ ?_;show vs[q.1]? = some (vs.getD q.1 undef);rw[List.getD,Q1 hlt];rfl
 refine ib hTE (hD _) c hc _ _ _ _ w (hp u p) hst fun e F' a' w' he hs'=>?_
 obtain⟨S',φ',h⟩:=hs';have fin:resA TE F' fn.results.toList (sles (Dy 0 A pl)) (fun sh cs=>aR (iY sh) k cs rcs (gM u F' 0 A pl B))->a'.defers=[]/\∃ v,(results fn a'.tmps).run P w'=.ok v w'/\(∃ v',Ending.returned v=.returned v'/\bH (fun b o=>∃ i,V i b o) w w'/\∃ (X:ac) (V':Nat->ac) (S1:ac),
     (∀ b o,X b o->(∃ i,V i b o)\/(b<w'.heap.size/\w.heap.size<=b))/\(∀ i b o,V' i b o->(∃ i,V i b o)\/(b<w'.heap.size/\w.heap.size<=b))/\
     (∀ b o,S1 b o->(sh=true/\S b o)\/(∃ i,V i b o)\/(b<w'.heap.size/\w.heap.size<=b))/\
     (∀ i i',i≠i'->∀ b o,V' i b o->¬V' i' b o)/\(∀ i b o,X b o->¬V' i b o)/\(∀ b o,X b o->¬S1 b o)/\(∀ i b o,V' i b o->¬S1 b o)/\
     f7 w' NO k rcs.length v'/\cF w' S1 X rcs (bS w' k v')/\BL w' (fun b o=>S b o\/S1 b o) V' B vs):=by
  intro hr;obtain⟨shs,cs,vs',u',hfin,hrun,hT,hln,hL,hcells,hone,hrow⟩:=h.resA hTE hr;obtain⟨rfl,rfl,hback⟩:=hfin.out;refine⟨h.defers,?_⟩;have hrun2:(results fn a'.tmps).run P w'=.ok (if h:vs'.toArray.size=1 then vs'.toArray[0] else .tuple vs'.toArray) w':=by
   have e:results fn a'.tmps=(do let vs <-fn.results.mapM (D5 a'.tmps);pure (if h:vs.size=1 then vs[0] else .tuple vs)):=by
    unfold results
    congr 1
   rw[e,<-Array.toArray_toList (xs:=fn.results),List.mapM_toArray];simp only[Sem.run_bind,Sem.run_map,hrun,Result.andThen_ok,Sem.run_pure]
  have hex:∀ t b o,φ' t b o->(∃ i,V i b o)\/(b<w'.heap.size/\w.heap.size<=b):=fun t b o hb=>(h.ex t b o hb).2.elim (fun h'=>.inr ⟨(h.ex t b o hb).1,h'⟩) .inl
  have hsameS:bi S w w':=fun b o hb=>by
   have hlt:=hS b o hb;exact⟨h.old.cel b o hlt (fun⟨i,hi⟩=>(hV i b o hi).2 hb),h.old.fro b o hlt (fun⟨i,hi⟩=>(hV i b o hi).2 hb)⟩
  have hm:=h.backs (u:=u) hsameS h.sub hA (fun j v hj=>by show celF (vs.getD (0+j) undef)=_;rw[Y4,List.getD,hj];rfl) (fun j v cs hj hc=>by
    have:=h.par _ (FW (p:=p) (i:=0) hc);rw[this];show vs.getD (0+j) undef=v;rw[Y4,List.getD,hj];rfl) hback
  refine⟨_,hrun2,_,rfl,h.old,fun b o=>∃ t,t∉sles (Dy 0 A pl)/\φ' t b o,fun i=>Mr φ' (Dy 0 A pl)[i]?,fun b o=>(sh=true/\S' b o)\/(S' b o/\((∃ i,V i b o)\/w.heap.size<=b)),fun b o ⟨t,_,hb⟩=>hex t b o hb,fun i b o hb=>?_,fun b o hb=>?_,fun i i' hne b o hb hb'=>?_,fun i b o ⟨t,ht,hb⟩ hb'=>?_,fun b o ⟨t,_,hb⟩ hb'=>h.disS t b o hb (hb'.elim (·.2) (·.1)),fun i b o hb hb'=>?_,?_⟩
  ·obtain⟨t,-,hb⟩:=um hb
   exact hex t b o hb
  ·rcases hb with⟨h1,h2⟩|⟨h1,h2⟩
   ·rcases(h.sup b o h2).2 with h3|h3|h3
    ·exact .inl ⟨h1,h3⟩
    ·exact .inr (.inr ⟨(h.sup b o h2).1,h3⟩)
    ·exact .inr (.inl h3)
   ·rcases h2 with h2|h2
    ·exact .inr (.inl h2)
    ·exact .inr (.inr ⟨(h.sup b o h1).1,h2⟩)
  ·obtain⟨t,e1,hb⟩:=um hb
   obtain⟨t',e2,hb'⟩:=um hb';exact h.dis t t' (rW hok i i' t t' hne e1 e2) b o hb hb'
  ·obtain⟨t',e2,hb'⟩:=um hb'
   exact h.dis t t' (fun e=>ht (by rw[e];exact uN e2)) b o hb hb'
  ·obtain⟨t,-,hb⟩:=um hb
   exact h.disS t b o hb (hb'.elim (·.2) (·.1))
  ·have hk:f7 w' NO (iY shs) cs.length (if h:vs'.toArray.size=1 then vs'.toArray[0] else .tuple vs'.toArray)/\cF w' S' (fun b o=>∃ t,t∉sles (Dy 0 A pl)/\φ' t b o) cs (bS w' (iY shs) (if h:vs'.toArray.size=1 then vs'.toArray[0] else .tuple vs'.toArray)):=by
    match shs,hT,hone,hL with
    | [],hT,_,hL=>
     cases vs' with
     | cons _ _=>exact hT.elim
     | nil=>
      have:cs=[]:=z5 (by simpa[oN] using hL.symm);subst this;exact⟨⟨_,rfl,trivial,rfl⟩,cF.nil _ _ _ _⟩
    | [ag],_,hone,_=>
     obtain⟨v,rfl,hv⟩:=hone ag rfl;have:=hv.slot (F:=F') (tv:=tvs a');obtain⟨X1,Y,h1,h2,h3,h4,h5⟩:=this;refine⟨?_,h5.mono (fun _ _ h=>h) h2⟩;cases ag<;>exact h4
    | ag::ag2::sh,hT,_,hL=>
     have hsz:¬vs'.toArray.size=1:=by
      match vs',hT with
      | [],hT=>simp
      | [v],hT=>cases ag<;>cases ag2<;>exact hT.2.elim
      | _::_::_,_=>simp
     rw[dif_neg hsz];refine⟨⟨_,rfl,hT,hL⟩,hrow.congr fun j hj=>?_⟩;simp only[bS,iY,kU,hcells];simp[List.getD,hj]
   refine⟨hk.1,?_,hm.mono fun b o hb=>?_⟩
   ·rcases hsh with h1|h1
    ·exact hk.2.mono (fun b o hb=>.inl ⟨h1,hb⟩) (fun _ _ h=>h)
    ·exact(hk.2.fresh h1).mono (fun _ _ h=>h.elim) (fun _ _ h=>h)
   ·rcases(h.sup b o hb).2 with h3|h3|h3
    ·exact .inl h3
    ·exact .inr (.inr ⟨hb,.inr h3⟩)
    ·exact .inr (.inr ⟨hb,.inl h3⟩)
 cases e with
 | normal=>exact fin he
 | ret=>exact fin he
 | _=>exact he.elim
end
abbrev I (z:Int):C:=.v (.int .i64 z)
abbrev B (b:Bool):C:=.v (.bool b)
def rI (_:dz) (z:Int):List C:=[I z]
def rB (_:dz) (b:Bool):List C:=[B b]
theorem oH (z:Int):gk (rI .own z):=⟨trivial,trivial⟩
theorem B7 (b:Bool):gk (rB .own b):=⟨trivial,trivial⟩
def l9 (z:Int):Prop:=-9223372036854775808<=z/\z<=9223372036854775807
def NX (_:Bool):Prop:=True
theorem oY : Tryz.prog.follows .mixedOrders=true:=by kernel_rfl
theorem Np {n f : Nat} {mo : List (Nat × List Nat)} {fn : Func} {c : Code} {sh : Bool} {A : List RA} {k : Kd} {rcs : List C} (hf : Tryz.prog.funcs[f]? = some fn) (hn : (fn.name == "runtime.NumGoroutine") = false) (hb : fn.body = some c) {tb : List (Nat × Nat × List Nat)} (hc : fy (ma tb) c = true)
  (hN:A.length+(fn.ntmps - A.length)=n) (hsh:sh=true\/gk rcs) (hp:aw Tryz.prog TE ⟨n,[],mo⟩ (DF Tryz.prog TE ⟨n,[],mo⟩ tb) c (Lr TE fn.results.toList k rcs) (lay (tz 0 A))):ao Tryz.prog f sh A k rcs:=
 Gk yu hf hn hb (po yu oY ⟨n,[],mo⟩ tb) hc hN rfl hsh hp
theorem Nh {n f : Nat} {mo : List (Nat × List Nat)} {fn : Func} {c : Code} {sh : Bool} {A B : List MA} {k : Kd} {rcs : List C} (pl : List (Nat × Nat)) (hf : Tryz.prog.funcs[f]? = some fn) (hn : (fn.name == "runtime.NumGoroutine") = false) (hb : fn.body = some c) {tb : List (Nat × Nat × List Nat)} (hc : fy (ma tb) c = true)
  (hN:A.length+(fn.ntmps - A.length)=n) (hok:DY (Dy 0 A pl)=true) (hsh:sh=true\/gk rcs)
  (hp:∀ (u:Nat->Nat->Value) (p:Nat->Value),aw Tryz.prog TE ⟨n,Fe p 0 A,mo⟩ (DF Tryz.prog TE ⟨n,Fe p 0 A,mo⟩ tb) c (Mw TE fn.results.toList k rcs u A B pl) (lay (un u 0 A))):aS Tryz.prog f sh A B k rcs:=
 Hg pl yu hf hn hb (fun N=>po yu oY N tb) hc hN hok hsh hp
theorem N6 {n f t : Nat} {mo : List (Nat × List Nat)} {fn : Func} {c : Code} {A : List RA} {rcs : List C} (hf : Tryz.prog.funcs[f]? = some fn) (hn : (fn.name == "runtime.NumGoroutine") = false) (hb : fn.body = some c) {tb : List (Nat × Nat × List Nat)} (hc : fy (ma tb) c = true)
  (hN:A.length+(fn.ntmps - A.length)=n) (hr:fn.results = #[.tmp t]) (hp:aw Tryz.prog TE ⟨n,[],mo⟩ (DF Tryz.prog TE ⟨n,[],mo⟩ tb) c (Nv t rcs) (lay (tz 0 A))):pB Tryz.prog f true A .box rcs:=
 Gt yu hf hn hb (po yu oY ⟨n,[],mo⟩ tb) hc hN rfl hr hp
theorem ed {x:Int} (h1 : -9223372036854775808<=x) (h2:x<=9223372036854775807):IntKind.i64.wrap x=x:=IntWalk.i64_in x (by constructor<;>assumption)
def JP:RA->RA->Prop
 | .val ag cs,.val ag' cs'=>ag=ag'/\cs=cs'
 | .ptr cs,.ptr cs'=>cs=cs'
 | A,A'=>A=A'
theorem JP.eq {A A':RA} (h:JP A A'):A=A':=by
 unfold JP at h;split at h
 ·obtain⟨rfl,rfl⟩:=h;rfl
 ·rw[h]
 ·exact h
def BX:List RA->List RA->Prop
 | [],[]=>True
 | A::As,B::Bs=>JP A B/\BX As Bs
 | _,_=>False
theorem BX.eq:∀ {A A':List RA},BX A A'->A=A'
 | [],[],_=>rfl
 | A::As,B::Bs,h=>by rw[JP.eq h.1,BX.eq h.2]
 | [],_::_,h=>h.elim
 | _::_,[],h=>h.elim
theorem Cl.eq {P:Program} {f:Nat} {b:Bool} {A A':List RA} {K:AV->Prop} {k:Kd} {rcs:List C} (h:ao P f false A' k rcs) (hA:BX A A') (hK:K (.hold k rcs)):Cl P f b A K:=by rw[hA.eq];exact Cl.mk h hK
theorem wI {n b:Nat} (h:n<=1048576) (hb:b<=1000):n*b<=140737488355328:=V3 (Nat.mul_le_mul h hb) (by decide)
theorem Bf.NB {a b:Bool} {X Y:Prop} (h1:a≠b->X) (h2:a=b->Y):Bf (a != b) X Y:=by
 refine Bf.P (fun h=>h1 ?_) (fun h=>h2 ?_)
 ·simpa using h
 ·simpa using h
theorem Rw.one {bs:List C} {off i k j:Nat} {K:List C->Nat->Prop} {o:dz} {rows:List (List C)} {r:List C} (h1:bs[off]? = some (.s o rows)) (h2:rows[i]? = some r) (h3:r.length=k) (hK:K r j):Rw bs off [(i,k,j)] K:=
 Rw.mk (r:=r) (j:=j) (by simp[bQ,h1,h2,h3]) hK
section
variable {α:Type} {A B:List α}
end
theorem aa {α β:Type} {f:α->β} {l:List α} {k:Nat} {x:α} (h:l[k]? = some x):(l.map f)[k]? = some (f x):=by simp[h]
def aD (o:dz) (x:List Int):List C:=[.s o (x.map (rI o))]
theorem dG (x:List Int):d3 (aD .own x)=aD .imm x:=by simp[d3,aD,rI,d3]
theorem bF (x:List Int):gk (aD .own x):=⟨⟨.inl fun h=>(by cases h),bc _ _ fun y _=>oH y⟩,trivial⟩
def iy (x:List Int):Prop:=x.length<=9223372036854775807/\∀ y∈x,l9 y
def qp (x:List Int):Prop:=x.length<=1048576
def iu (o:dz) (x:List (List Int)):List C:=[.s o (x.map (aD o))]
theorem MU (x:List (List Int)):d3 (iu .own x)=iu .imm x:=by simp[d3,iu,dG,<-bT,I4]
def Ac (x:List (List Int)):Prop:=x.length<=9223372036854775807/\∀ y∈x,iy y
def w5 (x:List (List Int)):Prop:=x.length<=1048576/\∀ y∈x,qp y
def yS (o:dz) (x:List Bool):List C:=[.s o (x.map (rB o))]
def Lv (x:List Bool):Prop:=x.length<=9223372036854775807/\∀ y∈x,NX y
def Km (x:List Bool):Prop:=x.length<=1048576
structure aZ where
 Cells:List (List Int)
 Used:List Bool
deriving DecidableEq,Inhabited
def aZ.enc (o:dz) (x:aZ):List C:=[.s o (x.Cells.map (aD o)),.s o (x.Used.map (rB o))]
theorem aZ.enc_fz (x:aZ):d3 (aZ.enc .own x)=aZ.enc .imm x:=by simp[d3,aZ.enc,rB,dG,<-bT,I4]
theorem aZ.enc_fr (x:aZ):gk (aZ.enc .own x):=⟨⟨.inl fun h=>(by cases h),bc _ _ fun y _=>bF y⟩,⟨.inl fun h=>(by cases h),bc _ _ fun y _=>B7 y⟩,trivial⟩
def aZ.wf (x:aZ):Prop:=Ac x.Cells/\Lv x.Used
def aZ.sml (x:aZ):Prop:=w5 x.Cells/\Km x.Used
structure bj where
 Mode:Int
 Frame:Int
deriving DecidableEq,Inhabited
def bj.enc (o:dz) (x:bj):List C:=[I x.Mode,I x.Frame]
theorem bj.enc_fz (x:bj):d3 (bj.enc .own x)=bj.enc .imm x:=by simp[d3,bj.enc]
theorem bj.enc_fr (x:bj):gk (bj.enc .own x):=⟨trivial,trivial,trivial⟩
def bj.wf (x:bj):Prop:=l9 x.Mode/\l9 x.Frame
def bj.sml (_:bj):Prop:=True
def Bw (o:dz) (x:List bj):List C:=[.s o (x.map (bj.enc o))]
def FZ (x:List bj):Prop:=x.length<=9223372036854775807/\∀ y∈x,bj.wf y
def E7 (x:List bj):Prop:=x.length<=1048576/\∀ y∈x,bj.sml y
structure aG where
 Entries:List bj
deriving DecidableEq,Inhabited
def aG.enc (o:dz) (x:aG):List C:=[.s o (x.Entries.map (bj.enc o))]
theorem aG.enc_fz (x:aG):d3 (aG.enc .own x)=aG.enc .imm x:=by simp[d3,aG.enc,bj.enc_fz,<-bT,I4]
theorem aG.enc_fr (x:aG):gk (aG.enc .own x):=⟨⟨.inl fun h=>(by cases h),bc _ _ fun y _=>bj.enc_fr y⟩,trivial⟩
def aG.wf (x:aG):Prop:=FZ x.Entries
def aG.sml (x:aG):Prop:=E7 x.Entries
structure aQ where
 Frames:aZ
 Table:aG
deriving DecidableEq,Inhabited
def aQ.enc (o:dz) (x:aQ):List C:=[.s o (x.Frames.Cells.map (aD o)),.s o (x.Frames.Used.map (rB o)),.s o (x.Table.Entries.map (bj.enc o))]
theorem aQ.enc_fz (x:aQ):d3 (aQ.enc .own x)=aQ.enc .imm x:=by simp[d3,aQ.enc,bj.enc_fz,rB,dG,<-bT,I4]
theorem aQ.enc_fr (x:aQ):gk (aQ.enc .own x):=⟨⟨.inl fun h=>(by cases h),bc _ _ fun y _=>bF y⟩,⟨.inl fun h=>(by cases h),bc _ _ fun y _=>B7 y⟩,⟨.inl fun h=>(by cases h),bc _ _ fun y _=>bj.enc_fr y⟩,trivial⟩
def aQ.wf (x:aQ):Prop:=aZ.wf x.Frames/\aG.wf x.Table
def aQ.sml (x:aQ):Prop:=aZ.sml x.Frames/\aG.sml x.Table
structure af where
 Machine:aQ
 Calls:Int
 Refuse:List Int
deriving DecidableEq,Inhabited
def af.enc (o:dz) (x:af):List C:=[.s o (x.Machine.Frames.Cells.map (aD o)),.s o (x.Machine.Frames.Used.map (rB o)),.s o (x.Machine.Table.Entries.map (bj.enc o)),I x.Calls,.s o (x.Refuse.map (rI o))]
theorem af.enc_fz (x:af):d3 (af.enc .own x)=af.enc .imm x:=by simp[d3,af.enc,bj.enc_fz,rB,rI,dG,<-bT,I4]
theorem af.enc_fr (x:af):gk (af.enc .own x):=⟨⟨.inl fun h=>(by cases h),bc _ _ fun y _=>bF y⟩,⟨.inl fun h=>(by cases h),bc _ _ fun y _=>B7 y⟩,⟨.inl fun h=>(by cases h),bc _ _ fun y _=>bj.enc_fr y⟩,trivial,⟨.inl fun h=>(by cases h),bc _ _ fun y _=>oH y⟩,trivial⟩
def af.wf (x:af):Prop:=aQ.wf x.Machine/\l9 x.Calls/\iy x.Refuse
def af.sml (x:af):Prop:=aQ.sml x.Machine/\qp x.Refuse
structure a7 where
 At:Int
 Len:Int
deriving DecidableEq,Inhabited
def a7.enc (o:dz) (x:a7):List C:=[I x.At,I x.Len]
theorem a7.enc_fz (x:a7):d3 (a7.enc .own x)=a7.enc .imm x:=by simp[d3,a7.enc]
theorem a7.enc_fr (x:a7):gk (a7.enc .own x):=⟨trivial,trivial,trivial⟩
def a7.wf (x:a7):Prop:=l9 x.At/\l9 x.Len
def a7.sml (_:a7):Prop:=True
def bB (o:dz) (x:List a7):List C:=[.s o (x.map (a7.enc o))]
theorem dB (x:List a7):d3 (bB .own x)=bB .imm x:=by simp[d3,bB,a7.enc_fz,<-bT,I4]
theorem ky (x:List a7):gk (bB .own x):=⟨⟨.inl fun h=>(by cases h),bc _ _ fun y _=>a7.enc_fr y⟩,trivial⟩
def Gb (x:List a7):Prop:=x.length<=9223372036854775807/\∀ y∈x,a7.wf y
def gB (x:List a7):Prop:=x.length<=1048576/\∀ y∈x,a7.sml y
structure au where
 Page:Int
 Class:Int
 Bits:Int
deriving DecidableEq,Inhabited
def au.enc (o:dz) (x:au):List C:=[I x.Page,I x.Class,I x.Bits]
theorem au.enc_fz (x:au):d3 (au.enc .own x)=au.enc .imm x:=by simp[d3,au.enc]
theorem au.enc_fr (x:au):gk (au.enc .own x):=⟨trivial,trivial,trivial,trivial⟩
def au.wf (x:au):Prop:=l9 x.Page/\l9 x.Class/\l9 x.Bits
def au.sml (_:au):Prop:=True
def b6 (o:dz) (x:List au):List C:=[.s o (x.map (au.enc o))]
theorem jC (x:List au):d3 (b6 .own x)=b6 .imm x:=by simp[d3,b6,au.enc_fz,<-bT,I4]
theorem vU (x:List au):gk (b6 .own x):=⟨⟨.inl fun h=>(by cases h),bc _ _ fun y _=>au.enc_fr y⟩,trivial⟩
def HO (x:List au):Prop:=x.length<=9223372036854775807/\∀ y∈x,au.wf y
def dt (x:List au):Prop:=x.length<=1048576/\∀ y∈x,au.sml y
structure a8 where
 Page:Int
 Pages:Int
 Size:Int
deriving DecidableEq,Inhabited
def a8.enc (o:dz) (x:a8):List C:=[I x.Page,I x.Pages,I x.Size]
theorem a8.enc_fz (x:a8):d3 (a8.enc .own x)=a8.enc .imm x:=by simp[d3,a8.enc]
theorem a8.enc_fr (x:a8):gk (a8.enc .own x):=⟨trivial,trivial,trivial,trivial⟩
def a8.wf (x:a8):Prop:=l9 x.Page/\l9 x.Pages/\l9 x.Size
def a8.sml (_:a8):Prop:=True
def bX (o:dz) (x:List a8):List C:=[.s o (x.map (a8.enc o))]
theorem Dl (x:List a8):d3 (bX .own x)=bX .imm x:=by simp[d3,bX,a8.enc_fz,<-bT,I4]
def G7 (x:List a8):Prop:=x.length<=9223372036854775807/\∀ y∈x,a8.wf y
def dq (x:List a8):Prop:=x.length<=1048576/\∀ y∈x,a8.sml y
structure bJ where
 Id:Int
 Addr:Int
 Size:Int
 Thread:Int
deriving DecidableEq,Inhabited
def bJ.enc (o:dz) (x:bJ):List C:=[I x.Id,I x.Addr,I x.Size,I x.Thread]
theorem bJ.enc_fz (x:bJ):d3 (bJ.enc .own x)=bJ.enc .imm x:=by simp[d3,bJ.enc]
theorem bJ.enc_fr (x:bJ):gk (bJ.enc .own x):=⟨trivial,trivial,trivial,trivial,trivial⟩
def bJ.wf (x:bJ):Prop:=l9 x.Id/\l9 x.Addr/\l9 x.Size/\l9 x.Thread
def bJ.sml (_:bJ):Prop:=True
def nz (o:dz) (x:List bJ):List C:=[.s o (x.map (bJ.enc o))]
theorem G2 (x:List bJ):d3 (nz .own x)=nz .imm x:=by simp[d3,nz,bJ.enc_fz,<-bT,I4]
def KS (x:List bJ):Prop:=x.length<=9223372036854775807/\∀ y∈x,bJ.wf y
def Jb (x:List bJ):Prop:=x.length<=1048576/\∀ y∈x,bJ.sml y
structure aB where
 Lists:List (List Int)
deriving DecidableEq,Inhabited
def aB.enc (o:dz) (x:aB):List C:=[.s o (x.Lists.map (aD o))]
theorem aB.enc_fz (x:aB):d3 (aB.enc .own x)=aB.enc .imm x:=by simp[d3,aB.enc,dG,<-bT,I4]
theorem aB.enc_fr (x:aB):gk (aB.enc .own x):=⟨⟨.inl fun h=>(by cases h),bc _ _ fun y _=>bF y⟩,trivial⟩
def aB.wf (x:aB):Prop:=Ac x.Lists
def aB.sml (x:aB):Prop:=w5 x.Lists
def nC (o:dz) (x:List aB):List C:=[.s o (x.map (aB.enc o))]
def Hm (x:List aB):Prop:=x.length<=9223372036854775807/\∀ y∈x,aB.wf y
def Ew (x:List aB):Prop:=x.length<=1048576/\∀ y∈x,aB.sml y
structure cW where
 To:Int
 Addr:Int
deriving DecidableEq,Inhabited
def cW.enc (o:dz) (x:cW):List C:=[I x.To,I x.Addr]
theorem cW.enc_fz (x:cW):d3 (cW.enc .own x)=cW.enc .imm x:=by simp[d3,cW.enc]
theorem cW.enc_fr (x:cW):gk (cW.enc .own x):=⟨trivial,trivial,trivial⟩
def cW.wf (x:cW):Prop:=l9 x.To/\l9 x.Addr
def cW.sml (_:cW):Prop:=True
def co (o:dz) (x:List cW):List C:=[.s o (x.map (cW.enc o))]
theorem pn (x:List cW):d3 (co .own x)=co .imm x:=by simp[d3,co,cW.enc_fz,<-bT,I4]
theorem pc (x:List cW):gk (co .own x):=⟨⟨.inl fun h=>(by cases h),bc _ _ fun y _=>cW.enc_fr y⟩,trivial⟩
def JX (x:List cW):Prop:=x.length<=9223372036854775807/\∀ y∈x,cW.wf y
def Gn (x:List cW):Prop:=x.length<=1048576/\∀ y∈x,cW.sml y
def ue (o:dz) (x:List (List cW)):List C:=[.s o (x.map (co o))]
def GB (x:List (List cW)):Prop:=x.length<=9223372036854775807/\∀ y∈x,JX y
def Ek (x:List (List cW)):Prop:=x.length<=1048576/\∀ y∈x,Gn y
structure aH where
 Buffers:List (List cW)
 Inbox:List (List Int)
deriving DecidableEq,Inhabited
def aH.enc (o:dz) (x:aH):List C:=[.s o (x.Buffers.map (co o)),.s o (x.Inbox.map (aD o))]
theorem aH.enc_fz (x:aH):d3 (aH.enc .own x)=aH.enc .imm x:=by simp[d3,aH.enc,pn,dG,<-bT,I4]
theorem aH.enc_fr (x:aH):gk (aH.enc .own x):=⟨⟨.inl fun h=>(by cases h),bc _ _ fun y _=>pc y⟩,⟨.inl fun h=>(by cases h),bc _ _ fun y _=>bF y⟩,trivial⟩
def aH.wf (x:aH):Prop:=GB x.Buffers/\Ac x.Inbox
def aH.sml (x:aH):Prop:=Ek x.Buffers/\w5 x.Inbox
structure aL where
 Addr:Int
 Class:Int
 Since:Int
deriving DecidableEq,Inhabited
def aL.enc (o:dz) (x:aL):List C:=[I x.Addr,I x.Class,I x.Since]
theorem aL.enc_fz (x:aL):d3 (aL.enc .own x)=aL.enc .imm x:=by simp[d3,aL.enc]
theorem aL.enc_fr (x:aL):gk (aL.enc .own x):=⟨trivial,trivial,trivial,trivial⟩
def aL.wf (x:aL):Prop:=l9 x.Addr/\l9 x.Class/\l9 x.Since
def aL.sml (_:aL):Prop:=True
def cz (o:dz) (x:List aL):List C:=[.s o (x.map (aL.enc o))]
theorem AI (x:List aL):d3 (cz .own x)=cz .imm x:=by simp[d3,cz,aL.enc_fz,<-bT,I4]
theorem sF (x:List aL):gk (cz .own x):=⟨⟨.inl fun h=>(by cases h),bc _ _ fun y _=>aL.enc_fr y⟩,trivial⟩
def Gs (x:List aL):Prop:=x.length<=9223372036854775807/\∀ y∈x,aL.wf y
def jA (x:List aL):Prop:=x.length<=1048576/\∀ y∈x,aL.sml y
structure bA where
 Room:Int
 Lst:List aL
deriving DecidableEq,Inhabited
def bA.enc (o:dz) (x:bA):List C:=[I x.Room,.s o (x.Lst.map (aL.enc o))]
theorem bA.enc_fz (x:bA):d3 (bA.enc .own x)=bA.enc .imm x:=by simp[d3,bA.enc,aL.enc_fz,<-bT,I4]
theorem bA.enc_fr (x:bA):gk (bA.enc .own x):=⟨trivial,⟨.inl fun h=>(by cases h),bc _ _ fun y _=>aL.enc_fr y⟩,trivial⟩
def bA.wf (x:bA):Prop:=l9 x.Room/\Gs x.Lst
def bA.sml (x:bA):Prop:=jA x.Lst
structure bP where
 Keep:Int
 Move:Int
 Cells:List Int
deriving DecidableEq,Inhabited
def bP.enc (o:dz) (x:bP):List C:=[I x.Keep,I x.Move,.s o (x.Cells.map (rI o))]
theorem bP.enc_fz (x:bP):d3 (bP.enc .own x)=bP.enc .imm x:=by simp[d3,bP.enc,rI,<-bT,I4]
theorem bP.enc_fr (x:bP):gk (bP.enc .own x):=⟨trivial,trivial,⟨.inl fun h=>(by cases h),bc _ _ fun y _=>oH y⟩,trivial⟩
def bP.wf (x:bP):Prop:=l9 x.Keep/\l9 x.Move/\iy x.Cells
def bP.sml (x:bP):Prop:=qp x.Cells
structure cj where
 Plan:bP
 Phase:Int
 Next:Int
deriving DecidableEq,Inhabited
def cj.enc (o:dz) (x:cj):List C:=[I x.Plan.Keep,I x.Plan.Move,.s o (x.Plan.Cells.map (rI o)),I x.Phase,I x.Next]
theorem cj.enc_fz (x:cj):d3 (cj.enc .own x)=cj.enc .imm x:=by simp[d3,cj.enc,rI,<-bT,I4]
theorem cj.enc_fr (x:cj):gk (cj.enc .own x):=⟨trivial,trivial,⟨.inl fun h=>(by cases h),bc _ _ fun y _=>oH y⟩,trivial,trivial,trivial⟩
def cj.wf (x:cj):Prop:=bP.wf x.Plan/\l9 x.Phase/\l9 x.Next
def cj.sml (x:cj):Prop:=bP.sml x.Plan
structure ab where
 Kernel:af
 Free:List a7
 Spans:List au
 Larges:List a8
 Objs:List bJ
 Caches:List aB
 Mail:aH
 Quar:bA
 Seed:Int
 Clock:Int
 Limit:Int
 Next:Int
 Meshing:Bool
 Job:cj
deriving DecidableEq,Inhabited
def ab.enc (o:dz) (x:ab):List C:=[.s o (x.Kernel.Machine.Frames.Cells.map (aD o)),.s o (x.Kernel.Machine.Frames.Used.map (rB o)),.s o (x.Kernel.Machine.Table.Entries.map (bj.enc o)),I x.Kernel.Calls,.s o (x.Kernel.Refuse.map (rI o)),.s o (x.Free.map (a7.enc o)),.s o (x.Spans.map (au.enc o)),.s o (x.Larges.map (a8.enc o)),.s o (x.Objs.map (bJ.enc o)),.s o (x.Caches.map (aB.enc o)),.s o (x.Mail.Buffers.map (co o)),.s o (x.Mail.Inbox.map (aD o)),I x.Quar.Room,.s o (x.Quar.Lst.map (aL.enc o)),I x.Seed,I x.Clock,I x.Limit,I x.Next,B x.Meshing,I x.Job.Plan.Keep,I x.Job.Plan.Move,.s o (x.Job.Plan.Cells.map (rI o)),I x.Job.Phase,I x.Job.Next]
theorem ab.enc_fz (x:ab):d3 (ab.enc .own x)=ab.enc .imm x:=by simp[d3,ab.enc,aB.enc_fz,bj.enc_fz,a8.enc_fz,bJ.enc_fz,a7.enc_fz,au.enc_fz,aL.enc_fz,rB,pn,rI,dG,<-bT,I4]
theorem ab.enc_fr (x:ab):gk (ab.enc .own x):=⟨⟨.inl fun h=>(by cases h),bc _ _ fun y _=>bF y⟩,⟨.inl fun h=>(by cases h),bc _ _ fun y _=>B7 y⟩,⟨.inl fun h=>(by cases h),bc _ _ fun y _=>bj.enc_fr y⟩,trivial,⟨.inl fun h=>(by cases h),bc _ _ fun y _=>oH y⟩,⟨.inl fun h=>(by cases h),bc _ _ fun y _=>a7.enc_fr y⟩,⟨.inl fun h=>(by cases h),bc _ _ fun y _=>au.enc_fr y⟩,⟨.inl fun h=>(by cases h),bc _ _ fun y _=>a8.enc_fr y⟩,⟨.inl fun h=>(by cases h),bc _ _ fun y _=>bJ.enc_fr y⟩,⟨.inl fun h=>(by cases h),bc _ _ fun y _=>aB.enc_fr y⟩,⟨.inl fun h=>(by cases h),bc _ _ fun y _=>pc y⟩,⟨.inl fun h=>(by cases h),bc _ _ fun y _=>bF y⟩,trivial,⟨.inl fun h=>(by cases h),bc _ _ fun y _=>aL.enc_fr y⟩,trivial,trivial,trivial,trivial,trivial,trivial,trivial,⟨.inl fun h=>(by cases h),bc _ _ fun y _=>oH y⟩,trivial,trivial,trivial⟩
def ab.wf (x:ab):Prop:=af.wf x.Kernel/\Gb x.Free/\HO x.Spans/\G7 x.Larges/\KS x.Objs/\Hm x.Caches/\aH.wf x.Mail/\bA.wf x.Quar/\l9 x.Seed/\l9 x.Clock/\l9 x.Limit/\l9 x.Next/\NX x.Meshing/\cj.wf x.Job
def ab.sml (x:ab):Prop:=af.sml x.Kernel/\gB x.Free/\dt x.Spans/\dq x.Larges/\Jb x.Objs/\Ew x.Caches/\aH.sml x.Mail/\bA.sml x.Quar/\cj.sml x.Job
structure i7 where
 Kind:Int
 Index:Int
 Slot:Int
 Offset:Int
deriving DecidableEq,Inhabited
def i7.enc (o:dz) (x:i7):List C:=[I x.Kind,I x.Index,I x.Slot,I x.Offset]
theorem i7.enc_fr (x:i7):gk (i7.enc .own x):=⟨trivial,trivial,trivial,trivial,trivial⟩
structure NS where
 Id:Int
 Size:Int
 Sum:Int
deriving DecidableEq,Inhabited
structure bE where
 Id:Int
 Cells:List Int
deriving DecidableEq,Inhabited
def bE.enc (o:dz) (x:bE):List C:=[I x.Id,.s o (x.Cells.map (rI o))]
theorem bE.enc_fz (x:bE):d3 (bE.enc .own x)=bE.enc .imm x:=by simp[d3,bE.enc,rI,<-bT,I4]
theorem bE.enc_fr (x:bE):gk (bE.enc .own x):=⟨trivial,⟨.inl fun h=>(by cases h),bc _ _ fun y _=>oH y⟩,trivial⟩
def bE.sml (x:bE):Prop:=qp x.Cells
def Dp (x:List bE):Prop:=x.length<=1048576/\∀ y∈x,bE.sml y
structure ax where
 Next:Int
 Objs:List bE
deriving DecidableEq,Inhabited
def ax.enc (o:dz) (x:ax):List C:=[I x.Next,.s o (x.Objs.map (bE.enc o))]
theorem ax.enc_fz (x:ax):d3 (ax.enc .own x)=ax.enc .imm x:=by simp[d3,ax.enc,bE.enc_fz,<-bT,I4]
theorem ax.enc_fr (x:ax):gk (ax.enc .own x):=⟨trivial,⟨.inl fun h=>(by cases h),bc _ _ fun y _=>bE.enc_fr y⟩,trivial⟩
def ax.sml (x:ax):Prop:=Dp x.Objs
structure bI where
 Heap:ab
 Ref:ax
deriving DecidableEq,Inhabited
def bI.enc (o:dz) (x:bI):List C:=[.s o (x.Heap.Kernel.Machine.Frames.Cells.map (aD o)),.s o (x.Heap.Kernel.Machine.Frames.Used.map (rB o)),.s o (x.Heap.Kernel.Machine.Table.Entries.map (bj.enc o)),I x.Heap.Kernel.Calls,.s o (x.Heap.Kernel.Refuse.map (rI o)),.s o (x.Heap.Free.map (a7.enc o)),.s o (x.Heap.Spans.map (au.enc o)),.s o (x.Heap.Larges.map (a8.enc o)),.s o (x.Heap.Objs.map (bJ.enc o)),.s o (x.Heap.Caches.map (aB.enc o)),.s o (x.Heap.Mail.Buffers.map (co o)),.s o (x.Heap.Mail.Inbox.map (aD o)),I x.Heap.Quar.Room,.s o (x.Heap.Quar.Lst.map (aL.enc o)),I x.Heap.Seed,I x.Heap.Clock,I x.Heap.Limit,I x.Heap.Next,B x.Heap.Meshing,I x.Heap.Job.Plan.Keep,I x.Heap.Job.Plan.Move,.s o (x.Heap.Job.Plan.Cells.map (rI o)),I x.Heap.Job.Phase,I x.Heap.Job.Next,I x.Ref.Next,.s o (x.Ref.Objs.map (bE.enc o))]
theorem bI.enc_fr (x:bI):gk (bI.enc .own x):=⟨⟨.inl fun h=>(by cases h),bc _ _ fun y _=>bF y⟩,⟨.inl fun h=>(by cases h),bc _ _ fun y _=>B7 y⟩,⟨.inl fun h=>(by cases h),bc _ _ fun y _=>bj.enc_fr y⟩,trivial,⟨.inl fun h=>(by cases h),bc _ _ fun y _=>oH y⟩,⟨.inl fun h=>(by cases h),bc _ _ fun y _=>a7.enc_fr y⟩,⟨.inl fun h=>(by cases h),bc _ _ fun y _=>au.enc_fr y⟩,⟨.inl fun h=>(by cases h),bc _ _ fun y _=>a8.enc_fr y⟩,⟨.inl fun h=>(by cases h),bc _ _ fun y _=>bJ.enc_fr y⟩,⟨.inl fun h=>(by cases h),bc _ _ fun y _=>aB.enc_fr y⟩,⟨.inl fun h=>(by cases h),bc _ _ fun y _=>pc y⟩,⟨.inl fun h=>(by cases h),bc _ _ fun y _=>bF y⟩,trivial,⟨.inl fun h=>(by cases h),bc _ _ fun y _=>aL.enc_fr y⟩,trivial,trivial,trivial,trivial,trivial,trivial,trivial,⟨.inl fun h=>(by cases h),bc _ _ fun y _=>oH y⟩,trivial,trivial,trivial,⟨.inl fun h=>(by cases h),bc _ _ fun y _=>bE.enc_fr y⟩,trivial⟩
structure Nl where
 Pages:Int
 Mapped:Int
 Frames:Int
 Held:Int
 ll:Int
 Cached:Int
 Stale:Int
 Posted:Int
deriving DecidableEq,Inhabited
theorem Lm {α β:Type} {f:α->β} {l:List α} {K:Nat->Prop} (h:K l.length):Ln (l.map f).length K:=Ln.mk (U0 ..) h
theorem Wm {z:Int} {K:Int->Prop} (h : -9223372036854775808<=z/\z<=9223372036854775807) (hK:K z):Wr .i64 z K:=Wr.mk (ed h.1 h.2) hK
theorem dT {p:Prop} [Decidable p] {X Y:Prop} (h:p) (hX:p->X):Bf (decide p) X Y:=.D hX fun e=>absurd h e
theorem dF {p:Prop} [Decidable p] {X Y:Prop} (h:¬p) (hY:¬p->Y):Bf (decide p) X Y:=.D (fun e=>absurd e h) hY
theorem nT {a b:Int} {X Y:Prop} (h:a≠b) (hX:a≠b->X):Bf (a != b) X Y:=.N hX fun e=>absurd e h
theorem nF {a b:Int} {X Y:Prop} (h:a=b) (hY:a=b->Y):Bf (a != b) X Y:=.N (fun e=>absurd h e) hY
theorem eT {a b:Int} {X Y:Prop} (h:a=b) (hX:a=b->X):Bf (a == b) X Y:=.E hX fun e=>absurd h e
theorem eF {a b:Int} {X Y:Prop} (h:a≠b) (hY:a≠b->Y):Bf (a == b) X Y:=.E (fun e=>absurd e h) hY
theorem Bn {b:Bool} {X Y:Prop} (h:Bf b Y X):Bf (!b) X Y:=.not h
theorem Bt {X Y:Prop} (h:X):Bf true X Y:=.t rfl h
theorem Bu {X Y:Prop} (h:Y):Bf false X Y:=.f rfl h
theorem Fm {k k':Kd} {cs cs':List C} (h1:k=k') (h:cs=cs'):iW k k' cs cs':=.mk h1 h
theorem dV {p:Prop} [Decidable p] {X Y:Prop} (h:p) (hX:X):Bf (decide p) X Y:=.D (fun _=>hX) fun e=>absurd h e
theorem dW {p:Prop} [Decidable p] {X Y:Prop} (h:¬p) (hY:Y):Bf (decide p) X Y:=.D (fun e=>absurd e h) fun _=>hY
theorem nV {a b:Int} {X Y:Prop} (h:a≠b) (hX:X):Bf (a != b) X Y:=.N (fun _=>hX) fun e=>absurd e h
theorem nW {a b:Int} {X Y:Prop} (h:a=b) (hY:Y):Bf (a != b) X Y:=.N (fun e=>absurd h e) fun _=>hY
theorem eV {a b:Int} {X Y:Prop} (h:a=b) (hX:X):Bf (a == b) X Y:=.E (fun _=>hX) fun e=>absurd h e
theorem eW {a b:Int} {X Y:Prop} (h:a≠b) (hY:Y):Bf (a == b) X Y:=.E (fun e=>absurd e h) fun _=>hY
structure M4 (Y:Prop):Prop where
 out:Y
theorem gO {X Y:Prop} (y:Y) (h:M4 Y->X:=by intro y;(conv=>whnf);(first|with_reducible (first|refine Lm ?_|refine Wm (by omega) ?_|refine Bn ?_|refine Fm rfl ?_)|refine Bt ?_|refine Bu ?_|fail);exact y.out):X:=h ⟨y⟩
theorem gD {X Y:Prop} (y:Y) (h:M4 Y->X:=by intro y;(conv=>whnf);(first|with_reducible (first|refine Lm ?_|refine Wm (by omega) ?_|refine dV (by omega) ?_|refine dW (by omega) ?_|refine Bn ?_|refine Fm rfl ?_)|refine Bt ?_|refine Bu ?_|fail);exact y.out):X:=h ⟨y⟩
theorem gA {X Y:Prop} (y:Y) (h:M4 Y->X:=by intro y;(conv=>whnf);(first|with_reducible (first|refine Lm ?_|refine Wm (by omega) ?_|refine dV (by omega) ?_|refine dW (by omega) ?_|refine nV (by omega) ?_|refine nW (by omega) ?_|refine eV (by omega) ?_|refine eW (by omega) ?_|refine Bn ?_|refine Fm rfl ?_)|refine Bt ?_|refine Bu ?_|fail);exact y.out):X:=h ⟨y⟩
theorem N2 {z1 z2:Int} (h:z1=z2):Lk (I z1) (I z2):=by subst h;rfl
theorem NK (c:C):Lk c c:=(lf [c]).1
theorem wA {X:Prop} (h:X:=by repeat'(first|exact trivial|rfl|refine And.intro ?_ ?_)):X:=h
theorem wB {X:Prop} (h:X:=by repeat'(first|exact trivial|rfl|refine And.intro ?_ ?_|(exact N2 (by first|omega|(simp only;omega)|(simp;omega))))):X:=h
theorem wC {X:Prop} (h:X:=by repeat'(first|exact trivial|rfl|exact NK _|refine And.intro ?_ ?_|(exact N2 (by first|omega|(simp only;omega)|(simp;omega))))):X:=h
theorem fO (n : Nat) {f : Nat} {fn : Func} {c : Code} {sh : Bool} {A : List RA} {k : Kd} {rcs : List C} (tb : List (Nat × Nat × List Nat)) (hf : Tryz.prog.funcs[f]? = some fn) (hb : fn.body = some c) (hp : aw Tryz.prog TE ⟨n, [], []⟩ (DF Tryz.prog TE ⟨n, [], []⟩ tb) c (Lr TE fn.results.toList k rcs) (lay (tz 0 A))) (hsh : sh = true \/ gk rcs := by exact .inr ⟨trivial, trivial⟩) (hn : (fn.name == "runtime.NumGoroutine") = false := by kernel_rfl) (hc : fy (ma tb) c = true := by kernel_rfl) (hN : A.length + (fn.ntmps - A.length) = n := by rfl) : ao Tryz.prog f sh A k rcs := Np hf hn hb hc hN hsh hp
theorem fP (n : Nat) {f : Nat} {fn : Func} {c : Code} {sh : Bool} {A : List RA} {k : Kd} {rcs : List C} (mo : List (Nat × List Nat)) (tb : List (Nat × Nat × List Nat)) (hf : Tryz.prog.funcs[f]? = some fn) (hb : fn.body = some c) (hp : aw Tryz.prog TE ⟨n, [], mo⟩ (DF Tryz.prog TE ⟨n, [], mo⟩ tb) c (Lr TE fn.results.toList k rcs) (lay (tz 0 A))) (hsh : sh = true \/ gk rcs := by exact .inr ⟨trivial, trivial⟩) (hn : (fn.name == "runtime.NumGoroutine") = false := by kernel_rfl) (hc : fy (ma tb) c = true := by kernel_rfl) (hN : A.length + (fn.ntmps - A.length) = n := by rfl) : ao Tryz.prog f sh A k rcs := Np hf hn hb hc hN hsh hp
theorem fM (n : Nat) {f : Nat} {fn : Func} {c : Code} {sh : Bool} {A B : List MA} {k : Kd} {rcs : List C} (mo : List (Nat × List Nat)) (tb : List (Nat × Nat × List Nat)) (pl : List (Nat × Nat)) (hf : Tryz.prog.funcs[f]? = some fn) (hb : fn.body = some c) (hp : ∀ (u : Nat -> Nat -> Value) (p : Nat -> Value), aw Tryz.prog TE ⟨n, Fe p 0 A, mo⟩ (DF Tryz.prog TE ⟨n, Fe p 0 A, mo⟩ tb) c (Mw TE fn.results.toList k rcs u A B pl) (lay (un u 0 A))) (hsh : sh = true \/ gk rcs := by exact .inr ⟨trivial, trivial⟩) (hn : (fn.name == "runtime.NumGoroutine") = false := by kernel_rfl) (hc : fy (ma tb) c = true := by kernel_rfl) (hN : A.length + (fn.ntmps - A.length) = n := by rfl) (hok : DY (Dy 0 A pl) = true := by rfl) : aS Tryz.prog f sh A B k rcs := Nh pl hf hn hb hc hN hok hsh hp
section
variable {α:Type} {l:List α} {p:α->Bool} {i:Nat} {x:α}
theorem cy (h:l[i]? = some x) (ha:(l.take i).all p=true) (hx:p x=true):(l.take (i+1)).all p=true:=by
 rw[v4,h,List.all_append,ha];simp[hx]
theorem dU (h:l[i]? = some x) (hx:p x=false):l.all p=false:=by
 rw[List.all_eq_false];exact⟨x,O1 h,by simp[hx]⟩
theorem gg (hi:l.length<=i) (ha:(l.take i).all p=true):l.all p=true:=by
 rwa [t5 hi]at ha
end
theorem tN {α β:Type} {a:List α} {b:List β} {i:Nat} {x:α} {y:β} (h1:a[i]? = some x) (h2:b[i]? = some y):(a.zip b)[i]? = some (x,y):=by
 rw[List.getElem?_zip_eq_some];exact⟨h1,h2⟩
def nth {α:Type} [Inhabited α] (xs:List α) (i:Nat):α:=xs.getD i default
theorem ah {α:Type} [Inhabited α] {xs:List α} {i:Nat} (h:i<xs.length):xs[i]? = some (nth xs i):=by
 unfold nth;rw[V1,Q1 h];rfl
theorem bn {α:Type} [Inhabited α] {xs:List α} {i:Nat} {y:α} (h:xs[i]? = some y):nth xs i=y:=by
 unfold nth;rw[V1,h];rfl
theorem am {α:Type} [Inhabited α] {xs:List α} {i:Nat} (h:i<xs.length):nth xs i∈xs:=O1 (ah h)
def cA (n:Nat) (p:Nat->Bool):Bool:=(List.range n).all p
theorem bZ {n:Nat} {p:Nat->Bool} : cA n p=true↔∀ j,j<n->p j=true:=by
 unfold cA;simp
theorem bK {n:Nat} {p:Nat->Bool} (h:cA n p=true) (hp:p n=true):cA (n+1) p=true:=by
 rw[bZ]at *;grind
theorem ce {n i:Nat} {p:Nat->Bool} (hi:i<n) (hp:p i=false):cA n p=false:=by
 by_cases h:cA n p=true
 ·rw[bZ]at h;grind
 ·simpa using h
theorem d9 {n i:Nat} {p:Nat->Bool} (h:cA n p=true) (hi:i<n):p i=true:=bZ.1 h i hi
def ir (u:Bool) (v:Int):Bool:=decide (0<=v/\v<=999)&&(u || decide (v=0))
def gQ (r:List Int) (u:Bool):Bool:=decide (r.length=16)&&r.all (ir u)
def cZ (f:aZ):Bool:=decide (1<=f.Cells.length/\f.Cells.length<=32)&&(decide (f.Used.length=f.Cells.length)&&(f.Cells.zip f.Used).all fun q=>gQ q.1 q.2)
theorem gL {f:aZ} {i:Nat} {r:List Int} {u:Bool} (h1:f.Cells[i]? = some r) (h2:f.Used[i]? = some u) (h3:gQ r u=false):cZ f=false:=by
 unfold cZ;rw[dU (p:=fun q=>gQ q.1 q.2) (tN h1 h2) h3];simp
theorem qa {r:List Int} {u:Bool} {k:Nat} {v:Int} (h1:r[k]? = some v) (h2:ir u v=false):gQ r u=false:=by
 unfold gQ;rw[dU h1 h2];simp
theorem yZ {f:aZ} (h:cZ f=true):1<=f.Cells.length/\f.Cells.length<=32/\f.Used.length=f.Cells.length:=by
 unfold cZ at h;simp only[I0,C0]at h;exact⟨h.1.1,h.1.2,h.2.1⟩
def jV (fr:Int) (e:bj):Bool:=decide (0<=e.Mode/\e.Mode<=2/\(e.Mode=0->e.Frame=0)/\(e.Mode≠0->0<=e.Frame/\e.Frame<fr))
def f9 (t:aG) (fr:Int):Bool:=cA t.Entries.length (fun i=>jV fr (nth t.Entries i))&&decide (1<=t.Entries.length/\t.Entries.length<=32)
def Hu (t:aG) (f:Int) (i:Nat):Bool:=decide ((nth t.Entries i).Mode≠0/\(nth t.Entries i).Frame=f)
def iG (t:aG) (f:Int) (n:Nat):List Int:=((List.range n).filter (Hu t f)).map fun(i:Nat)=>(i:Int)
def pagesOn (t:aG) (f:Int):List Int:=iG t f t.Entries.length
theorem xL {t:aG} {f:Int} {n:Nat} (h:Hu t f n=true):iG t f (n+1)=iG t f n++[(n:Int)]:=by
 unfold iG;rw[List.range_succ,List.filter_append,C4];simp[h]
theorem BY {t:aG} {f:Int} {n:Nat} (h:Hu t f n=false):iG t f (n+1)=iG t f n:=by
 unfold iG;rw[List.range_succ,List.filter_append,C4];simp[h]
theorem qV (t:aG) (f:Int) (n:Nat):(iG t f n).length<=n:=by
 unfold iG;rw[U0];exact V3 (List.length_filter_le ..) (by simp)
def ar (t:aG) (p:Int):bj:=if 0<=p/\p<t.Entries.length then nth t.Entries p.toNat else⟨0,0⟩
def mQ (m:aQ) (i:Nat):Bool:=nth m.Frames.Used i == decide (0<(pagesOn m.Table (i:Int)).length)
def de (m:aQ):Bool:=(cZ m.Frames&&f9 m.Table m.Frames.Used.length)&&cA m.Frames.Used.length (mQ m)
def aA (k:af):Bool:=(cA k.Refuse.length (fun i=>decide (0<=nth k.Refuse i))&&de k.Machine)&&decide (0<=k.Calls/\k.Calls<=100000/\k.Refuse.length<=40)
def rangeIn (pages:Int) (r:a7):Bool:=decide (1<=r.Len/\r.Len<=pages/\0<=r.At/\r.At<=pages - r.Len)
def fA (pages:Int) (xs:List a7) (i:Nat):Bool:=rangeIn pages (nth xs i)&&decide (i=0\/(nth xs (i - 1)).At+(nth xs (i - 1)).Len<(nth xs i).At)
def bv (pages:Int) (xs:List a7):Bool:=cA xs.length (fA pages xs)&&decide (1<=pages/\pages<=32)
def oW (page:Int) (r:a7):Bool:=decide (r.At<=page)&&decide (page<IntKind.i64.wrap (r.At+r.Len))
def lim (k:Int):Int:=if k=0 then 65535 else if k=1 then 255 else if k=2 then 15 else if k=3 then 3 else 0
def slots (k:Int):Int:=if k=0 then 16 else if k=1 then 8 else if k=2 then 4 else if k=3 then 2 else 0
def aY (s:au):Bool:=decide (0<=s.Page/\s.Page<=31/\0<=s.Class/\s.Class<=3/\0<=s.Bits/\s.Bits<=lim s.Class)
def eI (n:Int):Int:=if 9<=n/\n<=1000 then(n+15) / 16 else 0
def bR (l:a8):Bool:=decide (9<=l.Size/\l.Size<=1000/\l.Pages=(l.Size+15) / 16/\0<=l.Page/\l.Page<=32 - l.Pages)
def lpgs (l:a8) (n:Nat):List Int:=(List.range n).map fun(i:Nat)=>l.Page+i
def pgs (sp:List au) (la:List a8):List Int:=sp.map (·.Page)++la.flatMap fun l=>lpgs l l.Pages.toNat
def bk (sp:List au) (la:List a8):Bool:=(sp.all aY&&la.all bR)&&decide (pgs sp la).Nodup
def cw (s:au) (a:Int):Bool:=aY s&&decide (16*s.Page<=a/\a<=16*s.Page+15)
def aT (b i:Int):Bool:=decide (0<=b/\0<=i/\i<=15/\b / 2 ^ i.toNat % 2=1)
def bw (l:a8) (a:Int):Bool:=bR l&&decide (16*l.Page<=a/\a<=16*l.Page+l.Size - 1)
def csz (k:Int):Int:=if 0<=k/\k<=3 then 2 ^ k.toNat else 0
def gT (s:au) (a:Int):Int × Int:=if cw s a then((a - 16*s.Page) / csz s.Class,(a - 16*s.Page) % csz s.Class) else(-1,-1)
def ov (i:Nat) (s:au) (a:Int):i7:=⟨if aT s.Bits ((a - 16*s.Page) / csz s.Class) then 1 else 2,i,(a - 16*s.Page) / csz s.Class,(a - 16*s.Page) % csz s.Class⟩
def denotes (sp:List au) (la:List a8) (a:Int):i7:=
 match sp.findIdx? (cw · a) with
 | some i=>ov i (nth sp i) a
 | none=>match la.findIdx? (bw · a) with
  | some i=>⟨3,i,0,a - 16*(nth la i).Page⟩
  | none=>⟨0,0,0,0⟩
theorem tL {α:Type} {pr:α->Bool} {xs:List α} {i:Nat} {y:α} (hy:xs[i]? = some y) (hp:pr y=true) (ha:∀ (j:Nat) (z:α),j<i->xs[j]? = some z->pr z=false):xs.findIdx? pr=some i:=by
 obtain⟨hi,rfl⟩:=R1.1 hy;exact Z4.2 ⟨hi,hp,fun j hj=>by
   have:=ha j _ hj (Q1 (by omega));simp[this]⟩
theorem wy {α:Type} {pr:α->Bool} {xs:List α} {i:Nat} (hi:xs.length<=i) (ha:∀ (j:Nat) (z:α),j<i->xs[j]? = some z->pr z=false):xs.findIdx? pr=none:=
 List.findIdx?_eq_none_iff.2 fun z hz=>by
  obtain⟨j,hj⟩:=List.mem_iff_getElem?.1 hz;exact ha j z (by have:=(R1.1 hj).1;omega) hj
theorem dc {α:Type} {pr:α->Bool} {xs:List α} {i:Nat} {y:α} (hy:xs[i]? = some y) (hp:pr y=false) (ha:∀ (j:Nat) (z:α),j<i->xs[j]? = some z->pr z=false):∀ (j:Nat) (z:α),j<i+1->xs[j]? = some z->pr z=false:=by
 intro j z hj hz;rcases Nat.lt_or_ge j i with h1|h1
 ·exact ha j z h1 hz
 ·obtain rfl:j=i:=by omega
  rw[hy]at hz;cases hz;exact hp
def du {α:Type} (pr:α->Bool) (xs:List α):Int:=match xs.findIdx? pr with|some i=>(i:Nat)|none=>-1
theorem dD {α:Type} {pr:α->Bool} {xs:List α} {i:Nat} {y:α} (hy:xs[i]? = some y) (hp:pr y=true) (ha:∀ (j:Nat) (z:α),j<i->xs[j]? = some z->pr z=false):du pr xs=(i:Nat):=by
 unfold du;rw[tL hy hp ha]
theorem fE {α:Type} {pr:α->Bool} {xs:List α} {i:Nat} (hi:xs.length<=i) (ha:∀ (j:Nat) (z:α),j<i->xs[j]? = some z->pr z=false):du pr xs = -1:=by
 unfold du;rw[wy hi ha]
theorem jz {α:Type} (pr:α->Bool) (xs:List α):decide (du pr xs≥0)=xs.any pr:=by
 unfold du;cases h:xs.findIdx? pr with
 | none=>
  have:=List.findIdx?_eq_none_iff.1 h;have h2:xs.any pr=false:=by rw[List.any_eq_false];intro y hy;simp[this y hy]
  rw[h2];rfl
 | some i=>
  obtain⟨hi,hp,-⟩:=Z4.1 h;have h2:xs.any pr=true:=Z2.2 ⟨_,List.getElem_mem hi,hp⟩;rw[h2];simp
def meshable (s t:au):Bool:=(aY s&&aY t)&&decide (s.Class=t.Class/\s.Page≠t.Page/\s.Bits.toNat &&& t.Bits.toNat=0)
def mi (n:Int) (p:cW):Bool:=decide (0<=p.To/\p.To<=n - 1/\0<=p.Addr)
def LI (z:Int):Bool:=decide (0<=z)
def fZ (m:aH) (i:Nat):Bool:=(nth m.Buffers i).all (mi m.Buffers.length)&&(nth m.Inbox i).all LI
def bp (m:aH):Nat->Int
 | 0=>0
 | i+1=>bp m i+((nth m.Buffers i).length+(nth m.Inbox i).length)
def bD (m:aH):Bool:=(decide (1<=m.Buffers.length/\m.Buffers.length<=4/\m.Inbox.length=m.Buffers.length)&&cA m.Buffers.length (fZ m))&&decide (bp m m.Buffers.length<=30)
def aK (m:aH):List Int:=if bD m then(m.Buffers.flatMap fun l=>l.map (·.Addr))++m.Inbox.flatten else []
def dJ (a:Int) (y:aL):Bool:=decide (y.Addr=a)
def js (xs:List aL) (i:Nat):Bool:=decide (0<=(nth xs i).Class/\(nth xs i).Class<=3/\0<=(nth xs i).Addr/\0<=(nth xs i).Since/\(i=0\/(nth xs (i - 1)).Since<=(nth xs i).Since))&&!(xs.take i).any (dJ (nth xs i).Addr)
def quarCells (xs:List aL):Nat->Int
 | 0=>0
 | i+1=>quarCells xs i+csz (nth xs i).Class
def f6 (q:bA):Bool:=cA q.Lst.length (js q.Lst)&&decide (0<=q.Room/\q.Room<=500/\quarCells q.Lst q.Lst.length<=q.Room)
def lO (xs:List Int) (i:Nat):Bool:=decide (0<=nth xs i/\nth xs i<=15/\(i=0\/nth xs (i - 1)<nth xs i))
def ek (p:bP):Bool:=cA p.Cells.length (lO p.Cells)&&decide (0<=p.Keep/\p.Keep<=31/\0<=p.Move/\p.Move<=31/\p.Keep≠p.Move)
def iH (j:cj):Bool:=ek j.Plan&&decide (0<=j.Phase/\j.Phase<=5/\0<=j.Next/\j.Next<=j.Plan.Cells.length)
def qC (j:cj):Bool:=decide (j.Plan.Keep=0/\j.Plan.Move=0/\j.Plan.Cells.length=0/\j.Phase=0/\j.Next=0)
def aP (h:ab) (p:Int):List Int:=if(ar h.Kernel.Machine.Table p).Mode=0 then [] else pagesOn h.Kernel.Machine.Table (ar h.Kernel.Machine.Table p).Frame
def jb (p:Int) (s:au):Bool:=decide (s.Page=p)
def er (h:ab) (p:Int):Int:=du (jb p) h.Spans
def aO (n:Int):Int:=if n<1 then -1 else if n<=1 then 0 else if n<=2 then 1 else if n<=4 then 2 else if n<=8 then 3 else -1
set_option maxRecDepth 20000
set_option maxHeartbeats 2000000
theorem aE (n lo hi:Int):ao Tryz.prog 152 false [.val none [I n],.val none [I lo],.val none [I hi]] .one [B (decide (lo<=n/\n<=hi))]:=by
 refine fO 15 [] Tryz.func152 rfl ?_
 repeat'(first|refine gO ?_|(conv=>whnf);first|with_reducible refine Bf.D (fun hq=>?_) (fun hq=>?_))
 all_goals exact R0 (fun z=>[B z]) (by simp;try omega)
theorem aJ (n lo hi:Int):ao Tryz.prog 76 false [.val none [I n],.val none [I lo],.val none [I hi]] .one [B (decide (lo<=n/\n<=hi))]:=by
 refine fO 15 [] Tryz.func76 rfl ?_
 repeat'(first|refine gO ?_|(conv=>whnf);first|with_reducible refine Bf.D (fun hq=>?_) (fun hq=>?_))
 all_goals exact R0 (fun z=>[B z]) (by simp;try omega)
theorem eN (k:Int):ao Tryz.prog 167 false [.val none [I k]] .one [B (decide (0<=k/\k<=3))]:=by
 refine fO 5 [] Tryz.func167 rfl ?_
 repeat'(first|refine gO ?_|(conv=>whnf);first|refine Cl.mk (aJ k 0 3) ?_)
 rfl
theorem dy (k:Int):ao Tryz.prog 89 false [.val none [I k]] .one [I (csz k)]:=by
 by_cases hk:0<=k/\k<=3
 ·obtain rfl|rfl|rfl|rfl:k=0\/k=1\/k=2\/k=3:=by omega
  all_goals
   refine fO 8 [] Tryz.func89 rfl ?_
   repeat'(first|refine gD ?_|(conv=>whnf);first|with_reducible refine Bf.D (fun hq=>?_) (fun hq=>?_)|refine Cl.mk (eN _) ?_|refine Cd.mk (by decide) ?_|refine Wr.mk rfl ?_)
   exact R0 (fun z=>[I z]) (by decide)
 ·refine fO 8 [] Tryz.func89 rfl ?_
  repeat'(first|refine gD ?_|(conv=>whnf);first|with_reducible refine Bf.D (fun hq=>?_) (fun hq=>?_)|refine Cl.mk (eN _) ?_)
  exact R0 (fun z=>[I z]) (by unfold csz;rw[if_neg hk])
theorem dx (k:Int):ao Tryz.prog 274 false [.val none [I k]] .one [I (csz k)]:=by
 by_cases hk:0<=k/\k<=3
 ·obtain rfl|rfl|rfl|rfl:k=0\/k=1\/k=2\/k=3:=by omega
  all_goals
   refine fO 9 [] Tryz.func274 rfl ?_
   repeat'(first|refine gD ?_|(conv=>whnf);first|with_reducible refine Bf.D (fun hq=>?_) (fun hq=>?_)|refine Cl.mk (aE _ 0 3) ?_|refine Cd.mk (by decide) ?_|refine Wr.mk rfl ?_)
   exact R0 (fun z=>[I z]) (by decide)
 ·refine fO 9 [] Tryz.func274 rfl ?_
  repeat'(first|refine gD ?_|(conv=>whnf);first|with_reducible refine Bf.D (fun hq=>?_) (fun hq=>?_)|refine Cl.mk (aE _ 0 3) ?_)
  exact R0 (fun z=>[I z]) (by unfold csz;rw[if_neg hk])
theorem ly (xs:List Int) (a:Int) (hl:xs.length<=9223372036854775807):ao Tryz.prog 268 false [.val none (aD .imm xs),.val none [I a]] .one [B (decide (a∈xs))]:=by
 refine fO 18 [] Tryz.func268 rfl ?_
 repeat'(first|refine gO ?_|fail)
 (conv=>whnf)
 refine Lp.mk (ι:=Nat) (fun i=>[(0,.hold .one (aD .imm xs)),(1,.hold .one [I a]),(5,.hold .one [I (i:Nat)])]) (fun i=>i<=xs.length/\a∉xs.take i) (fun i=>xs.length - i) 0 ?_ ⟨Q0 _,by simp⟩ fun i hi=>?_
 ·exact wB
 ·obtain⟨hi,hn⟩:=hi
  by_cases hlt:i<xs.length
  ·obtain⟨y,hy⟩ : ∃ y,xs[i]? = some y:=⟨_,Q1 hlt⟩
   repeat'(first|refine gD ?_|(conv=>whnf);first|with_reducible (first|refine Ix.nat (aa hy) ?_|refine Bf.E (fun hq=>?_) (fun hq=>?_)))
   ·exact R0 (fun z=>[B z]) (by symm;simp;rw[<-‹y=a›];exact O1 hy)
   ·(conv=>whnf)
    refine Nx.mk (i+1) ⟨by omega,?_⟩ (by omega) ?_
    ·rw[v4,hy]
     simp only[Option.toList_some,C2,X0,not_or];exact⟨hn,fun e=>‹y≠a› e.symm⟩
    ·exact wB
  ·repeat'(first|refine gD ?_|fail)
   rw[t5 (by omega)]at hn;exact R0 (fun z=>[B z]) (by symm;simpa using hn)
set_option maxHeartbeats 4000000
def good (k:Int) (s:List Int) (a:Int):Prop:=0<=a/\a<=511/\a.tmod (csz k)=0/\a∉s
instance (k:Int) (s:List Int) (a:Int):Decidable (good k s a):=by unfold good;exact inferInstance
def pL (k:Int):List Int->List Int->Option (List Int)
 | s,[]=>some s
 | s,a::l=>if good k s a then pL k (s++[a]) l else none
def dR (k:Nat) (s l:List Int):Option (List Int):=if l.length<=8/\k<=3 then pL k s l else none
def fD:Nat->List Int->List (List Int)->Option (List Int)
 | _,s,[]=>some s
 | k,s,l::ls=>(dR k s l).bind fun s'=>fD (k+1) s' ls
def br (c:aB):Bool:=decide (c.Lists.length=4)&&(fD 0 [] c.Lists).isSome
theorem pk (k:Int):∀ (a s b:List Int),pL k s (a++b)=(pL k s a).bind fun s'=>pL k s' b
 | [],s,b=>rfl
 | x::a,s,b=>by
  simp only[List.cons_append,pL];split
  ·exact pk k a _ b
  ·rfl
theorem nt:∀ (a:List (List Int)) (k:Nat) (s:List Int) (b:List (List Int)),fD k s (a++b)=(fD k s a).bind fun s'=>fD (k+a.length) s' b
 | [],k,s,b=>rfl
 | l::a,k,s,b=>by
  simp only[List.cons_append,fD,Option.bind_assoc,List.length_cons]
  congr 1;funext s'
  rw[nt a (k+1) s' b,show k+1+a.length=k+(a.length+1) by omega]
theorem F4 {k:Int} {l s0 s:List Int} {j:Nat} {a:Int} (hj:l[j]? = some a) (h:pL k s0 (l.take j)=some s) (hg:good k s a):pL k s0 (l.take (j+1))=some (s++[a]):=by
 rw[v4,hj,Option.toList_some,pk,h];simp[pL,hg]
theorem Jr {k:Nat} {l s0 s:List Int} {j:Nat} {a:Int} (hj:l[j]? = some a) (h:pL k s0 (l.take j)=some s) (hg:¬good k s a):dR k s0 l=none:=by
 unfold dR;split
 ·have:l=l.take j++(a::l.drop (j+1)):=by
   obtain⟨hjl,rfl⟩:=R1.1 hj;rw[<-List.drop_eq_getElem_cons hjl,List.take_append_drop]
  rw[this,pk,h];simp[pL,hg]
 ·rfl
theorem zm {k:Int} : ∀ {l s s':List Int},pL k s l=some s'->s'.length=s.length+l.length
 | [],s,s',h=>by simp only[pL,T0]at h;subst h;simp
 | a::l,s,s',h=>by
  simp only[pL]at h;split at h
  ·have:=zm h;simp at this |-;omega
  ·cases h
theorem qY {ls:List (List Int)} {i:Nat} {l s:List Int} (hi:ls[i]? = some l) (h:fD 0 [] (ls.take i)=some s):fD 0 [] (ls.take (i+1))=dR i s l:=by
 have hl:=(R1.1 hi).1;rw[v4,hi,Option.toList_some,nt,h];simp only[Option.bind_some,fD,Y4,C1,Nat.min_eq_left (Nat.le_of_lt hl)];cases dR i s l<;>rfl
theorem jB {c:aB} {i:Nat} {l s:List Int} (hi:c.Lists[i]? = some l) (h:fD 0 [] (c.Lists.take i)=some s) (hn:dR i s l=none):br c=false:=by
 have h1:=qY hi h;rw[hn]at h1;have h2:fD 0 [] c.Lists=none:=by
  rw[<-List.take_append_drop (i+1) c.Lists,nt,h1];rfl
 unfold br;rw[h2];simp
theorem Dk:∀ {ls:List (List Int)} {k:Nat} {s s':List Int},fD k s ls=some s'->s'.length<=s.length+8*ls.length
 | [],k,s,s',h=>by simp only[fD,T0]at h;subst h;simp
 | l::ls,k,s,s',h=>by
  simp only[fD]at h;unfold dR at h;split at h
  ·cases ho:pL k s l with
   | none=>rw[ho]at h;cases h
   | some s2=>
    rw[ho]at h;have h1:=zm ho;have h2:=Dk (show fD (k+1) s2 ls=some s' from h);simp only[List.length_cons];omega
  ·cases h
theorem Kb {i:Nat} (h:i<=3):csz (i:Int)≠0:=by
 obtain rfl|rfl|rfl|rfl:i=0\/i=1\/i=2\/i=3:=by omega
 all_goals decide
theorem cq {l:List Int} : ∀ r∈l.map (rI .own),r.length=1:=by
 intro r hr;obtain⟨z,-,rfl⟩:=O3.1 hr;rfl
theorem lP (c:aB) (hs:aB.sml c):ao Tryz.prog 208 false [.val (some 1) (aB.enc .imm c)] .one [B (br c)]:=by
 have hl:=hs.1;refine fO 60 [] Tryz.func208 rfl ?_
 repeat'(first|refine gO ?_|(conv=>whnf);first|with_reducible refine Bf.N (fun hq=>?_) (fun hq=>?_))
 ·exact R0 (fun z=>[B z]) (by symm;unfold br;rw[P0 (by omega)];rfl)
 have h4:c.Lists.length=4:=by omega
 (conv=>whnf)
 refine Lp.mk (ι:=Nat × List Int) (fun i=>[(1,.hold .box (aB.enc .imm c)),(3,.hold .one (aD .own i.2)),(4,.hold .one [I (i.1:Nat)])]) (fun i=>i.1<=4/\fD 0 [] (c.Lists.take i.1)=some i.2) (fun i=>4 - i.1) (0,[]) ?_ ⟨Q0 _,rfl⟩ fun i hi=>?_
 ·exact wB
 ·obtain⟨i,s⟩:=i
  obtain⟨hi,hok⟩:=hi;simp only at hi hok |-;have hsl:=Dk hok;rw[C1]at hsl;simp only[List.length_nil]at hsl;by_cases hlt:i<4
  ·obtain⟨l,hli⟩ : ∃ l,c.Lists[i]? = some l:=⟨_,Q1 (by omega)⟩
   have hll:l.length<=1048576:=hs.2 l (O1 hli)
   repeat'(first|refine gD ?_|(conv=>whnf);first|with_reducible (first|refine Ix.nat (aa hli) ?_|refine Bf.D (fun hq=>?_) (fun hq=>?_)))
   ·exact R0 (fun z=>[B z]) (jB hli hok (by unfold dR;rw[if_neg (by omega)])).symm
   have hl8:l.length<=8:=by omega
   (conv=>whnf)
   refine Lp.mk (ι:=Nat × List Int) (fun j=>[(1,.hold .box (aB.enc .imm c)),(3,.hold .one (aD .own j.2)),(4,.hold .one [I (i:Nat)]),(5,.hold .one [I (j.1:Nat)])]) (fun j=>j.1<=l.length/\pL i s (l.take j.1)=some j.2) (fun j=>l.length - j.1) (0,s) ?_ ⟨Q0 _,rfl⟩ fun j hj=>?_
   ·exact wB
   ·obtain⟨j,s2⟩:=j
    obtain⟨hj,hok2⟩:=hj;simp only at hj hok2 |-;have hsl2:=zm hok2;rw[C1]at hsl2;by_cases hjl:j<l.length
    ·obtain⟨y,hy⟩ : ∃ y,l[j]? = some y:=⟨_,Q1 hjl⟩
     repeat'(first|refine gD ?_|(conv=>whnf);first|with_reducible (first|refine Ix.nat (aa hli) ?_|refine Ix.nat (aa hy) ?_|refine Bf.D (fun hq=>?_) (fun hq=>?_)|refine Bf.N (fun hq=>?_) (fun hq=>?_))|refine Cl.mk (aE y 0 511) ?_|refine Cl.mk (dx (i:Nat)) ?_|refine Cd.mk (Kb (by omega)) ?_|refine Ev.mk rfl ?_|refine Cl.eq (ly s2 y (by omega)) ⟨⟨rfl,dG _⟩,⟨rfl,rfl⟩,trivial⟩ ?_|refine Ap.mk cq (fun r hr=>by rw[X0.1 hr];rfl) (by simp[aV,d4]) (by simp;omega) (by simp only[U0];exact wI (by simp;omega) (by decide)) rfl ?_)
     all_goals first
      | exact R0 (fun z=>[B z]) (jB hli hok (Jr hy hok2 fun⟨g1,g2,g3,g4⟩=>by first|contradiction|omega)).symm
      | ((conv=>whnf)
         refine Nx.mk (j+1,s2++[y]) ⟨(by simp only;omega),F4 hy hok2 ⟨(by omega),(by omega),(by assumption),(by assumption)⟩⟩ (by simp only;omega) ?_
         (repeat'(first|exact trivial|rfl|exact And.intro rfl (And.intro (R0 (C.s dz.own) (by simp[rI])) trivial)|refine And.intro ?_ ?_)))
    ·repeat'(first|refine gD ?_|(conv=>whnf);first|with_reducible refine Ix.nat (aa hli) ?_)
     (conv=>whnf)
     rw[t5 (by omega)]at hok2;refine Nx.mk (i+1,s2) ⟨(by simp only;omega),(by rw[qY hli hok];unfold dR;rw[if_pos ⟨hl8,by omega⟩];exact hok2)⟩ (by simp only;omega) ?_;exact wB
  ·repeat'(first|refine gD ?_|fail)
   rw[t5 (by omega)]at hok;exact R0 (fun z=>[B z]) (by symm;unfold br;rw[hok,O0 h4];rfl)
def eJ (s:List Int):List (Int × Value):=s.map fun a=>(a,.bool true)
theorem lL (a:Int):∀ (s:List Int),mlook (eJ s) a (.bool false)=.bool (decide (a∈s))
 | []=>by simp[eJ,mlook]
 | x::s=>by
  have ih:=lL a s;simp only[eJ,O4,mlook]at ih |-;by_cases h:x=a
  ·rw[if_pos h];simp[h]
  ·rw[if_neg h,ih]
   congr 1
   simp[show ¬a=x from fun e=>h e.symm]
theorem ro {a:Int} : ∀ {s:List Int},a∉s->eJ (s++[a])=mput (eJ s) a (.bool true)
 | [],_=>rfl
 | x::s,h=>by
  simp only[List.mem_cons,not_or]at h;have ih:=ro h.2;simp only[eJ,List.cons_append,O4,mput]at ih |-;rw[if_neg fun e=>h.1 e.symm,ih]
theorem yY (c:aB) (hs:aB.sml c):ao Tryz.prog 72 false [.val (some 1) (aB.enc .imm c)] .one [B (br c)]:=by
 have hl:=hs.1;refine fO 54 [] Tryz.func72 rfl ?_
 repeat'(first|refine gO ?_|fail)
 (conv=>whnf)
 refine Lp.mk (ι:=Nat × List Int) (fun i=>[(1,.hold .box (aB.enc .imm c)),(3,.hold .one [.m (eJ i.2)]),(10,.hold .one (iu .imm c.Lists)),(11,.hold .one [I c.Lists.length]),(12,.hold .one [I (i.1:Nat)])]) (fun i=>i.1<=c.Lists.length/\fD 0 [] (c.Lists.take i.1)=some i.2) (fun i=>c.Lists.length - i.1) (0,[]) ?_ ⟨Q0 _,rfl⟩ fun i hi=>?_
 ·exact wB
 ·obtain⟨i,s⟩:=i
  obtain⟨hi,hok⟩:=hi;simp only at hi hok |-;by_cases hlt:i<c.Lists.length
  ·obtain⟨l,hli⟩ : ∃ l,c.Lists[i]? = some l:=⟨_,Q1 hlt⟩
   have hll:l.length<=1048576:=hs.2 l (O1 hli)
   repeat'(first|refine gD ?_|(conv=>whnf);first|with_reducible (first|refine Ix.nat (aa hli) ?_|refine Bf.D (fun hq=>?_) (fun hq=>?_))|refine Cl.mk (eN (i:Nat)) ?_)
   ·exact R0 (fun z=>[B z]) (jB hli hok (by unfold dR;rw[if_neg (by omega)])).symm
   rotate_left
   ·exact R0 (fun z=>[B z]) (jB hli hok (by unfold dR;rw[if_neg (by omega)])).symm
   have hl8:l.length<=8:=by omega
   have hi3:i<=3:=by omega
   (conv=>whnf)
   refine Lp.mk (ι:=Nat × List Int) (fun j=>[(1,.hold .box (aB.enc .imm c)),(3,.hold .one [.m (eJ j.2)]),(4,.hold .one [I (i:Nat)]),(10,.hold .one (iu .imm c.Lists)),(11,.hold .one [I c.Lists.length]),(12,.hold .one [I (i:Nat)]),(25,.hold .one (aD .imm l)),(26,.hold .one [I l.length]),(27,.hold .one [I (j.1:Nat)])]) (fun j=>j.1<=l.length/\pL i s (l.take j.1)=some j.2) (fun j=>l.length - j.1) (0,s) ?_ ⟨Q0 _,rfl⟩ fun j hj=>?_
   ·exact wB
   ·obtain⟨j,s2⟩:=j
    obtain⟨hj,hok2⟩:=hj;simp only at hj hok2 |-;by_cases hjl:j<l.length
    ·obtain⟨y,hy⟩ : ∃ y,l[j]? = some y:=⟨_,Q1 hjl⟩
     repeat'(first|refine gD ?_|(conv=>whnf);first|with_reducible (first|refine Ix.nat (aa hli) ?_|refine Ix.nat (aa hy) ?_|refine Bf.D (fun hq=>?_) (fun hq=>?_)|refine Bf.N (fun hq=>?_) (fun hq=>?_))|refine Cl.mk (aJ y 0 511) ?_|refine Cl.mk (dy (i:Nat)) ?_|refine Cd.mk (Kb (by omega)) ?_|refine Ev.mk rfl ?_|refine Ml.mk (lL y s2) ?_|refine Mu.mk (ro (by assumption)) ?_)
     all_goals first
      | exact R0 (fun z=>[B z]) (jB hli hok (Jr hy hok2 fun⟨g1,g2,g3,g4⟩=>by first|contradiction|omega)).symm
      | ((conv=>whnf)
         refine Nx.mk (j+1,s2++[y]) ⟨(by simp only;omega),F4 hy hok2 ⟨(by omega),(by omega),(by assumption),(by assumption)⟩⟩ (by simp only;omega) ?_
         (exact wA))
    ·repeat'(first|refine gD ?_|fail)
     (conv=>whnf)
     rw[t5 (by omega)]at hok2;refine Nx.mk (i+1,s2) ⟨(by simp only;omega),(by rw[qY hli hok];unfold dR;rw[if_pos ⟨hl8,hi3⟩];exact hok2)⟩ (by simp only;omega) ?_;exact wB
  ·repeat'(first|refine gD ?_|fail)
   rw[t5 (by omega)]at hok;have h4:((c.Lists.length:Int) == 4)=decide (c.Lists.length=4):=by
    by_cases h4:c.Lists.length=4
    ·simp[h4]
    ·rw[P0 h4];simp;omega
   exact R0 (fun z=>[B z]) (h4.trans (by unfold br;rw[hok];simp))
theorem Fg:∀ {ls:List (List Int)} {k:Nat} {s s':List Int},fD k s ls=some s'->∀ l∈ls,l.length<=8
 | [],k,s,s',h,l,hm=>by simp at hm
 | x::ls,k,s,s',h,l,hm=>by
  simp only[fD]at h;unfold dR at h;split at h
  ·rename_i hc
   rcases List.mem_cons.1 hm with rfl|hm
   ·exact hc.1
   ·cases ho:pL k s x with
    | none=>rw[ho]at h;cases h
    | some s2=>rw[ho]at h;exact Fg (show fD (k+1) s2 ls=some s' from h) l hm
  ·cases h
theorem sQ {c:aB} (h:br c=true):c.Lists.length=4/\∀ l∈c.Lists,l.length<=8:=by
 unfold br at h;simp only[I0,C0]at h;obtain⟨s,hs⟩:=Option.isSome_iff_exists.1 h.2;exact⟨h.1,Fg hs⟩
theorem xq (f:aZ) (hs:aZ.sml f):ao Tryz.prog 63 false [.val (some 2) (aZ.enc .imm f)] .one [B (cZ f)]:=by
 have hl:=hs.1.1;have hu:f.Used.length<=1048576:=hs.2;refine fO 61 [] Tryz.func63 rfl ?_
 repeat'(first|refine gO ?_|(conv=>whnf);first|with_reducible (first|refine Bf.D (fun hq=>?_) (fun hq=>?_)|refine Bf.N (fun hq=>?_) (fun hq=>?_))|refine Cl.mk (aE f.Cells.length 1 32) ?_)
 ·exact R0 (fun z=>[B z]) (by symm;unfold cZ;rw[P0 (by omega:¬(f.Used.length=f.Cells.length))];simp)
 rotate_left
 ·exact R0 (fun z=>[B z]) (by symm;unfold cZ;rw[P0 (by omega:¬(1<=f.Cells.length/\f.Cells.length<=32))];rfl)
 have h32:1<=f.Cells.length/\f.Cells.length<=32:=by omega
 have huc:f.Used.length=f.Cells.length:=by omega
 (conv=>whnf)
 refine Lp.mk (ι:=Nat) (fun i=>[(1,.hold .box (aZ.enc .imm f)),(3,.hold .one [I (i:Nat)])]) (fun i=>i<=f.Cells.length/\((f.Cells.zip f.Used).take i).all (fun q=>gQ q.1 q.2)=true) (fun i=>f.Cells.length - i) 0 ?_ ⟨Q0 _,rfl⟩ fun i hi=>?_
 ·exact wB
 ·obtain⟨hi,ha⟩:=hi
  by_cases hlt:i<f.Cells.length
  ·obtain⟨r,hr⟩ : ∃ r,f.Cells[i]? = some r:=⟨_,Q1 hlt⟩
   obtain⟨u,hu'⟩ : ∃ u,f.Used[i]? = some u:=⟨_,Q1 (by omega)⟩
   repeat'(first|refine gD ?_|(conv=>whnf);first|with_reducible (first|refine Ix.nat (aa hr) ?_|refine Bf.N (fun hq=>?_) (fun hq=>?_)))
   ·exact R0 (fun z=>[B z]) (gL hr hu' (by unfold gQ;rw[P0 (by omega)];rfl)).symm
   have hr16:r.length=16:=by omega
   (conv=>whnf)
   refine Lp.mk (ι:=Nat) (fun k=>[(1,.hold .box (aZ.enc .imm f)),(3,.hold .one [I (i:Nat)]),(4,.hold .one [I (k:Nat)])]) (fun k=>k<=16/\(r.take k).all (ir u)=true) (fun k=>16 - k) 0 ?_ ⟨Q0 _,rfl⟩ fun k hk=>?_
   ·exact wB
   ·obtain⟨hk,hak⟩:=hk
    by_cases hk16:k<16
    ·obtain⟨v,hv⟩ : ∃ v,r[k]? = some v:=⟨_,Q1 (by omega)⟩
     cases u with
     | true=>
      repeat'(first|refine gD ?_|(conv=>whnf);first|with_reducible (first|refine Ix.nat (aa hr) ?_|refine Ix.nat (aa hu') ?_|refine Ix.nat (aa hv) ?_|refine Bf.D (fun hq=>?_) (fun hq=>?_)|refine Bf.N (fun hq=>?_) (fun hq=>?_))|refine Cl.mk (aE v 0 999) ?_)
      all_goals first
       | exact R0 (fun z=>[B z]) (gL hr hu' (qa hv (by first|(unfold ir;rw[P0 (by omega)];rfl)|(unfold ir;rw[P0 (p:=v=0) (by omega)];simp)))).symm
       | ((conv=>whnf)
          refine Nx.mk (ι:=Nat) (k+1) ⟨(by omega),cy hv hak (by unfold ir;first|(rw[O0 (by omega)];rfl)|(rw[O0 (p:=0<=v/\v<=999) (by omega),O0 (p:=v=0) (by omega)];rfl))⟩ (by omega) ?_
          (exact wA))
     | false=>
      repeat'(first|refine gD ?_|(conv=>whnf);first|with_reducible (first|refine Ix.nat (aa hr) ?_|refine Ix.nat (aa hu') ?_|refine Ix.nat (aa hv) ?_|refine Bf.D (fun hq=>?_) (fun hq=>?_)|refine Bf.N (fun hq=>?_) (fun hq=>?_))|refine Cl.mk (aE v 0 999) ?_)
      all_goals first
       | exact R0 (fun z=>[B z]) (gL hr hu' (qa hv (by first|(unfold ir;rw[P0 (by omega)];rfl)|(unfold ir;rw[P0 (p:=v=0) (by omega)];simp)))).symm
       | ((conv=>whnf)
          refine Nx.mk (ι:=Nat) (k+1) ⟨(by omega),cy hv hak (by unfold ir;first|(rw[O0 (by omega)];rfl)|(rw[O0 (p:=0<=v/\v<=999) (by omega),O0 (p:=v=0) (by omega)];rfl))⟩ (by omega) ?_
          (exact wA))
    ·repeat'(first|refine gD ?_|fail)
     (conv=>whnf)
     refine Nx.mk (i+1) ⟨by omega,cy (tN hr hu') ha (by unfold gQ;rw[gg (by omega) hak];simp[hr16])⟩ (by omega) ?_;exact wB
  ·repeat'(first|refine gD ?_|fail)
   exact R0 (fun z=>[B z]) (by symm;unfold cZ;rw[gg (by rw[List.length_zip];omega) ha];simp[h32,huc])
theorem wP (f:aZ) (hs:aZ.sml f):ao Tryz.prog 153 false [.val (some 2) (aZ.enc .imm f)] .one [B (cZ f)]:=by
 have hl:=hs.1.1;have hu:f.Used.length<=1048576:=hs.2;refine fO 55 [] Tryz.func153 rfl ?_
 repeat'(first|refine gO ?_|(conv=>whnf);first|with_reducible (first|refine Bf.D (fun hq=>?_) (fun hq=>?_)|refine Bf.N (fun hq=>?_) (fun hq=>?_))|refine Cl.mk (aJ f.Cells.length 1 32) ?_)
 ·exact R0 (fun z=>[B z]) (by symm;unfold cZ;rw[P0 (by omega:¬(f.Used.length=f.Cells.length))];simp)
 rotate_left
 ·exact R0 (fun z=>[B z]) (by symm;unfold cZ;rw[P0 (by omega:¬(1<=f.Cells.length/\f.Cells.length<=32))];rfl)
 have h32:1<=f.Cells.length/\f.Cells.length<=32:=by omega
 have huc:f.Used.length=f.Cells.length:=by omega
 (conv=>whnf)
 refine Lp.mk (ι:=Nat) (fun i=>[(1,.hold .box (aZ.enc .imm f)),(22,.hold .one (iu .imm f.Cells)),(23,.hold .one [I (f.Cells.length)]),(24,.hold .one [I ((i:Nat):Int)])]) (fun i=>i<=f.Cells.length/\((f.Cells.zip f.Used).take i).all (fun q=>gQ q.1 q.2)=true) (fun i=>f.Cells.length - i) (0) ?_ (⟨Q0 _,rfl⟩) fun i hi=>?_
 ·exact wB
 obtain⟨hi,ha⟩:=hi;by_cases hlt:i<f.Cells.length
 ·obtain⟨r,hr⟩ : ∃ r,f.Cells[i]? = some r:=⟨_,Q1 hlt⟩
  obtain⟨u,hu'⟩ : ∃ u,f.Used[i]? = some u:=⟨_,Q1 (by omega)⟩
  have hrl:r.length<=1048576:=hs.1.2 r (O1 hr)
  repeat'(first|refine gD ?_|(conv=>whnf);first|with_reducible (first|refine Ix.nat (aa hr) ?_|refine Bf.N (fun hq=>?_) (fun hq=>?_)))
  ·exact R0 (fun z=>[B z]) (gL hr hu' (by unfold gQ;rw[P0 (by omega)];rfl)).symm
  have hr16:r.length=16:=by omega
  (conv=>whnf)
  refine Lp.mk (ι:=Nat) (fun k=>[(1,.hold .box (aZ.enc .imm f)),(3,.hold .one [I ((i:Nat):Int)]),(22,.hold .one (iu .imm f.Cells)),(23,.hold .one [I (f.Cells.length)]),(24,.hold .one [I ((i:Nat):Int)]),(32,.hold .one (aD .imm r)),(33,.hold .one [I (r.length)]),(34,.hold .one [I ((k:Nat):Int)])]) (fun k=>k<=r.length/\(r.take k).all (ir u)=true) (fun k=>r.length - k) (0) ?_ (⟨Q0 _,rfl⟩) fun k hk=>?_
  ·exact wB
  obtain⟨hk,hak⟩:=hk;by_cases hk16:k<r.length
  ·obtain⟨v,hv⟩ : ∃ v,r[k]? = some v:=⟨_,Q1 (by omega)⟩
   cases u with
   | true=>
    repeat'(first|refine gD ?_|(conv=>whnf);first|with_reducible (first|refine Ix.nat (aa hr) ?_|refine Ix.nat (aa hu') ?_|refine Ix.nat (aa hv) ?_|refine Bf.D (fun hq=>?_) (fun hq=>?_)|refine Bf.N (fun hq=>?_) (fun hq=>?_))|refine Cl.mk (aJ v 0 999) ?_)
    all_goals first
     | exact R0 (fun z=>[B z]) (gL hr hu' (qa hv (by unfold ir;grind))).symm
     | ((conv=>whnf)
        refine Nx.mk (ι:=Nat) (k+1) ⟨(by omega),cy hv hak (by unfold ir;grind)⟩ (by omega) ?_
        (exact wA))
   | false=>
    repeat'(first|refine gD ?_|(conv=>whnf);first|with_reducible (first|refine Ix.nat (aa hr) ?_|refine Ix.nat (aa hu') ?_|refine Ix.nat (aa hv) ?_|refine Bf.D (fun hq=>?_) (fun hq=>?_)|refine Bf.N (fun hq=>?_) (fun hq=>?_))|refine Cl.mk (aJ v 0 999) ?_)
    all_goals first
     | exact R0 (fun z=>[B z]) (gL hr hu' (qa hv (by unfold ir;grind))).symm
     | ((conv=>whnf)
        refine Nx.mk (ι:=Nat) (k+1) ⟨(by omega),cy hv hak (by unfold ir;grind)⟩ (by omega) ?_
        (exact wA))
  ·repeat'(first|refine gD ?_|fail)
   (conv=>whnf)
   refine Nx.mk (i+1) ⟨by omega,cy (tN hr hu') ha (by unfold gQ;rw[gg (by omega) hak];simp[hr16])⟩ (by omega) ?_;exact wB
 ·repeat'(first|refine gD ?_|fail)
  exact R0 (fun z=>[B z]) (by symm;unfold cZ;rw[gg (by rw[List.length_zip];omega) ha];simp[h32,huc])
theorem zM (t:aG) (fr:Int) (hs:aG.sml t):ao Tryz.prog 327 false [.val (some 1) (aG.enc .imm t),.val none [I fr]] .one [B (f9 t fr)]:=by
 have hl:=hs.1;refine fO 54 [] Tryz.func327 rfl ?_
 repeat'(first|refine gO ?_|fail)
 (conv=>whnf)
 refine Lp.mk (ι:=Nat) (fun i=>[(1,.hold .one [I (fr)]),(2,.hold .box (aG.enc .imm t)),(5,.hold .one [I ((i:Nat):Int)])]) (fun i=>i<=t.Entries.length/\cA i (fun j=>jV fr (nth t.Entries j))=true) (fun i=>t.Entries.length - i) 0 ?_ ⟨Q0 _,rfl⟩ fun i hi=>?_
 ·exact wB
 obtain⟨hi,ai⟩:=hi;by_cases li:i<t.Entries.length
 ·have hx:=ah li
  repeat'(first|refine gD ?_|(conv=>whnf);first|with_reducible (first|refine Ix.nat (aa hx) ?_|refine Bf.D (fun hq=>?_) (fun hq=>?_)|refine Bf.N (fun hq=>?_) (fun hq=>?_)|refine Bf.E (fun hq=>?_) (fun hq=>?_))|refine Cl.mk (aE _ 0 2) ?_)
  all_goals first
   | exact R0 (fun z=>[B z]) ((by symm;unfold f9;rw[ce li (P0 (by grind))];rfl))
   | ((conv=>whnf);refine Nx.mk (i+1) ⟨by omega,bK ai (O0 (by grind))⟩ (by omega) ?_;(exact wB))
 ·repeat'(first|refine gD ?_|(conv=>whnf);first|refine Cl.mk (aE _ 1 32) ?_)
  obtain rfl:i=t.Entries.length:=by omega
  exact R0 (fun z=>[B z]) ((by unfold f9;rw[ai,Bool.true_and];exact decide_eq_decide.2 (by omega)))
theorem ze (t:aG) (fr:Int) (hs:aG.sml t):ao Tryz.prog 236 false [.val (some 1) (aG.enc .imm t),.val none [I fr]] .one [B (f9 t fr)]:=by
 have hl:=hs.1;refine fO 49 [] Tryz.func236 rfl ?_
 repeat'(first|refine gO ?_|fail)
 (conv=>whnf)
 refine Lp.mk (ι:=Nat) (fun i=>[(1,.hold .one [I (fr)]),(2,.hold .box (aG.enc .imm t)),(8,.hold .one (Bw .imm t.Entries)),(9,.hold .one [I (t.Entries.length)]),(10,.hold .one [I ((i:Nat):Int)])]) (fun i=>i<=t.Entries.length/\cA i (fun j=>jV fr (nth t.Entries j))=true) (fun i=>t.Entries.length - i) 0 ?_ ⟨Q0 _,rfl⟩ fun i hi=>?_
 ·exact wB
 obtain⟨hi,ai⟩:=hi;by_cases li:i<t.Entries.length
 ·have hx:=ah li
  repeat'(first|refine gD ?_|(conv=>whnf);first|with_reducible (first|refine Ix.nat (aa hx) ?_|refine Bf.D (fun hq=>?_) (fun hq=>?_)|refine Bf.N (fun hq=>?_) (fun hq=>?_)|refine Bf.E (fun hq=>?_) (fun hq=>?_))|refine Cl.mk (aJ _ 0 2) ?_)
  all_goals first
   | exact R0 (fun z=>[B z]) ((by symm;unfold f9;rw[ce li (P0 (by grind))];rfl))
   | ((conv=>whnf);refine Nx.mk (i+1) ⟨by omega,bK ai (O0 (by grind))⟩ (by omega) ?_;(exact wB))
 ·repeat'(first|refine gD ?_|(conv=>whnf);first|refine Cl.mk (aJ _ 1 32) ?_)
  obtain rfl:i=t.Entries.length:=by omega
  exact R0 (fun z=>[B z]) ((by unfold f9;rw[ai,Bool.true_and];exact decide_eq_decide.2 (by omega)))
theorem fY (t:aG) (f:Int) (hs:aG.sml t):ao Tryz.prog 111 false [.val (some 1) (aG.enc .imm t),.val none [I f]] .one (aD .own (pagesOn t f)):=by
 have hl:=hs.1;refine fO 37 [] Tryz.func111 rfl ?_ (.inr (bF _))
 repeat'(first|refine gO ?_|fail)
 (conv=>whnf)
 refine Lp.mk (ι:=Nat) (fun i=>[(1,.hold .one [I (f)]),(2,.hold .box (aG.enc .imm t)),(5,.hold .one (aD .own (iG t f i))),(6,.hold .one [I ((i:Nat):Int)])]) (fun i=>i<=t.Entries.length) (fun i=>t.Entries.length - i) (0) ?_ (Q0 _) fun i hi=>?_
 ·exact wB
 have hpl:=qV t f i;by_cases li:i<t.Entries.length
 ·have hx:=ah li
  repeat'(first|refine gD ?_|(conv=>whnf);first|with_reducible (first|refine Ix.nat (aa hx) ?_|refine Bf.D (fun hq=>?_) (fun hq=>?_)|refine Bf.N (fun hq=>?_) (fun hq=>?_)|refine Bf.E (fun hq=>?_) (fun hq=>?_))|refine Ap.mk cq (fun r hr=>by rw[X0.1 hr];rfl) (by simp[aV,d4]) (by simp;omega) (by simp only[U0];exact wI (by simp;omega) (by decide)) rfl ?_)
  all_goals first
   |(have hon:Hu t f i=true:=O0 (by grind)
     (conv=>whnf)
     refine Nx.mk (i+1) (by omega) (by omega) ?_;rw[xL hon]
     (repeat'(first|exact trivial|rfl|exact And.intro rfl (And.intro (R0 (C.s dz.own) (by simp[rI])) trivial)|refine And.intro ?_ ?_)))
   |(have hon:Hu t f i=false:=P0 (by grind)
     (conv=>whnf)
     refine Nx.mk (i+1) (by omega) (by omega) ?_;rw[BY hon]
     (exact wA))
 ·repeat'(first|refine gD ?_|fail)
  obtain rfl:i=t.Entries.length:=by omega
  rfl
theorem pW (t:aG) (f:Int) (hs:aG.sml t):ao Tryz.prog 98 false [.val (some 1) (aG.enc .imm t),.val none [I f]] .one (aD .own (pagesOn t f)):=by
 have hl:=hs.1;refine fO 32 [] Tryz.func98 rfl ?_ (.inr (bF _))
 repeat'(first|refine gO ?_|fail)
 (conv=>whnf)
 refine Lp.mk (ι:=Nat) (fun i=>[(1,.hold .one [I (f)]),(5,.hold .one (aD .own (iG t f i))),(10,.hold .one (Bw .imm t.Entries)),(11,.hold .one [I (t.Entries.length)]),(12,.hold .one [I ((i:Nat):Int)])]) (fun i=>i<=t.Entries.length) (fun i=>t.Entries.length - i) (0) ?_ (Q0 _) fun i hi=>?_
 ·exact wB
 have hpl:=qV t f i;by_cases li:i<t.Entries.length
 ·have hx:=ah li
  repeat'(first|refine gD ?_|(conv=>whnf);first|with_reducible (first|refine Ix.nat (aa hx) ?_|refine Bf.D (fun hq=>?_) (fun hq=>?_)|refine Bf.N (fun hq=>?_) (fun hq=>?_)|refine Bf.E (fun hq=>?_) (fun hq=>?_))|refine Ap.mk cq (fun r hr=>by rw[X0.1 hr];rfl) (by simp[aV,d4]) (by simp;omega) (by simp only[U0];exact wI (by simp;omega) (by decide)) rfl ?_)
  all_goals first
   |(have hon:Hu t f i=true:=O0 (by grind)
     (conv=>whnf)
     refine Nx.mk (i+1) (by omega) (by omega) ?_;rw[xL hon]
     (repeat'(first|exact trivial|rfl|exact And.intro rfl (And.intro (R0 (C.s dz.own) (by simp[rI])) trivial)|refine And.intro ?_ ?_)))
   |(have hon:Hu t f i=false:=P0 (by grind)
     (conv=>whnf)
     refine Nx.mk (i+1) (by omega) (by omega) ?_;rw[BY hon]
     (exact wA))
 ·repeat'(first|refine gD ?_|fail)
  obtain rfl:i=t.Entries.length:=by omega
  rfl
theorem cP (t:aG) (p:Int) (hs:aG.sml t):ao Tryz.prog 110 false [.val (some 1) (aG.enc .imm t),.val none [I p]] .agg (bj.enc .own (ar t p)):=by
 have hl:=hs.1;refine fO 18 [] Tryz.func110 rfl ?_ (.inr (bj.enc_fr _));by_cases hp:0<=p/\p<t.Entries.length
 ·have hx:=ah (xs:=t.Entries) (i:=p.toNat) (by omega)
  repeat'(first|refine gD ?_|(conv=>whnf);first|refine Cl.mk (aE _ 0 _) ?_|refine Ix.mk hp.1 (aa hx) ?_)
  all_goals(unfold ar;rw[if_pos hp];rfl)
 ·repeat'(first|refine gD ?_|(conv=>whnf);first|refine Cl.mk (aE _ 0 _) ?_)
  all_goals(unfold ar;rw[if_neg hp];rfl)
theorem jO (t:aG) (p:Int) (hs:aG.sml t):ao Tryz.prog 97 false [.val (some 1) (aG.enc .imm t),.val none [I p]] .agg (bj.enc .own (ar t p)):=by
 have hl:=hs.1;refine fO 18 [] Tryz.func97 rfl ?_ (.inr (bj.enc_fr _));by_cases hp:0<=p/\p<t.Entries.length
 ·have hx:=ah (xs:=t.Entries) (i:=p.toNat) (by omega)
  repeat'(first|refine gD ?_|(conv=>whnf);first|refine Cl.mk (aJ _ 0 _) ?_|refine Ix.mk hp.1 (aa hx) ?_)
  all_goals(unfold ar;rw[if_pos hp];rfl)
 ·repeat'(first|refine gD ?_|(conv=>whnf);first|refine Cl.mk (aJ _ 0 _) ?_)
  all_goals(unfold ar;rw[if_neg hp];rfl)
theorem pe (t:aG) (f:Int):(pagesOn t f).length<=t.Entries.length:=qV ..
theorem mU (m:aQ) (hs:aQ.sml m):ao Tryz.prog 266 false [.val (some 3) (aQ.enc .imm m)] .one [B (de m)]:=by
 have hu:m.Frames.Used.length<=1048576:=hs.1.2;have hfc:m.Frames.Cells.length<=1048576:=hs.1.1.1;have hf:=xq m.Frames hs.1;have ht:=zM m.Table m.Frames.Cells.length hs.2;cases h1:cZ m.Frames with
 | false=>
  rw[h1]at hf;refine fO 39 [(6,13,[26,27,28,29,30,31,32,33,34,35,36,37,38])] Tryz.func266 rfl ?_
  repeat'(first|refine gO ?_|(conv=>whnf);first|refine Cl.mk hf ?_)
  exact R0 (fun z=>[B z]) ((by unfold de;rw[h1];rfl))
 | true=>
  have hlen:=yZ h1;rw[h1]at hf;cases h2:f9 m.Table m.Frames.Used.length with
  | false=>
   rw[show(m.Frames.Cells.length:Int)=m.Frames.Used.length by omega,h2]at ht;refine fO 39 [(6,13,[26,27,28,29,30,31,32,33,34,35,36,37,38])] Tryz.func266 rfl ?_
   repeat'(first|refine gO ?_|(conv=>whnf);first|refine Cl.mk hf ?_|refine Cl.mk ((show(m.Frames.Cells.length:Int)=m.Frames.Used.length by omega) ▸ ht) ?_)
   exact R0 (fun z=>[B z]) ((by unfold de;rw[h1,h2];rfl))
  | true=>
   rw[show(m.Frames.Cells.length:Int)=m.Frames.Used.length by omega,h2]at ht;refine fO 39 [(6,13,[26,27,28,29,30,31,32,33,34,35,36,37,38])] Tryz.func266 rfl ?_
   repeat'(first|refine gO ?_|(conv=>whnf);first|refine Cl.mk hf ?_|refine Cl.mk ((show(m.Frames.Cells.length:Int)=m.Frames.Used.length by omega) ▸ ht) ?_)
   (conv=>whnf)
   refine Lp.mk (ι:=Nat) (fun i=>[(1,.hold .box (aQ.enc .imm m)),(3,.hold .one [I ((i:Nat):Int)])]) (fun i=>i<=m.Frames.Used.length/\cA i (mQ m)=true) (fun i=>m.Frames.Used.length - i) 0 ?_ ⟨Q0 _,rfl⟩ fun i hi=>?_
   ·exact wB
   obtain⟨hi,ai⟩:=hi;by_cases li:i<m.Frames.Used.length
   ·have hx:=ah li
    have hpl:=pe m.Table (i:Nat)
    repeat'(first|refine gD ?_|(conv=>whnf);first|with_reducible (first|refine Ix.nat (aa hx) ?_|refine Bf.NB (fun hq=>?_) (fun hq=>?_))|refine Cl.mk (fY m.Table (i:Nat) hs.2) ?_)
    all_goals first
     | exact R0 (fun z=>[B z]) ((by symm;unfold de;rw[h1,h2,ce li (by unfold mQ;grind)];rfl))
     | ((conv=>whnf);refine Nx.mk (i+1) ⟨by omega,bK ai (by unfold mQ;grind)⟩ (by omega) ?_;(exact wB))
   ·repeat'(first|refine gD ?_|fail)
    obtain rfl:i=m.Frames.Used.length:=by omega
    exact R0 (fun z=>[B z]) ((by unfold de;rw[h1,h2,ai];rfl))
theorem vh (m:aQ) (hs:aQ.sml m):ao Tryz.prog 144 false [.val (some 3) (aQ.enc .imm m)] .one [B (de m)]:=by
 have hu:m.Frames.Used.length<=1048576:=hs.1.2;have hf:=wP m.Frames hs.1;have ht:=ze m.Table m.Frames.Used.length hs.2;cases h1:cZ m.Frames with
 | false=>
  rw[h1]at hf;refine fO 37 [] Tryz.func144 rfl ?_
  repeat'(first|refine gO ?_|(conv=>whnf);first|refine Cl.mk hf ?_)
  exact R0 (fun z=>[B z]) ((by unfold de;rw[h1];rfl))
 | true=>
  rw[h1]at hf;cases h2:f9 m.Table m.Frames.Used.length with
  | false=>
   rw[h2]at ht;refine fO 37 [] Tryz.func144 rfl ?_
   repeat'(first|refine gO ?_|(conv=>whnf);first|refine Cl.mk hf ?_|refine Cl.mk ht ?_)
   exact R0 (fun z=>[B z]) ((by unfold de;rw[h1,h2];rfl))
  | true=>
   rw[h2]at ht;refine fO 37 [] Tryz.func144 rfl ?_
   repeat'(first|refine gO ?_|(conv=>whnf);first|refine Cl.mk hf ?_|refine Cl.mk ht ?_)
   (conv=>whnf)
   refine Lp.mk (ι:=Nat) (fun i=>[(1,.hold .box (aQ.enc .imm m)),(21,.hold .one (yS .imm m.Frames.Used)),(22,.hold .one [I (m.Frames.Used.length)]),(23,.hold .one [I ((i:Nat):Int)])]) (fun i=>i<=m.Frames.Used.length/\cA i (mQ m)=true) (fun i=>m.Frames.Used.length - i) 0 ?_ ⟨Q0 _,rfl⟩ fun i hi=>?_
   ·exact wB
   obtain⟨hi,ai⟩:=hi;by_cases li:i<m.Frames.Used.length
   ·have hx:=ah li
    have hpl:=pe m.Table (i:Nat)
    repeat'(first|refine gD ?_|(conv=>whnf);first|with_reducible (first|refine Ix.nat (aa hx) ?_|refine Bf.NB (fun hq=>?_) (fun hq=>?_))|refine Cl.mk (pW m.Table (i:Nat) hs.2) ?_)
    all_goals first
     | exact R0 (fun z=>[B z]) ((by symm;unfold de;rw[h1,h2,ce li (by unfold mQ;grind)];rfl))
     | ((conv=>whnf);refine Nx.mk (i+1) ⟨by omega,bK ai (by unfold mQ;grind)⟩ (by omega) ?_;(exact wB))
   ·repeat'(first|refine gD ?_|fail)
    obtain rfl:i=m.Frames.Used.length:=by omega
    exact R0 (fun z=>[B z]) ((by unfold de;rw[h1,h2,ai];rfl))
theorem k4 (k:af) (hs:af.sml k):ao Tryz.prog 201 false [.val (some 5) (af.enc .imm k)] .one [B (aA k)]:=by
 have hr:k.Refuse.length<=1048576:=hs.2;have hm:=mU k.Machine hs.1;refine fO 31 [] Tryz.func201 rfl ?_
 repeat'(first|refine gO ?_|fail)
 (conv=>whnf)
 refine Lp.mk (ι:=Nat) (fun i=>[(1,.hold .box (af.enc .imm k)),(3,.hold .one [I ((i:Nat):Int)])]) (fun i=>i<=k.Refuse.length/\cA i (fun j=>decide (0<=nth k.Refuse j))=true) (fun i=>k.Refuse.length - i) 0 ?_ ⟨Q0 _,rfl⟩ fun i hi=>?_
 ·exact wB
 obtain⟨hi,ai⟩:=hi;by_cases li:i<k.Refuse.length
 ·have hx:=ah li
  repeat'(first|refine gD ?_|(conv=>whnf);first|with_reducible (first|refine Ix.nat (aa hx) ?_|refine Bf.D (fun hq=>?_) (fun hq=>?_)))
  all_goals first
   | exact R0 (fun z=>[B z]) ((by symm;unfold aA;rw[ce li (P0 (by omega))];rfl))
   | ((conv=>whnf);refine Nx.mk (i+1) ⟨by omega,bK ai (O0 (by omega))⟩ (by omega) ?_;(exact wB))
 ·obtain rfl:i=k.Refuse.length:=by omega
  cases h1:de k.Machine with
  | false=>
   rw[h1]at hm
   repeat'(first|refine gD ?_|(conv=>whnf);first|refine Cl.mk hm ?_)
   all_goals exact R0 (fun z=>[B z]) ((by unfold aA;rw[h1];simp))
  | true=>
   rw[h1]at hm
   repeat'(first|refine gD ?_|(conv=>whnf);first|with_reducible refine Bf.D (fun hq=>?_) (fun hq=>?_)|refine Cl.mk hm ?_|refine Cl.mk (aE _ 0 100000) ?_)
   all_goals exact R0 (fun z=>[B z]) ((by unfold aA;rw[h1,ai];simp only[Bool.true_and];first|exact decide_eq_decide.2 (by omega)|(symm;exact P0 (by omega))|(symm;exact O0 (by omega))))
theorem xd (k:af) (hs:af.sml k):ao Tryz.prog 57 false [.val (some 5) (af.enc .imm k)] .one [B (aA k)]:=by
 have hr:k.Refuse.length<=1048576:=hs.2;have hm:=vh k.Machine hs.1;refine fO 29 [] Tryz.func57 rfl ?_
 repeat'(first|refine gO ?_|fail)
 (conv=>whnf)
 refine Lp.mk (ι:=Nat) (fun i=>[(1,.hold .box (af.enc .imm k)),(6,.hold .one (aD .imm k.Refuse)),(7,.hold .one [I (k.Refuse.length)]),(8,.hold .one [I ((i:Nat):Int)])]) (fun i=>i<=k.Refuse.length/\cA i (fun j=>decide (0<=nth k.Refuse j))=true) (fun i=>k.Refuse.length - i) 0 ?_ ⟨Q0 _,rfl⟩ fun i hi=>?_
 ·exact wB
 obtain⟨hi,ai⟩:=hi;by_cases li:i<k.Refuse.length
 ·have hx:=ah li
  repeat'(first|refine gD ?_|(conv=>whnf);first|with_reducible (first|refine Ix.nat (aa hx) ?_|refine Bf.D (fun hq=>?_) (fun hq=>?_)))
  all_goals first
   | exact R0 (fun z=>[B z]) ((by symm;unfold aA;rw[ce li (P0 (by omega))];rfl))
   | ((conv=>whnf);refine Nx.mk (i+1) ⟨by omega,bK ai (O0 (by omega))⟩ (by omega) ?_;(exact wB))
 ·obtain rfl:i=k.Refuse.length:=by omega
  repeat'(first|refine gD ?_|(conv=>whnf);first|with_reducible refine Bf.D (fun hq=>?_) (fun hq=>?_)|refine Cl.mk hm ?_|refine Cl.mk (aJ _ 0 100000) ?_)
  all_goals exact R0 (fun z=>[B z]) ((by unfold aA;rw[ai];cases de k.Machine<;>simp only[Bool.true_and,Bool.false_and]<;>first|rfl|exact decide_eq_decide.2 (by omega)|(symm;exact P0 (by omega))|(symm;exact O0 (by omega))))
theorem uf (pages:Int) (r:a7) (hp:0<=pages/\pages<=1048576):ao Tryz.prog 267 false [.val none [I pages],.val (some 2) (a7.enc .imm r)] .one [B (rangeIn pages r)]:=by
 refine fO 18 [] Tryz.func267 rfl ?_
 repeat'(first|refine gO ?_|(conv=>whnf);first|with_reducible refine Bf.D (fun hq=>?_) (fun hq=>?_)|refine Cl.mk (aE _ 1 _) ?_|refine Cl.mk (aE _ 0 _) ?_)
 all_goals exact R0 (fun z=>[B z]) ((by unfold rangeIn;first|(symm;exact P0 (by omega))|exact decide_eq_decide.2 (by omega)))
theorem DA (pages:Int) (r:a7) (hp:0<=pages/\pages<=1048576):ao Tryz.prog 159 false [.val none [I pages],.val (some 2) (a7.enc .imm r)] .one [B (rangeIn pages r)]:=by
 refine fO 18 [] Tryz.func159 rfl ?_
 repeat'(first|refine gO ?_|(conv=>whnf);first|with_reducible refine Bf.D (fun hq=>?_) (fun hq=>?_)|refine Cl.mk (aJ _ 1 _) ?_|refine Cl.mk (aJ _ 0 _) ?_)
 all_goals exact R0 (fun z=>[B z]) ((by unfold rangeIn;first|(symm;exact P0 (by omega))|exact decide_eq_decide.2 (by omega)))
theorem lC (k:Int):ao Tryz.prog 194 false [.val none [I k]] .one [I (slots k)]:=by
 by_cases hk:0<=k/\k<=3
 ·obtain rfl|rfl|rfl|rfl:k=0\/k=1\/k=2\/k=3:=by omega
  all_goals
   refine fO 9 [] Tryz.func194 rfl ?_
   repeat'(first|refine gD ?_|(conv=>whnf);first|with_reducible refine Bf.D (fun hq=>?_) (fun hq=>?_)|refine Cl.mk (aE _ 0 3) ?_|refine Cd.mk (by decide) ?_|refine Wr.mk rfl ?_|refine Ev.mk rfl ?_)
   exact R0 (fun z=>[I z]) (by decide)
 ·refine fO 9 [] Tryz.func194 rfl ?_
  repeat'(first|refine gD ?_|(conv=>whnf);first|with_reducible refine Bf.D (fun hq=>?_) (fun hq=>?_)|refine Cl.mk (aE _ 0 3) ?_)
  exact R0 (fun z=>[I z]) (by unfold slots;rw[if_neg (by omega),if_neg (by omega),if_neg (by omega),if_neg (by omega)])
theorem ic (k:Int):ao Tryz.prog 172 false [.val none [I k]] .one [I (slots k)]:=by
 by_cases hk:0<=k/\k<=3
 ·obtain rfl|rfl|rfl|rfl:k=0\/k=1\/k=2\/k=3:=by omega
  all_goals
   refine fO 9 [] Tryz.func172 rfl ?_
   repeat'(first|refine gD ?_|(conv=>whnf);first|with_reducible refine Bf.D (fun hq=>?_) (fun hq=>?_)|refine Cl.mk (eN _) ?_|refine Cl.mk (dy _) ?_|refine Cd.mk (by decide) ?_|refine Wr.mk rfl ?_|refine Ev.mk rfl ?_)
   exact R0 (fun z=>[I z]) (by decide)
 ·refine fO 9 [] Tryz.func172 rfl ?_
  repeat'(first|refine gD ?_|(conv=>whnf);first|with_reducible refine Bf.D (fun hq=>?_) (fun hq=>?_)|refine Cl.mk (eN _) ?_)
  exact R0 (fun z=>[I z]) (by unfold slots;rw[if_neg (by omega),if_neg (by omega),if_neg (by omega),if_neg (by omega)])
def Ji (k b:Int):Bool:=decide (0<=k/\k<=3/\0<=b/\b<=lim k)
theorem o6 (k b:Int):ao Tryz.prog 193 false [.val none [I (slots k)],.val none [I b]] .one [B (Ji k b)]:=by
 by_cases hk:0<=k/\k<=3
 ·obtain rfl|rfl|rfl|rfl:k=0\/k=1\/k=2\/k=3:=by omega
  all_goals
   first|rw[show slots 0=16 from rfl]|rw[show slots 1=8 from rfl]|rw[show slots 2=4 from rfl]|rw[show slots 3=2 from rfl]
   refine fO 15 [] Tryz.func193 rfl ?_
   repeat'(first|refine gD ?_|(conv=>whnf);first|with_reducible refine Bf.D (fun hq=>?_) (fun hq=>?_)|refine Cl.mk (aE _ 1 16) ?_|refine Cl.mk (aE _ 0 _) ?_|refine Cd.mk (by decide) ?_|refine Wr.mk (show _=(65536:Int) by decide) ?_|refine Wr.mk (show _=(65535:Int) by decide) ?_|refine Wr.mk (show _=(256:Int) by decide) ?_|refine Wr.mk (show _=(255:Int) by decide) ?_|refine Wr.mk (show _=(16:Int) by decide) ?_|refine Wr.mk (show _=(15:Int) by decide) ?_|refine Wr.mk (show _=(4:Int) by decide) ?_|refine Wr.mk (show _=(8:Int) by decide) ?_|refine Wr.mk (show _=(2:Int) by decide) ?_|refine Wr.mk (show _=(3:Int) by decide) ?_)
   all_goals exact R0 (fun z=>[B z]) ((decide_eq_decide.2 (by simp[lim])))
 ·have hz:slots k=0:=by unfold slots;rw[if_neg (by omega),if_neg (by omega),if_neg (by omega),if_neg (by omega)]
  rw[hz];refine fO 15 [] Tryz.func193 rfl ?_
  repeat'(first|refine gD ?_|(conv=>whnf);first|with_reducible refine Bf.D (fun hq=>?_) (fun hq=>?_)|refine Cl.mk (aE _ 1 16) ?_)
  exact R0 (fun z=>[B z]) ((by symm;exact P0 (by omega)))
theorem xB (k b:Int):ao Tryz.prog 244 false [.val none [I (slots k)],.val none [I b]] .one [B (Ji k b)]:=by
 by_cases hk:0<=k/\k<=3
 ·obtain rfl|rfl|rfl|rfl:k=0\/k=1\/k=2\/k=3:=by omega
  all_goals
   first|rw[show slots 0=16 from rfl]|rw[show slots 1=8 from rfl]|rw[show slots 2=4 from rfl]|rw[show slots 3=2 from rfl]
   refine fO 14 [] Tryz.func244 rfl ?_
   repeat'(first|refine gD ?_|(conv=>whnf);first|with_reducible refine Bf.D (fun hq=>?_) (fun hq=>?_)|refine Cl.mk (aJ _ 1 16) ?_|refine Cl.mk (aJ _ 0 _) ?_|refine Cd.mk (by decide) ?_|refine Wr.mk (ed (by decide) (by decide)) ?_)
   all_goals exact R0 (fun z=>[B z]) ((decide_eq_decide.2 (by simp[lim,IntKind.bits])))
 ·have hz:slots k=0:=by unfold slots;rw[if_neg (by omega),if_neg (by omega),if_neg (by omega),if_neg (by omega)]
  rw[hz];refine fO 14 [] Tryz.func244 rfl ?_
  repeat'(first|refine gD ?_|(conv=>whnf);first|with_reducible refine Bf.D (fun hq=>?_) (fun hq=>?_)|refine Cl.mk (aJ _ 1 16) ?_)
  exact R0 (fun z=>[B z]) ((by symm;exact P0 (by omega)))
theorem fG (s:au):ao Tryz.prog 113 false [.val (some 3) (au.enc .imm s)] .one [B (aY s)]:=by
 refine fO 14 [(1,12,[3,4,5,6,7,8,9,10,11,12,13,2])] Tryz.func113 rfl ?_
 repeat'(first|refine gO ?_|(conv=>whnf);first|with_reducible refine Bf.D (fun hq=>?_) (fun hq=>?_)|refine Cl.mk (aE _ 0 31) ?_|refine Cl.mk (lC _) ?_|refine Cl.mk (o6 _ _) ?_)
 all_goals exact R0 (fun z=>[B z]) ((by unfold aY;first|(symm;exact P0 (by omega))|exact decide_eq_decide.2 (by omega)))
theorem gN (s:au):ao Tryz.prog 161 false [.val (some 3) (au.enc .imm s)] .one [B (aY s)]:=by
 refine fO 19 [(1,17,[3,4,5,6,7,8,9,10,11,12,13,14,15,16,17,18,2])] Tryz.func161 rfl ?_
 repeat'(first|refine gO ?_|(conv=>whnf);first|with_reducible refine Bf.D (fun hq=>?_) (fun hq=>?_)|refine Cl.mk (aJ _ 0 31) ?_|refine Cl.mk (eN _) ?_|refine Cl.mk (ic _) ?_|refine Cl.mk (xB _ _) ?_)
 all_goals exact R0 (fun z=>[B z]) ((by unfold aY;first|(symm;exact P0 (by omega))|exact decide_eq_decide.2 (by omega)))
section
variable {α:Type} {xs:List α} {p:α->Bool} {i:Nat} {y:α}
theorem zd (h:xs[i]? = some y) (hp:p y=true):xs.any p=true:=Z2.2 ⟨y,O1 h,hp⟩
theorem vS (h:xs[i]? = some y) (ha:(xs.take i).any p=false) (hp:p y=false):(xs.take (i+1)).any p=false:=by
 rw[v4,h,List.any_append,ha];simp[hp]
theorem Ft (hi:xs.length<=i) (ha:(xs.take i).any p=false):xs.any p=false:=by
 rwa [t5 hi]at ha
theorem f8 [Inhabited α] (h0:0<i) (hi:i<xs.length):xs[((i:Int) - 1).toNat]? = some (nth xs (i - 1)):=by
 rw[show((i:Int) - 1).toNat=i - 1 by omega];exact ah (by omega)
end
theorem wh {pages:Int} {xs:List a7} {i n:Nat} (ha:cA n (fA pages xs)=true) (hi:i<n):1<=(nth xs i).Len/\(nth xs i).Len<=pages/\0<=(nth xs i).At/\(nth xs i).At<=pages - (nth xs i).Len:=by
 have:=d9 ha hi;unfold fA rangeIn at this;simp only[I0,C0]at this;exact this.1
theorem kL (pages:Int) (xs:List a7) (hp:0<=pages/\pages<=1048576) (hs:gB xs):ao Tryz.prog 202 false [.val none [I pages],.val none (bB .imm xs)] .one [B (bv pages xs)]:=by
 have hl:=hs.1;refine fO 46 [(4,32,[12,13,14,15,16,17,18,19,20,21,22,23,24,25,26,27,28,29,30,31,32,33,34,35,36,37,38,39,40,41,42,43])] Tryz.func202 rfl ?_
 repeat'(first|refine gO ?_|fail)
 (conv=>whnf)
 refine Lp.mk (ι:=Nat) (fun i=>[(0,.hold .one [I (pages)]),(1,.hold .one (bB .imm xs)),(5,.hold .one [I ((i:Nat):Int)])]) (fun i=>i<=xs.length/\cA i (fA pages xs)=true) (fun i=>xs.length - i) 0 ?_ ⟨Q0 _,rfl⟩ fun i hi=>?_
 ·exact wB
 obtain⟨hi,ai⟩:=hi;by_cases li:i<xs.length
 ·have hx:=ah li
  have hb:0<i->1<=(nth xs (i - 1)).Len/\(nth xs (i - 1)).Len<=pages/\0<=(nth xs (i - 1)).At/\(nth xs (i - 1)).At<=pages - (nth xs (i - 1)).Len:=fun h=>wh ai (by omega)
  cases h1:rangeIn pages (nth xs i) with
  | false=>
   have h2:=uf pages (nth xs i) hp;rw[h1]at h2
   repeat'(first|refine gD ?_|(conv=>whnf);first|with_reducible refine Ix.nat (aa hx) ?_|refine Cl.mk h2 ?_)
   exact R0 (fun z=>[B z]) ((by symm;unfold bv;rw[ce li (by unfold fA;rw[h1];rfl)];rfl))
  | true=>
   have h2:=uf pages (nth xs i) hp;rw[h1]at h2
   repeat'(first|refine gD ?_|(conv=>whnf);first|with_reducible (first|refine Ix.nat (aa hx) ?_|refine Bf.D (fun hq=>?_) (fun hq=>?_))|refine Cl.mk h2 ?_|refine Ix.mk (by omega) (aa (f8 (by omega) li)) ?_)
   all_goals first
    | exact R0 (fun z=>[B z]) ((by symm;unfold bv;rw[ce li (by unfold fA;rw[h1,P0 (by omega)];rfl)];rfl))
    | ((conv=>whnf);refine Nx.mk (i+1) ⟨by omega,bK ai (by unfold fA;rw[h1,O0 (by omega)];rfl)⟩ (by omega) ?_;(exact wB))
 ·repeat'(first|refine gD ?_|(conv=>whnf);first|refine Cl.mk (aE pages 1 32) ?_)
  obtain rfl:i=xs.length:=by omega
  exact R0 (fun z=>[B z]) ((by unfold bv;rw[ai];rfl))
theorem xt (pages:Int) (xs:List a7) (hp:0<=pages/\pages<=1048576) (hs:gB xs):ao Tryz.prog 67 false [.val none [I pages],.val none (bB .imm xs)] .one [B (bv pages xs)]:=by
 have hl:=hs.1;refine fO 43 [(4,26,[14,15,16,17,18,19,20,21,22,23,24,25,26,27,28,29,30,31,32,33,34,35,36,37,38,39])] Tryz.func67 rfl ?_
 repeat'(first|refine gO ?_|fail)
 (conv=>whnf)
 refine Lp.mk (ι:=Nat) (fun i=>[(0,.hold .one [I (pages)]),(1,.hold .one (bB .imm xs)),(7,.hold .one (bB .imm xs)),(8,.hold .one [I (xs.length)]),(9,.hold .one [I ((i:Nat):Int)])]) (fun i=>i<=xs.length/\cA i (fA pages xs)=true) (fun i=>xs.length - i) 0 ?_ ⟨Q0 _,rfl⟩ fun i hi=>?_
 ·exact wB
 obtain⟨hi,ai⟩:=hi;by_cases li:i<xs.length
 ·have hx:=ah li
  have hb:0<i->1<=(nth xs (i - 1)).Len/\(nth xs (i - 1)).Len<=pages/\0<=(nth xs (i - 1)).At/\(nth xs (i - 1)).At<=pages - (nth xs (i - 1)).Len:=fun h=>wh ai (by omega)
  have h2:=DA pages (nth xs i) hp;cases h1:rangeIn pages (nth xs i) with
  | false=>
   rw[h1]at h2
   repeat'(first|refine gD ?_|(conv=>whnf);first|with_reducible refine Ix.nat (aa hx) ?_|refine Cl.mk h2 ?_)
   exact R0 (fun z=>[B z]) ((by symm;unfold bv;rw[ce li (by unfold fA;rw[h1];rfl)];rfl))
  | true=>
   rw[h1]at h2
   repeat'(first|refine gD ?_|(conv=>whnf);first|with_reducible (first|refine Ix.nat (aa hx) ?_|refine Bf.D (fun hq=>?_) (fun hq=>?_))|refine Cl.mk h2 ?_|refine Ix.mk (by omega) (aa (f8 (by omega) li)) ?_)
   all_goals first
    | exact R0 (fun z=>[B z]) ((by symm;unfold bv;rw[ce li (by unfold fA;rw[h1,P0 (by omega)];rfl)];rfl))
    | ((conv=>whnf);refine Nx.mk (i+1) ⟨by omega,bK ai (by unfold fA;rw[h1,O0 (by omega)];rfl)⟩ (by omega) ?_;(exact wB))
 ·repeat'(first|refine gD ?_|(conv=>whnf);first|refine Cl.mk (aJ pages 1 32) ?_)
  obtain rfl:i=xs.length:=by omega
  exact R0 (fun z=>[B z]) ((by unfold bv;rw[ai];rfl))
theorem xe (xs:List a7) (page:Int) (hl:xs.length<=9223372036854775807):ao Tryz.prog 270 false [.val none (bB .imm xs),.val none [I page]] .one [B (xs.any (oW page))]:=by
 refine fO 34 [(4,22,[12,13,14,15,16,17,18,19,20,21,22,23,24,25,26,27,28,29,30,31,32,33])] Tryz.func270 rfl ?_
 repeat'(first|refine gO ?_|fail)
 (conv=>whnf)
 refine Lp.mk (ι:=Nat) (fun i=>[(0,.hold .one (bB .imm xs)),(1,.hold .one [I (page)]),(5,.hold .one [I ((i:Nat):Int)])]) (fun i=>i<=xs.length/\(xs.take i).any (oW page)=false) (fun i=>xs.length - i) (0) ?_ (⟨Q0 _,rfl⟩) fun i hi=>?_
 ·exact wB
 obtain⟨hi,ha⟩:=hi;by_cases li:i<xs.length
 ·have hx:=ah li
  repeat'(first|refine gD ?_|(conv=>whnf);first|with_reducible (first|refine Ix.nat (aa hx) ?_|refine Bf.D (fun hq=>?_) (fun hq=>?_))|refine Wr.mk rfl ?_)
  all_goals first
   | exact R0 (fun z=>[B z]) ((zd hx (by unfold oW;rw[O0 (by assumption),O0 (by assumption)];rfl)).symm)
   | ((conv=>whnf);refine Nx.mk (i+1) ⟨by omega,vS hx ha (by unfold oW;first|(rw[P0 (by assumption:¬(nth xs i).At<=page)];rfl)|(rw[P0 (by assumption:¬page<_)];simp))⟩ (by omega) ?_;(exact wB))
 ·repeat'(first|refine gD ?_|fail)
  exact R0 (fun z=>[B z]) ((Ft (by omega) ha).symm)
theorem tdiv16 {z:Int} (h:0<=z):z.tdiv 16=z / 16:=Int.tdiv_eq_ediv_of_nonneg h
theorem kB (z:Int):ao Tryz.prog 293 false [.val none [I z]] .one [I (eI z)]:=by
 refine fO 10 [] Tryz.func293 rfl ?_;by_cases hz:9<=z/\z<=1000
 ·repeat'(first|refine gD ?_|(conv=>whnf);first|with_reducible refine Bf.D (fun hq=>?_) (fun hq=>?_)|refine Cl.mk (aE z 9 1000) ?_|refine Cd.mk (by decide) ?_|refine Wr.mk ((R0 _ (tdiv16 (by omega))).trans (ed (by omega) (by omega))) ?_)
  all_goals exact R0 (fun z=>[I z]) (by unfold eI;rw[if_pos hz];omega)
 ·repeat'(first|refine gD ?_|(conv=>whnf);first|with_reducible refine Bf.D (fun hq=>?_) (fun hq=>?_)|refine Cl.mk (aE z 9 1000) ?_)
  all_goals exact R0 (fun z=>[I z]) (by unfold eI;rw[if_neg hz])
theorem xb (z:Int):ao Tryz.prog 217 false [.val none [I z]] .one [I (eI z)]:=by
 refine fO 10 [] Tryz.func217 rfl ?_;by_cases hz:9<=z/\z<=1000
 ·repeat'(first|refine gD ?_|(conv=>whnf);first|with_reducible refine Bf.D (fun hq=>?_) (fun hq=>?_)|refine Cl.mk (aJ z 9 1000) ?_|refine Cd.mk (by decide) ?_|refine Wr.mk ((R0 _ (tdiv16 (by omega))).trans (ed (by omega) (by omega))) ?_)
  all_goals exact R0 (fun z=>[I z]) (by unfold eI;rw[if_pos hz];omega)
 ·repeat'(first|refine gD ?_|(conv=>whnf);first|with_reducible refine Bf.D (fun hq=>?_) (fun hq=>?_)|refine Cl.mk (aJ z 9 1000) ?_)
  all_goals exact R0 (fun z=>[I z]) (by unfold eI;rw[if_neg hz])
theorem lF (l:a8):ao Tryz.prog 269 false [.val (some 3) (a8.enc .imm l)] .one [B (bR l)]:=by
 have h1:=kB l.Size;by_cases hz:9<=l.Size/\l.Size<=1000
 ·rw[show eI l.Size=(l.Size+15) / 16 from if_pos hz]at h1
  refine fO 22 [] Tryz.func269 rfl ?_
  repeat'(first|refine gO ?_|(conv=>whnf);first|with_reducible (first|refine Bf.D (fun hq=>?_) (fun hq=>?_)|refine Bf.E (fun hq=>?_) (fun hq=>?_))|refine Cl.mk h1 ?_|refine Cl.mk (aE _ 0 _) ?_)
  all_goals exact R0 (fun z=>[B z]) ((by unfold bR;first|(symm;exact P0 (by omega))|exact decide_eq_decide.2 (by omega)))
 ·rw[show eI l.Size=0 from if_neg hz]at h1
  refine fO 22 [] Tryz.func269 rfl ?_
  repeat'(first|refine gD ?_|(conv=>whnf);first|with_reducible refine Bf.D (fun hq=>?_) (fun hq=>?_)|refine Cl.mk h1 ?_)
  all_goals exact R0 (fun z=>[B z]) ((by unfold bR;symm;exact P0 (by omega)))
theorem ql (l:a8):ao Tryz.prog 162 false [.val (some 3) (a8.enc .imm l)] .one [B (bR l)]:=by
 have h1:=xb l.Size;by_cases hz:9<=l.Size/\l.Size<=1000
 ·rw[show eI l.Size=(l.Size+15) / 16 from if_pos hz]at h1
  refine fO 22 [(1,20,[3,4,5,6,7,8,9,10,11,12,13,14,15,16,17,18,19,20,21,2])] Tryz.func162 rfl ?_
  repeat'(first|refine gD ?_|(conv=>whnf);first|with_reducible (first|refine Bf.D (fun hq=>?_) (fun hq=>?_)|refine Bf.E (fun hq=>?_) (fun hq=>?_))|refine Cl.mk h1 ?_|refine Cl.mk (aJ _ 9 1000) ?_|refine Cl.mk (aJ _ 0 _) ?_)
  all_goals exact R0 (fun z=>[B z]) ((by unfold bR;first|(symm;exact P0 (by omega))|exact decide_eq_decide.2 (by omega)))
 ·refine fO 22 [(1,20,[3,4,5,6,7,8,9,10,11,12,13,14,15,16,17,18,19,20,21,2])] Tryz.func162 rfl ?_
  repeat'(first|refine gD ?_|(conv=>whnf);first|with_reducible refine Bf.D (fun hq=>?_) (fun hq=>?_)|refine Cl.mk (aJ _ 9 1000) ?_)
  all_goals exact R0 (fun z=>[B z]) ((by unfold bR;symm;exact P0 (by omega)))
theorem lD {z:Int} (h:0<=z/\z<=9223372036854775807):(BitVec.ofInt IntKind.i64.bits z).toNat=z.toNat:=by
 show(BitVec.ofInt 64 z).toNat=z.toNat;rw[BitVec.toNat_ofInt]
 congr 1
 exact Int.emod_eq_of_lt h.1 (by show z<((2 ^ 64:Nat):Int);have:=h.2;norm_cast;omega)
theorem and64 {z1 z2:Int} (h1:0<=z1/\z1<=9223372036854775807) (h2:0<=z2/\z2<=9223372036854775807):IntKind.i64.wrap ((BitVec.ofInt IntKind.i64.bits z1 &&& BitVec.ofInt IntKind.i64.bits z2).toNat:Nat)=((z1.toNat &&& z2.toNat:Nat):Int):=by
 rw[BitVec.toNat_and,lD h1,lD h2];have:z1.toNat &&& z2.toNat<=z1.toNat:=Nat.and_le_left;exact ed (by omega) (by omega)
theorem EI (k:Int):lim k<=65535:=by
 unfold lim
 (repeat' split)<;>decide
theorem dC {s:au} (h:aY s=true):0<=s.Bits/\s.Bits<=9223372036854775807:=by
 unfold aY at h;simp only[C0]at h;have:=EI s.Class;omega
theorem iB (x1 x2:au):ao Tryz.prog 40 false [.val (some 3) (au.enc .imm x1),.val (some 3) (au.enc .imm x2)] .one [B (meshable x1 x2)]:=by
 have h1:=fG x1;have h2:=fG x2;cases e1:aY x1<;>rw[e1]at h1<;>cases e2:aY x2<;>rw[e2]at h2
 all_goals
  refine fO 33 [] Tryz.func40 rfl ?_
  repeat'(first|refine gO ?_|(conv=>whnf);first|with_reducible (first|refine Bf.D (fun hq=>?_) (fun hq=>?_)|refine Bf.N (fun hq=>?_) (fun hq=>?_)|refine Bf.E (fun hq=>?_) (fun hq=>?_))|refine Cl.mk h1 ?_|refine Cl.mk h2 ?_|refine Wr.mk (and64 (dC e1) (dC e2)) ?_)
  all_goals exact R0 (fun z=>[B z]) ((by unfold meshable;rw[e1,e2];first|rfl|(symm;exact P0 (by omega))|(rw[U3];simp;omega)))
theorem kH (x1 x2:au):ao Tryz.prog 165 false [.val (some 3) (au.enc .imm x1),.val (some 3) (au.enc .imm x2)] .one [B (meshable x1 x2)]:=by
 have h1:=gN x1;have h2:=gN x2;cases e1:aY x1<;>rw[e1]at h1<;>cases e2:aY x2<;>rw[e2]at h2
 all_goals
  refine fO 33 [] Tryz.func165 rfl ?_
  repeat'(first|refine gO ?_|(conv=>whnf);first|with_reducible (first|refine Bf.D (fun hq=>?_) (fun hq=>?_)|refine Bf.N (fun hq=>?_) (fun hq=>?_)|refine Bf.E (fun hq=>?_) (fun hq=>?_))|refine Cl.mk h1 ?_|refine Cl.mk h2 ?_|refine Wr.mk (and64 (dC e1) (dC e2)) ?_)
  all_goals exact R0 (fun z=>[B z]) ((by unfold meshable;rw[e1,e2];first|rfl|(symm;exact P0 (by omega))|(rw[U3];simp;omega)))
theorem GT (k:Int):ao Tryz.prog 247 false [.val none [I k]] .one [B (decide (0<=k/\k<=15))]:=by
 refine fO 5 [] Tryz.func247 rfl ?_
 repeat'(first|refine gO ?_|(conv=>whnf);first|refine Cl.mk (aJ k 0 15) ?_)
 rfl
theorem ss (p:bP) (hs:bP.sml p):ao Tryz.prog 279 false [.val (some 3) (bP.enc .imm p)] .one [B (ek p)]:=by
 have hl:p.Cells.length<=1048576:=hs;refine fO 51 [(4,25,[11,12,13,14,15,16,17,18,19,20,21,22,23,24,25,26,27,28,29,30,31,32,33,34,35])] Tryz.func279 rfl ?_
 repeat'(first|refine gO ?_|fail)
 (conv=>whnf)
 refine Lp.mk (ι:=Nat) (fun i=>[(1,.hold .box (bP.enc .imm p)),(3,.hold .one [I ((i:Nat):Int)])]) (fun i=>i<=p.Cells.length/\cA i (lO p.Cells)=true) (fun i=>p.Cells.length - i) 0 ?_ ⟨Q0 _,rfl⟩ fun i hi=>?_
 ·exact wB
 obtain⟨hi,ai⟩:=hi;by_cases li:i<p.Cells.length
 ·have hx:=ah li
  repeat'(first|refine gD ?_|(conv=>whnf);first|with_reducible (first|refine Ix.nat (aa hx) ?_|refine Bf.D (fun hq=>?_) (fun hq=>?_))|refine Cl.mk (aE _ 0 15) ?_|refine Ix.mk (by omega) (aa (f8 (by omega) li)) ?_)
  all_goals first
   | exact R0 (fun z=>[B z]) ((by symm;unfold ek;rw[ce li (P0 (by omega))];rfl))
   | ((conv=>whnf);refine Nx.mk (i+1) ⟨by omega,bK ai (O0 (by omega))⟩ (by omega) ?_;(exact wB))
 ·obtain rfl:i=p.Cells.length:=by omega
  repeat'(first|refine gD ?_|(conv=>whnf);first|with_reducible (first|refine Bf.D (fun hq=>?_) (fun hq=>?_)|refine Bf.NB (fun hq=>?_) (fun hq=>?_)|refine Bf.N (fun hq=>?_) (fun hq=>?_))|refine Cl.mk (aE _ 0 31) ?_)
  all_goals exact R0 (fun z=>[B z]) ((by unfold ek;rw[ai];simp only[Bool.true_and];first|(symm;exact P0 (by omega))|exact decide_eq_decide.2 (by omega)|(rw[U3];simp;omega)))
theorem sR (p:bP) (hs:bP.sml p):ao Tryz.prog 171 false [.val (some 3) (bP.enc .imm p)] .one [B (ek p)]:=by
 have hl:p.Cells.length<=1048576:=hs;refine fO 46 [] Tryz.func171 rfl ?_
 repeat'(first|refine gO ?_|fail)
 (conv=>whnf)
 refine Lp.mk (ι:=Nat) (fun i=>[(1,.hold .box (bP.enc .imm p)),(6,.hold .one (aD .imm p.Cells)),(7,.hold .one [I (p.Cells.length)]),(8,.hold .one [I ((i:Nat):Int)])]) (fun i=>i<=p.Cells.length/\cA i (lO p.Cells)=true) (fun i=>p.Cells.length - i) 0 ?_ ⟨Q0 _,rfl⟩ fun i hi=>?_
 ·exact wB
 obtain⟨hi,ai⟩:=hi;by_cases li:i<p.Cells.length
 ·have hx:=ah li
  repeat'(first|refine gD ?_|(conv=>whnf);first|with_reducible (first|refine Ix.nat (aa hx) ?_|refine Bf.D (fun hq=>?_) (fun hq=>?_))|refine Cl.mk (GT _) ?_|refine Ix.mk (by omega) (aa (f8 (by omega) li)) ?_)
  all_goals first
   | exact R0 (fun z=>[B z]) ((by symm;unfold ek;rw[ce li (P0 (by omega))];rfl))
   | ((conv=>whnf);refine Nx.mk (i+1) ⟨by omega,bK ai (O0 (by omega))⟩ (by omega) ?_;(exact wB))
 ·obtain rfl:i=p.Cells.length:=by omega
  repeat'(first|refine gD ?_|(conv=>whnf);first|with_reducible (first|refine Bf.D (fun hq=>?_) (fun hq=>?_)|refine Bf.NB (fun hq=>?_) (fun hq=>?_)|refine Bf.N (fun hq=>?_) (fun hq=>?_))|refine Cl.mk (aJ _ 0 31) ?_)
  all_goals exact R0 (fun z=>[B z]) ((by unfold ek;rw[ai];simp only[Bool.true_and];first|(symm;exact P0 (by omega))|exact decide_eq_decide.2 (by omega)|(rw[U3];simp;omega)))
theorem vL (j:cj) (hs:cj.sml j):ao Tryz.prog 212 false [.val (some 5) (cj.enc .imm j)] .one [B (iH j)]:=by
 have hl:j.Plan.Cells.length<=1048576:=hs;have h1:=ss j.Plan hs;cases e1:ek j.Plan<;>rw[e1]at h1
 all_goals
  refine fO 20 [] Tryz.func212 rfl ?_
  repeat'(first|refine gO ?_|(conv=>whnf);first|with_reducible refine Bf.D (fun hq=>?_) (fun hq=>?_)|refine Cl.mk h1 ?_|refine Cl.mk (aE _ 0 5) ?_|refine Cl.mk (aE _ 0 _) ?_)
  all_goals exact R0 (fun z=>[B z]) ((by unfold iH;rw[e1];first|rfl|(symm;exact P0 (by omega))|(rw[U3];simp;omega)))
theorem ET (j:cj) (hs:cj.sml j):ao Tryz.prog 77 false [.val (some 5) (cj.enc .imm j)] .one [B (iH j)]:=by
 have hl:j.Plan.Cells.length<=1048576:=hs;have h1:=sR j.Plan hs;cases e1:ek j.Plan<;>rw[e1]at h1
 all_goals
  refine fO 20 [] Tryz.func77 rfl ?_
  repeat'(first|refine gO ?_|(conv=>whnf);first|with_reducible refine Bf.D (fun hq=>?_) (fun hq=>?_)|refine Cl.mk h1 ?_|refine Cl.mk (aJ _ 0 5) ?_|refine Cl.mk (aJ _ 0 _) ?_)
  all_goals exact R0 (fun z=>[B z]) ((by unfold iH;rw[e1];first|rfl|(symm;exact P0 (by omega))|(rw[U3];simp;omega)))
theorem j8 (l:a8) (k:Nat):lpgs l (k+1)=lpgs l k++[l.Page+(k:Nat)]:=by
 unfold lpgs;rw[List.range_succ,C4];rfl
theorem B4 (l:a8) (k:Nat):(lpgs l k).length=k:=by unfold lpgs;simp
theorem H6 (l:a8) {k n:Nat} (h:k<=n):lpgs l k <+: lpgs l n:=by
 induction n with
 | zero=>
  obtain rfl:k=0:=by omega
  exact List.prefix_refl _
 | succ n ih=>
  rcases Nat.lt_or_ge n k with h1|h1
  ·obtain rfl:k=n+1:=by omega
   exact List.prefix_refl _
  ·rw[j8];exact(ih h1).trans (List.prefix_append ..)
theorem nj (sp:List au) {la:List a8} {i:Nat} {l:a8} (h:la[i]? = some l):pgs sp (la.take (i+1))=pgs sp (la.take i)++lpgs l l.Pages.toNat:=by
 unfold pgs;rw[v4,h,List.flatMap_append];simp
theorem KF (sp:List au) (la:List a8) (i:Nat):pgs sp (la.take i) <+: pgs sp la:=by
 unfold pgs;refine(List.prefix_append_right_inj _).2 ?_
 conv=>rhs;rw[<-List.take_append_drop i la,List.flatMap_append]
 exact List.prefix_append ..
theorem J2 {S all:List Int} {p:Int} (h:(S++[p]) <+: all) (hp:p∈S):decide all.Nodup=false:=by
 refine P0 fun hn=>?_
 have h1:=hn.sublist h.sublist;rw[List.nodup_append]at h1;exact h1.2.2 p hp p (by simp) rfl
theorem jH {S:List Int} {p:Int} (h:S.Nodup) (hp:p∉S):(S++[p]).Nodup:=by
 rw[List.nodup_append];exact⟨h,by simp,fun x hx y hy e=>by simp at hy;subst hy;subst e;exact hp hx⟩
theorem BE {sp:List au} {la:List a8} {i:Nat} {s:au} (h:sp[i]? = some s):((sp.take i).map (·.Page)++[s.Page]) <+: pgs sp la:=by
 have h1:(sp.take i).map (·.Page)++[s.Page]=(sp.take (i+1)).map (·.Page):=by rw[v4,h];simp
 rw[h1];refine List.IsPrefix.trans ?_ (List.prefix_append ..);rw[C3];exact List.take_prefix ..
theorem yv {sp:List au} {la:List a8} {i k:Nat} {l:a8} (h:la[i]? = some l) (hk:k<l.Pages.toNat):(pgs sp (la.take i)++lpgs l k++[l.Page+(k:Nat)]) <+: pgs sp la:=by
 refine List.IsPrefix.trans ?_ (KF sp la (i+1));rw[nj sp h,z4,<-j8];exact(List.prefix_append_right_inj _).2 (H6 l hk)
theorem o8 {sp:List au} {la:List a8} {i:Nat} {s:au} (h:sp[i]? = some s) (hs:aY s=false):bk sp la=false:=by
 unfold bk;rw[dU h hs];rfl
theorem nr {sp:List au} {la:List a8} {i:Nat} {l:a8} (h:la[i]? = some l) (hs:bR l=false):bk sp la=false:=by
 unfold bk;rw[dU h hs];simp
theorem jp {sp:List au} {la:List a8} {S:List Int} {p:Int} (h:(S++[p]) <+: pgs sp la) (hp:p∈S):bk sp la=false:=by
 unfold bk;rw[J2 h hp];simp
theorem qO {sp:List au} {la:List a8} (h1:sp.all aY=true) (h2:la.all bR=true) (h3:(pgs sp la).Nodup):bk sp la=true:=by
 unfold bk;rw[h1,h2,O0 h3];rfl
theorem aU {l:a8} (h:bR l=true):1<=l.Pages/\l.Pages<=63/\0<=l.Page/\l.Page<=31:=by
 unfold bR at h;simp only[C0]at h;omega
theorem kA (sp:List au) (la:List a8) (hs1:dt sp) (hs2:dq la):ao Tryz.prog 203 false [.val none (b6 .imm sp),.val none (bX .imm la)] .one [B (bk sp la)]:=by
 have hl1:=hs1.1;have hl2:=hs2.1;refine fO 79 [] Tryz.func203 rfl ?_
 repeat'(first|refine gO ?_|fail)
 (conv=>whnf)
 refine Lp.mk (ι:=Nat × List Int) (fun i=>[(0,.hold .one (b6 .imm sp)),(1,.hold .one (bX .imm la)),(5,.hold .one (aD .own i.2)),(6,.hold .one [I ((i.1:Nat):Int)])]) (fun i=>i.1<=sp.length/\i.2=(sp.take i.1).map (·.Page)/\(sp.take i.1).all aY=true/\i.2.Nodup) (fun i=>sp.length - i.1) ((0,[])) ?_ (⟨Q0 _,rfl,rfl,List.nodup_nil⟩) fun i hi=>?_
 ·exact wB
 obtain⟨i,S⟩:=i;obtain⟨hi,hS,hok,hnd⟩:=hi;simp only at hi hS hok hnd |-;have hSl:S.length=i:=by rw[hS,U0,C1];omega
 by_cases li:i<sp.length
 ·have hx:=ah li
  have h1:=fG (nth sp i);cases e1:aY (nth sp i)<;>rw[e1]at h1
  ·repeat'(first|refine gD ?_|(conv=>whnf);first|with_reducible refine Ix.nat (aa hx) ?_|refine Cl.mk h1 ?_)
   exact R0 (fun z=>[B z]) ((o8 hx e1).symm)
  ·repeat'(first|refine gD ?_|(conv=>whnf);first|with_reducible (first|refine Ix.nat (aa hx) ?_|refine Bf.D (fun hq=>?_) (fun hq=>?_))|refine Cl.mk h1 ?_|refine Cl.eq (ly S _ (by omega)) ⟨⟨rfl,dG _⟩,⟨rfl,rfl⟩,trivial⟩ ?_|refine Ap.mk cq (fun r hr=>by rw[X0.1 hr];rfl) (by simp[aV,d4]) (by simp;omega) (by simp only[U0];exact wI (by simp;omega) (by decide)) rfl ?_)
   all_goals first
    | exact R0 (fun z=>[B z]) ((jp (S:=S) (by rw[hS];exact BE hx) (by assumption)).symm)
    | ((conv=>whnf)
       refine Nx.mk (i+1,S++[(nth sp i).Page]) ⟨(by simp only;omega),(by simp only;rw[hS,v4,hx];simp),(cy hx hok e1),jH hnd (by assumption)⟩ (by simp only;omega) ?_
       (repeat'(first|exact trivial|rfl|exact And.intro rfl (And.intro (R0 (C.s dz.own) (by simp[rI])) trivial)|refine And.intro ?_ ?_)))
 ·obtain rfl:i=sp.length:=by omega
  rw[X3]at hok hS
  repeat'(first|refine gD ?_|fail)
  (conv=>whnf)
  refine Lp.mk (ι:=Nat × List Int) (fun i=>[(1,.hold .one (bX .imm la)),(5,.hold .one (aD .own i.2)),(7,.hold .one [I ((i.1:Nat):Int)])]) (fun i=>i.1<=la.length/\i.2=pgs sp (la.take i.1)/\(la.take i.1).all bR=true/\i.2.Nodup/\i.2.length<=1048576+64*i.1) (fun i=>la.length - i.1) ((0,S)) ?_ (⟨Q0 _,by rw[hS];unfold pgs;simp,rfl,hnd,by simp only;omega⟩) fun i hi=>?_
  ·exact wB
  obtain⟨i,S2⟩:=i;obtain⟨hi2,hS2,hok2,hnd2,hb2⟩:=hi;simp only at hi2 hS2 hok2 hnd2 hb2 |-;by_cases li:i<la.length
  ·have hx:=ah li
   have h1:=lF (nth la i);cases e1:bR (nth la i)<;>rw[e1]at h1
   ·repeat'(first|refine gD ?_|(conv=>whnf);first|with_reducible refine Ix.nat (aa hx) ?_|refine Cl.mk h1 ?_)
    exact R0 (fun z=>[B z]) ((nr hx e1).symm)
   ·have hpg:=aU e1
    repeat'(first|refine gD ?_|(conv=>whnf);first|with_reducible refine Ix.nat (aa hx) ?_|refine Cl.mk h1 ?_)
    (conv=>whnf)
    refine Lp.mk (ι:=Nat × List Int) (fun k=>[(1,.hold .one (bX .imm la)),(5,.hold .one (aD .own k.2)),(7,.hold .one [I ((i:Nat):Int)]),(8,.hold .one [I ((k.1:Nat):Int)])]) (fun k=>k.1<=(nth la i).Pages.toNat/\k.2=S2++lpgs (nth la i) k.1/\k.2.Nodup) (fun k=>(nth la i).Pages.toNat - k.1) ((0,S2)) ?_ (⟨Q0 _,by simp[lpgs],hnd2⟩) fun k hk=>?_
    ·exact wB
    obtain⟨k,S3⟩:=k;obtain⟨hk,hS3,hnd3⟩:=hk;simp only at hk hS3 hnd3 |-;have hl3:S3.length=S2.length+k:=by rw[hS3,P2,B4]
    by_cases lk:k<(nth la i).Pages.toNat
    ·repeat'(first|refine gD ?_|(conv=>whnf);first|with_reducible (first|refine Ix.nat (aa hx) ?_|refine Bf.D (fun hq=>?_) (fun hq=>?_))|refine Cl.eq (ly S3 _ (by omega)) ⟨⟨rfl,dG _⟩,⟨rfl,rfl⟩,trivial⟩ ?_|refine Ap.mk cq (fun r hr=>by rw[X0.1 hr];rfl) (by simp[aV,d4]) (by simp;omega) (by show _*8<=_;simp;omega) rfl ?_)
     all_goals first
      | exact R0 (fun z=>[B z]) ((jp (S:=S3) (by rw[hS3,hS2];exact yv hx lk) (by assumption)).symm)
      | ((conv=>whnf)
         refine Nx.mk (k+1,S3++[(nth la i).Page+(k:Nat)]) ⟨(by simp only;omega),(by simp only;rw[hS3,j8,z4]),jH hnd3 (by assumption)⟩ (by simp only;omega) ?_
         (repeat'(first|exact trivial|rfl|exact And.intro rfl (And.intro (R0 (C.s dz.own) (by simp[rI])) trivial)|refine And.intro ?_ ?_)))
    ·obtain rfl:k=(nth la i).Pages.toNat:=by omega
     repeat'(first|refine gD ?_|(conv=>whnf);first|with_reducible refine Ix.nat (aa hx) ?_)
     ((conv=>whnf);refine Nx.mk (i+1,S3) ⟨(by simp only;omega),(by simp only;rw[hS3,hS2,<-nj sp hx]),(cy hx hok2 e1),hnd3,(by simp only;omega)⟩ (by simp only;omega) ?_;(exact wB))
  ·obtain rfl:i=la.length:=by omega
   rw[X3]at hok2 hS2
   repeat'(first|refine gD ?_|fail)
   exact R0 (fun z=>[B z]) ((qO hok hok2 (by rw[<-hS2];exact hnd2)).symm)
def ins (S:List Int) (p:Int):List Int:=if p∈S then S else S++[p]
theorem Fw {p:Int} : ∀ {S:List Int},p∈S->mput (eJ S) p (.bool true)=eJ S
 | x::S,h=>by
  simp only[eJ,O4,mput];by_cases hx:x=p
  ·rw[if_pos hx,hx]
  ·rw[if_neg hx]
   have:=Fw (S:=S) ((List.mem_cons.1 h).resolve_left fun e=>hx e.symm);simp only[eJ]at this;rw[this]
theorem vH (S:List Int) (p:Int):eJ (ins S p)=mput (eJ S) p (.bool true):=by
 unfold ins;split
 ·rw[Fw (by assumption)]
 ·rw[ro (by assumption)]
theorem Kh (S:List Int) (p:Int):aS Tryz.prog 160 false [.val none [I p],.ptr [.m (eJ S)]] [.val none [I p],.ptr [.m (eJ (ins S p))]] .one [B (decide (p∉S))]:=by
 refine fM 12 [] [] [(0,0),(0,0)] Tryz.func160 rfl (fun u q=>?_)
 repeat'(first|refine gO ?_|(conv=>whnf);first|refine Ml.mk (lL p S) ?_|refine Mu.mk (vH S p) ?_)
 refine aR.mk rfl ?_ ?_
 ·exact R0 (fun z=>[B z]) (by simp)
 ·exact wB
theorem oI (sp:List au) (la:List a8) (hs1:dt sp) (hs2:dq la):ao Tryz.prog 68 false [.val none (b6 .imm sp),.val none (bX .imm la)] .one [B (bk sp la)]:=by
 have hl1:=hs1.1;have hl2:=hs2.1;refine fP 54 [(160,[0,2])] [] Tryz.func68 rfl ?_
 repeat'(first|refine gO ?_|fail)
 (conv=>whnf)
 refine Lp.mk (ι:=Nat × List Int) (fun i=>[(1,.hold .one (bX .imm la)),(5,.hold .box [.m (eJ i.2)]),(6,.fn 160 [5]),(14,.hold .one (b6 .imm sp)),(15,.hold .one [I (sp.length)]),(16,.hold .one [I ((i.1:Nat):Int)])]) (fun i=>i.1<=sp.length/\i.2=(sp.take i.1).map (·.Page)/\(sp.take i.1).all aY=true/\i.2.Nodup) (fun i=>sp.length - i.1) ((0,[])) ?_ (⟨Q0 _,rfl,rfl,List.nodup_nil⟩) fun i hi=>?_
 ·exact wB
 obtain⟨i,S⟩:=i;obtain⟨hi,hS,hok,hnd⟩:=hi;simp only at hi hS hok hnd |-;by_cases li:i<sp.length
 ·have hx:=ah li
  have h1:=gN (nth sp i);cases e1:aY (nth sp i)<;>rw[e1]at h1
  ·repeat'(first|refine gD ?_|(conv=>whnf);first|with_reducible refine Ix.nat (aa hx) ?_|refine Cl.mk h1 ?_)
   exact R0 (fun z=>[B z]) ((o8 hx e1).symm)
  ·repeat'(first|refine gD ?_|(conv=>whnf);first|with_reducible (first|refine Ix.nat (aa hx) ?_|refine Bf.D (fun hq=>?_) (fun hq=>?_))|refine Cl.mk h1 ?_|refine cu.mk (Kh S _) (.inl rfl) ?_)
   all_goals first
    | exact R0 (fun z=>[B z]) ((jp (S:=S) (by rw[hS];exact BE hx) (by grind)).symm)
    |(have hnin:(nth sp i).Page∉S:=by assumption
      (conv=>whnf)
      refine Nx.mk (i+1,ins S (nth sp i).Page) ⟨(by simp only;omega),(by simp only;unfold ins;rw[if_neg hnin,hS,v4,hx];simp),(cy hx hok e1),(by simp only;unfold ins;rw[if_neg hnin];exact jH hnd hnin)⟩ (by simp only;omega) ?_
      (exact wA))
 ·obtain rfl:i=sp.length:=by omega
  rw[X3]at hok hS
  repeat'(first|refine gD ?_|fail)
  (conv=>whnf)
  refine Lp.mk (ι:=Nat × List Int) (fun i=>[(5,.hold .box [.m (eJ i.2)]),(6,.fn 160 [5]),(31,.hold .one (bX .imm la)),(32,.hold .one [I (la.length)]),(33,.hold .one [I ((i.1:Nat):Int)])]) (fun i=>i.1<=la.length/\i.2=pgs sp (la.take i.1)/\(la.take i.1).all bR=true/\i.2.Nodup) (fun i=>la.length - i.1) ((0,S)) ?_ (⟨Q0 _,by rw[hS];unfold pgs;simp,rfl,hnd⟩) fun i hi=>?_
  ·exact wB
  obtain⟨i,S2⟩:=i;obtain⟨hi2,hS2,hok2,hnd2⟩:=hi;simp only at hi2 hS2 hok2 hnd2 |-;by_cases li:i<la.length
  ·have hx:=ah li
   have h1:=ql (nth la i);cases e1:bR (nth la i)<;>rw[e1]at h1
   ·repeat'(first|refine gD ?_|(conv=>whnf);first|with_reducible refine Ix.nat (aa hx) ?_|refine Cl.mk h1 ?_)
    exact R0 (fun z=>[B z]) ((nr hx e1).symm)
   ·have hpg:=aU e1
    repeat'(first|refine gD ?_|(conv=>whnf);first|with_reducible refine Ix.nat (aa hx) ?_|refine Cl.mk h1 ?_)
    (conv=>whnf)
    refine Lp.mk (ι:=Nat × List Int) (fun k=>[(5,.hold .box [.m (eJ k.2)]),(6,.fn 160 [5]),(10,.hold .box (a8.enc .imm (nth la i))),(11,.hold .one [I ((k.1:Nat):Int)]),(31,.hold .one (bX .imm la)),(32,.hold .one [I (la.length)]),(33,.hold .one [I ((i:Nat):Int)])]) (fun k=>k.1<=(nth la i).Pages.toNat/\k.2=S2++lpgs (nth la i) k.1/\k.2.Nodup) (fun k=>(nth la i).Pages.toNat - k.1) ((0,S2)) ?_ (⟨Q0 _,by simp[lpgs],hnd2⟩) fun k hk=>?_
    ·exact wB
    obtain⟨k,S3⟩:=k;obtain⟨hk,hS3,hnd3⟩:=hk;simp only at hk hS3 hnd3 |-;by_cases lk:k<(nth la i).Pages.toNat
    ·repeat'(first|refine gD ?_|(conv=>whnf);first|with_reducible refine Bf.D (fun hq=>?_) (fun hq=>?_)|refine cu.mk (Kh S3 _) (.inl rfl) ?_)
     all_goals first
      | exact R0 (fun z=>[B z]) ((jp (S:=S3) (by rw[hS3,hS2];exact yv hx lk) (by grind)).symm)
      |(have hnin:(nth la i).Page+(k:Nat)∉S3:=by assumption
        (conv=>whnf)
        refine Nx.mk (k+1,ins S3 ((nth la i).Page+(k:Nat))) ⟨(by simp only;omega),(by simp only;unfold ins;rw[if_neg hnin,hS3,j8,z4]),(by simp only;unfold ins;rw[if_neg hnin];exact jH hnd3 hnin)⟩ (by simp only;omega) ?_
        (exact wA))
    ·obtain rfl:k=(nth la i).Pages.toNat:=by omega
     repeat'(first|refine gD ?_|fail)
     ((conv=>whnf);refine Nx.mk (i+1,S3) ⟨(by simp only;omega),(by simp only;rw[hS3,hS2,<-nj sp hx]),(cy hx hok2 e1),hnd3⟩ (by simp only;omega) ?_;(exact wB))
  ·obtain rfl:i=la.length:=by omega
   rw[X3]at hok2 hS2
   repeat'(first|refine gD ?_|fail)
   exact R0 (fun z=>[B z]) ((qO hok hok2 (by rw[<-hS2];exact hnd2)).symm)
theorem aF {s:au} (h:aY s=true):0<=s.Page/\s.Page<=31/\0<=s.Class/\s.Class<=3:=by
 unfold aY at h;simp only[C0]at h;omega
theorem cg {k:Int} (h:0<=k/\k<=3):csz k=1\/csz k=2\/csz k=4\/csz k=8:=by
 obtain rfl|rfl|rfl|rfl:k=0\/k=1\/k=2\/k=3:=by omega
 all_goals decide
theorem kX {x y:Int} (h:0<=x):x.tdiv y=x / y:=Int.tdiv_eq_ediv_of_nonneg h
theorem dZ {x y:Int} (h:0<=x):x.tmod y=x % y:=Int.tmod_eq_emod_of_nonneg h
def S2 (p:Int × Int):List C:=[I p.1,I p.2]
theorem yl {x1 x2:Int} {p:Int × Int} (h:(x1,x2)=p):[I x1,I x2]=S2 p:=by subst h;rfl
theorem sw (s:au) (a:Int) (ha:l9 a):ao Tryz.prog 328 false [.val (some 3) (au.enc .imm s),.val none [I a]] (.tup [none,none]) (S2 (gT s a)):=by
 have h1:=fG s;have h2:=dx s.Class;obtain⟨ha1,ha2⟩:=ha;cases e1:aY s<;>rw[e1]at h1
 ·refine fO 33 [(4,12,[23,24,25,26,27,28,29,30,31,32,4,5])] Tryz.func328 rfl ?_ (.inr ⟨trivial,trivial,trivial⟩)
  repeat'(first|refine gO ?_|(conv=>whnf);first|refine Cl.mk h1 ?_)
  exact yl (by unfold gT cw;rw[e1];rfl)
 ·have hc:=aF e1
  have hz:=cg ⟨hc.2.2.1,hc.2.2.2⟩;by_cases hin:16*s.Page<=a/\a<=16*s.Page+15
  ·have h0:0<=a:=by omega
   refine fO 33 [(4,12,[23,24,25,26,27,28,29,30,31,32,4,5])] Tryz.func328 rfl ?_ (.inr ⟨trivial,trivial,trivial⟩)
   repeat'(first|refine gD ?_|(conv=>whnf);first|with_reducible refine Bf.N (fun hq=>?_) (fun hq=>?_)|refine Cl.mk h1 ?_|refine Cl.mk h2 ?_|refine Cd.mk (by decide) ?_|refine Cd.mk (by omega) ?_|refine Wr.mk ((R0 _ (kX h0)).trans (ed (by omega) (by omega))) ?_|refine Ev.mk (dZ h0) ?_|refine Wr.mk ((R0 _ (kX (by omega))).trans (ed (by rcases hz with e|e|e|e<;>rw[e]<;>omega) (by rcases hz with e|e|e|e<;>rw[e]<;>omega))) ?_|refine Ev.mk (dZ (by omega)) ?_)
   all_goals first
    |(exfalso;omega)
    |exact yl (by unfold gT cw;rw[e1,O0 hin];show _=((a - 16*s.Page) / csz s.Class,(a - 16*s.Page) % csz s.Class);rw[show a % 16=a - 16*s.Page by omega])
  ·refine fO 33 [(4,12,[23,24,25,26,27,28,29,30,31,32,4,5])] Tryz.func328 rfl ?_ (.inr ⟨trivial,trivial,trivial⟩)
   repeat'(first|refine gO ?_|(conv=>whnf);first|with_reducible (first|refine Bf.D (fun hq=>?_) (fun hq=>?_)|refine Bf.N (fun hq=>?_) (fun hq=>?_))|refine Cl.mk h1 ?_|refine Cd.mk (by decide) ?_|refine Wr.mk ((R0 _ (kX (by omega))).trans (ed (by omega) (by omega))) ?_)
   all_goals first
    |exact yl (by unfold gT cw;rw[e1,P0 hin];rfl)
    |(exfalso;omega)
theorem B3 (s:au) (a:Int):ao Tryz.prog 182 false [.val (some 3) (au.enc .imm s),.val none [I a]] (.tup [none,none]) (S2 (gT s a)):=by
 have h1:=gN s;have h2:=dy s.Class;cases e1:aY s<;>rw[e1]at h1
 ·refine fO 38 [(4,12,[28,29,30,31,32,33,34,35,36,37,4,5])] Tryz.func182 rfl ?_ (.inr ⟨trivial,trivial,trivial⟩)
  repeat'(first|refine gO ?_|(conv=>whnf);first|refine Cl.mk h1 ?_)
  exact yl (by unfold gT cw;rw[e1];rfl)
 ·have hc:=aF e1
  have hz:=cg ⟨hc.2.2.1,hc.2.2.2⟩;by_cases hin:16*s.Page<=a/\a<=16*s.Page+15
  ·refine fO 38 [(4,12,[28,29,30,31,32,33,34,35,36,37,4,5])] Tryz.func182 rfl ?_ (.inr ⟨trivial,trivial,trivial⟩)
   repeat'(first|refine gD ?_|(conv=>whnf);first|with_reducible refine Bf.D (fun hq=>?_) (fun hq=>?_)|refine Cl.mk h1 ?_|refine Cl.mk h2 ?_|refine Cl.mk (aJ _ _ _) ?_|refine Cd.mk (by omega) ?_|refine Wr.mk ((R0 _ (kX (by omega))).trans (ed (by rcases hz with e|e|e|e<;>rw[e]<;>omega) (by rcases hz with e|e|e|e<;>rw[e]<;>omega))) ?_|refine Ev.mk (dZ (by omega)) ?_)
   all_goals exact yl (by unfold gT cw;rw[e1,O0 hin];show _=((a - 16*s.Page) / csz s.Class,(a - 16*s.Page) % csz s.Class);rw[show a - s.Page*16=a - 16*s.Page by omega])
  ·refine fO 38 [(4,12,[28,29,30,31,32,33,34,35,36,37,4,5])] Tryz.func182 rfl ?_ (.inr ⟨trivial,trivial,trivial⟩)
   repeat'(first|refine gD ?_|(conv=>whnf);first|with_reducible refine Bf.D (fun hq=>?_) (fun hq=>?_)|refine Cl.mk h1 ?_|refine Cl.mk (aJ _ _ _) ?_)
   all_goals exact yl (by unfold gT cw;rw[e1,P0 hin];rfl)
theorem nI (b i:Int):ao Tryz.prog 260 false [.val none [I b],.val none [I i]] .one [B (decide (0<=b/\0<=i/\i<=15))]:=by
 refine fO 11 [] Tryz.func260 rfl ?_
 repeat'(first|refine gO ?_|(conv=>whnf);first|with_reducible refine Bf.D (fun hq=>?_) (fun hq=>?_)|refine Cl.mk (aE _ 0 15) ?_)
 all_goals exact R0 (fun z=>[B z]) ((by first|(symm;exact P0 (by omega))|exact decide_eq_decide.2 (by omega)))
theorem xX (b i:Int):ao Tryz.prog 248 false [.val none [I b],.val none [I i]] .one [B (decide (0<=b/\0<=i/\i<=15))]:=by
 refine fO 11 [] Tryz.func248 rfl ?_
 repeat'(first|refine gO ?_|(conv=>whnf);first|with_reducible refine Bf.D (fun hq=>?_) (fun hq=>?_)|refine Cl.mk (aJ _ 0 15) ?_)
 all_goals exact R0 (fun z=>[B z]) ((by first|(symm;exact P0 (by omega))|exact decide_eq_decide.2 (by omega)))
theorem HK {b i:Int} (hb:0<=b/\b<=9223372036854775807) (hi:0<=i/\i<=15):b.fdiv (2 ^ min i.toNat IntKind.i64.bits)=b / 2 ^ i.toNat/\0<=b / 2 ^ i.toNat/\b / 2 ^ i.toNat<=9223372036854775807:=by
 have h1:min i.toNat IntKind.i64.bits=i.toNat:=Nat.min_eq_left (show i.toNat<=64 by omega);rw[h1];have h2:(0:Int)<=2 ^ i.toNat:=Int.pow_nonneg (by decide);refine⟨Int.fdiv_eq_ediv_of_nonneg _ h2,Int.ediv_nonneg hb.1 h2,?_⟩;have:=Int.ediv_le_self (2 ^ i.toNat:Int) hb.1;omega
theorem uP {b i:Int} (hb:0<=b) (hi:0<=i/\i<=15):((((b / 2 ^ i.toNat).toNat &&& (1:Int).toNat:Nat):Int) == 1)=aT b i:=by
 have h2:(0:Int)<=b / 2 ^ i.toNat:=Int.ediv_nonneg hb (Int.pow_nonneg (by decide));have h3:(b / 2 ^ i.toNat).toNat &&& (1:Int).toNat=(b / 2 ^ i.toNat).toNat % 2:=Nat.and_one_is_mod _;rw[h3];unfold aT;generalize b / 2 ^ i.toNat=q at h2 |-;rw[U3,beq_iff_eq,C0];omega
theorem gX (b i:Int) (hb:b<=9223372036854775807):ao Tryz.prog 192 false [.val none [I b],.val none [I i]] .one [B (aT b i)]:=by
 by_cases h:0<=b/\0<=i/\i<=15
 ·obtain⟨s1,s2⟩:=HK (b:=b) (i:=i) ⟨h.1,hb⟩ h.2
  have hw:IntKind.u64.wrap i=i:=by unfold IntKind.wrap;simp[IntKind.signed,IntKind.bits];omega
  refine fO 16 [] Tryz.func192 rfl ?_
  repeat'(first|refine gD ?_|(conv=>whnf);first|with_reducible refine Bf.D (fun hq=>?_) (fun hq=>?_)|refine Cl.mk (nI _ _) ?_|refine Cd.mk (by omega) ?_|refine Wr.mk hw ?_|refine Ev.mk s1 ?_|refine Wr.mk (and64 s2 ⟨by decide,by decide⟩) ?_)
  all_goals exact R0 (fun z=>[B z]) ((uP h.1 h.2))
 ·refine fO 16 [] Tryz.func192 rfl ?_
  repeat'(first|refine gD ?_|(conv=>whnf);first|with_reducible refine Bf.D (fun hq=>?_) (fun hq=>?_)|refine Cl.mk (nI _ _) ?_)
  all_goals exact R0 (fun z=>[B z]) ((by unfold aT;symm;exact P0 fun e=>h ⟨e.1,e.2.1,e.2.2.1⟩))
theorem jf (b i:Int) (hb:b<=9223372036854775807):ao Tryz.prog 173 false [.val none [I b],.val none [I i]] .one [B (aT b i)]:=by
 by_cases h:0<=b/\0<=i/\i<=15
 ·obtain⟨s1,s2⟩:=HK (b:=b) (i:=i) ⟨h.1,hb⟩ h.2
  refine fO 15 [] Tryz.func173 rfl ?_
  repeat'(first|refine gD ?_|(conv=>whnf);first|with_reducible refine Bf.D (fun hq=>?_) (fun hq=>?_)|refine Cl.mk (xX _ _) ?_|refine Cd.mk (by omega) ?_|refine Ev.mk s1 ?_|refine Wr.mk (and64 s2 ⟨by decide,by decide⟩) ?_)
  all_goals exact R0 (fun z=>[B z]) ((uP h.1 h.2))
 ·refine fO 15 [] Tryz.func173 rfl ?_
  repeat'(first|refine gD ?_|(conv=>whnf);first|with_reducible refine Bf.D (fun hq=>?_) (fun hq=>?_)|refine Cl.mk (xX _ _) ?_)
  all_goals exact R0 (fun z=>[B z]) ((by unfold aT;symm;exact P0 fun e=>h ⟨e.1,e.2.1,e.2.2.1⟩))
theorem cr {l:a8} (h:bR l=true):9<=l.Size/\l.Size<=1000/\0<=l.Page/\l.Page<=31:=by
 unfold bR at h;simp only[C0]at h;omega
theorem oP (l:a8) (a:Int):ao Tryz.prog 329 false [.val (some 3) (a8.enc .imm l),.val none [I a]] .one [B (bw l a)]:=by
 have h1:=lF l;cases e1:bR l<;>rw[e1]at h1
 ·refine fO 24 [] Tryz.func329 rfl ?_
  repeat'(first|refine gO ?_|(conv=>whnf);first|refine Cl.mk h1 ?_)
  exact R0 (fun z=>[B z]) ((by unfold bw;rw[e1];rfl))
 ·have hf:=cr e1
  refine fO 24 [] Tryz.func329 rfl ?_
  repeat'(first|refine gO ?_|(conv=>whnf);first|with_reducible refine Bf.D (fun hq=>?_) (fun hq=>?_)|refine Cl.mk h1 ?_)
  all_goals exact R0 (fun z=>[B z]) ((by unfold bw;rw[e1,Bool.true_and];first|(symm;exact P0 (by omega))|exact decide_eq_decide.2 (by omega)))
theorem oB (l:a8) (a:Int):ao Tryz.prog 183 false [.val (some 3) (a8.enc .imm l),.val none [I a]] .one [B (bw l a)]:=by
 have h1:=ql l;cases e1:bR l<;>rw[e1]at h1
 ·refine fO 21 [] Tryz.func183 rfl ?_
  repeat'(first|refine gO ?_|(conv=>whnf);first|refine Cl.mk h1 ?_)
  exact R0 (fun z=>[B z]) ((by unfold bw;rw[e1];rfl))
 ·have hf:=cr e1
  refine fO 21 [] Tryz.func183 rfl ?_
  repeat'(first|refine gO ?_|(conv=>whnf);first|with_reducible refine Bf.D (fun hq=>?_) (fun hq=>?_)|refine Cl.mk h1 ?_|refine Cl.mk (aJ _ _ _) ?_)
  all_goals exact R0 (fun z=>[B z]) ((by unfold bw;rw[e1,Bool.true_and];exact decide_eq_decide.2 (by omega)))
theorem rv (l:a8) (a:Int) (h:bw l a=true):ao Tryz.prog 330 false [.val (some 3) (a8.enc .imm l),.val none [I a]] .one [I (a - 16*l.Page)]:=by
 have h1:=oP l a;rw[h]at h1;unfold bw at h;simp only[I0,C0]at h;have hf:=cr h.1;refine fO 14 [] Tryz.func330 rfl ?_
 repeat'(first|refine gO ?_|(conv=>whnf);first|refine Cl.mk h1 ?_)
 exact R0 (fun z=>[I z]) (by omega)
theorem ry (l:a8) (a:Int) (h:bw l a=true):ao Tryz.prog 184 false [.val (some 3) (a8.enc .imm l),.val none [I a]] .one [I (a - 16*l.Page)]:=by
 have h1:=oB l a;rw[h]at h1;unfold bw at h;simp only[I0,C0]at h;have hf:=cr h.1;refine fO 14 [] Tryz.func184 rfl ?_
 repeat'(first|refine gO ?_|(conv=>whnf);first|refine Cl.mk h1 ?_)
 exact R0 (fun z=>[I z]) (by omega)
theorem om {m:aH} {i:Nat} (hi:i<m.Buffers.length) (h:fZ m i=false):bD m=false:=by
 unfold bD;rw[ce hi h];simp
theorem vD {m:aH} (h:¬(1<=m.Buffers.length/\m.Buffers.length<=4/\m.Inbox.length=m.Buffers.length)):bD m=false:=by
 unfold bD;rw[P0 h];rfl
theorem uG {m:aH} (h1:1<=m.Buffers.length/\m.Buffers.length<=4/\m.Inbox.length=m.Buffers.length) (h2:cA m.Buffers.length (fZ m)=true):bD m=decide (bp m m.Buffers.length<=30):=by
 unfold bD;rw[O0 h1,h2];rfl
theorem ku (m:aH) (hs:aH.sml m):ao Tryz.prog 206 false [.val (some 2) (aH.enc .imm m)] .one [B (bD m)]:=by
 have hl1:m.Buffers.length<=1048576:=hs.1.1;have hl2:m.Inbox.length<=1048576:=hs.2.1;by_cases hn:1<=m.Buffers.length/\m.Buffers.length<=4/\m.Inbox.length=m.Buffers.length
 ·refine fO 92 [(19,15,[75,76,77,78,79,80,81,82,83,84,85,86,87,88,89])] Tryz.func206 rfl ?_
  repeat'(first|refine gA ?_|(conv=>whnf);first|with_reducible (first|refine Bf.D (fun hq=>?_) (fun hq=>?_)|refine Bf.N (fun hq=>?_) (fun hq=>?_))|refine Cl.mk (aE _ 1 4) ?_)
  (conv=>whnf)
  refine Lp.mk (ι:=Nat) (fun i=>[(1,.hold .box (aH.enc .imm m)),(3,.hold .one [I (m.Buffers.length)]),(4,.hold .one [I (bp m i)]),(5,.hold .one [I ((i:Nat):Int)])]) (fun i=>i<=m.Buffers.length/\cA i (fZ m)=true/\0<=bp m i/\bp m i<=2097152*i) (fun i=>m.Buffers.length - i) (0) ?_ (⟨Q0 _,rfl,by simp[bp],by simp[bp]⟩) fun i hi=>?_
  ·exact wB
  obtain⟨hi,ai,s0,s1⟩:=hi;by_cases li:i<m.Buffers.length
  ·have hx:=ah li
   have hy:=ah (xs:=m.Inbox) (i:=i) (by omega);have hb1:(nth m.Buffers i).length<=1048576:=(hs.1.2 _ (am li)).1;have hb2:(nth m.Inbox i).length<=1048576:=hs.2.2 _ (am (by omega))
   repeat'(first|refine gD ?_|fail)
   (conv=>whnf)
   refine Lp.mk (ι:=Nat) (fun k=>[(1,.hold .box (aH.enc .imm m)),(3,.hold .one [I (m.Buffers.length)]),(4,.hold .one [I (bp m i)]),(5,.hold .one [I ((i:Nat):Int)]),(6,.hold .one [I ((k:Nat):Int)])]) (fun k=>k<=(nth m.Buffers i).length/\((nth m.Buffers i).take k).all (mi m.Buffers.length)=true) (fun k=>(nth m.Buffers i).length - k) (0) ?_ (⟨Q0 _,rfl⟩) fun k hk=>?_
   ·exact wB
   obtain⟨hk,ak⟩:=hk;by_cases lk:k<(nth m.Buffers i).length
   ·have hz:=ah lk
    repeat'(first|refine gD ?_|(conv=>whnf);first|with_reducible (first|refine Ix.nat (aa hx) ?_|refine Ix.nat (aa hz) ?_|refine Bf.D (fun hq=>?_) (fun hq=>?_))|refine Cl.mk (aE _ 0 _) ?_)
    all_goals first
     | exact R0 (fun z=>[B z]) ((om li (by unfold fZ;rw[dU hz (by unfold mi;exact P0 (by omega))];rfl)).symm)
     | ((conv=>whnf);refine Nx.mk (k+1) ⟨by omega,cy hz ak (by unfold mi;exact O0 (by omega))⟩ (by omega) ?_;(exact wB))
   ·have ae:=gg (by omega) ak
    repeat'(first|refine gD ?_|(conv=>whnf);first|with_reducible refine Ix.nat (aa hx) ?_)
    (conv=>whnf)
    refine Lp.mk (ι:=Nat) (fun k2=>[(1,.hold .box (aH.enc .imm m)),(3,.hold .one [I (m.Buffers.length)]),(4,.hold .one [I (bp m i)]),(5,.hold .one [I ((i:Nat):Int)]),(8,.hold .one [I ((k2:Nat):Int)])]) (fun k2=>k2<=(nth m.Inbox i).length/\((nth m.Inbox i).take k2).all LI=true) (fun k2=>(nth m.Inbox i).length - k2) (0) ?_ (⟨Q0 _,rfl⟩) fun k2 hk2=>?_
    ·exact wB
    obtain⟨hk2,ak2⟩:=hk2;by_cases lk2:k2<(nth m.Inbox i).length
    ·have hz:=ah lk2
     repeat'(first|refine gD ?_|(conv=>whnf);first|with_reducible (first|refine Ix.nat (aa hy) ?_|refine Ix.nat (aa hz) ?_|refine Bf.D (fun hq=>?_) (fun hq=>?_)))
     all_goals first
      | exact R0 (fun z=>[B z]) ((om li (by unfold fZ;rw[dU hz (by unfold LI;exact P0 (by omega))];simp)).symm)
      | ((conv=>whnf);refine Nx.mk (k2+1) ⟨by omega,cy hz ak2 (by unfold LI;exact O0 (by omega))⟩ (by omega) ?_;(exact wB))
    ·have ae2:=gg (by omega) ak2
     have hsum:bp m (i+1)=bp m i+((nth m.Buffers i).length+(nth m.Inbox i).length):=rfl;have hsum2:bp m (i+1)=bp m i+(nth m.Buffers i).length+(nth m.Inbox i).length:=by rw[hsum];omega
     repeat'(first|refine gD ?_|(conv=>whnf);first|with_reducible (first|refine Ix.nat (aa hx) ?_|refine Ix.nat (aa hy) ?_))
     ((conv=>whnf);refine Nx.mk (i+1) ⟨by omega,bK ai (by unfold fZ;rw[ae,ae2];rfl),by omega,by omega⟩ (by omega) ?_)
     rw[hsum2];exact wB
  ·obtain rfl:i=m.Buffers.length:=by omega
   repeat'(first|refine gD ?_|fail)
   exact R0 (fun z=>[B z]) ((uG hn ai).symm)
 ·refine fO 92 [(19,15,[75,76,77,78,79,80,81,82,83,84,85,86,87,88,89])] Tryz.func206 rfl ?_
  repeat'(first|refine gO ?_|(conv=>whnf);first|with_reducible (first|refine Bf.D (fun hq=>?_) (fun hq=>?_)|refine Bf.N (fun hq=>?_) (fun hq=>?_))|refine Cl.mk (aE _ 1 4) ?_)
  all_goals first
   | exact R0 (fun z=>[B z]) ((vD hn).symm)
   |(exfalso;omega)
theorem sW (m:aH) (hs:aH.sml m):ao Tryz.prog 70 false [.val (some 2) (aH.enc .imm m)] .one [B (bD m)]:=by
 have hl1:m.Buffers.length<=1048576:=hs.1.1;have hl2:m.Inbox.length<=1048576:=hs.2.1;by_cases hn:1<=m.Buffers.length/\m.Buffers.length<=4/\m.Inbox.length=m.Buffers.length
 ·refine fO 82 [(20,15,[64,65,66,67,68,69,70,71,72,73,74,75,76,77,78])] Tryz.func70 rfl ?_
  repeat'(first|refine gA ?_|(conv=>whnf);first|with_reducible (first|refine Bf.D (fun hq=>?_) (fun hq=>?_)|refine Bf.N (fun hq=>?_) (fun hq=>?_))|refine Cl.mk (aJ _ 1 4) ?_)
  (conv=>whnf)
  refine Lp.mk (ι:=Nat) (fun i=>[(1,.hold .box (aH.enc .imm m)),(3,.hold .one [I (m.Buffers.length)]),(4,.hold .one [I (bp m i)]),(25,.hold .one [I (m.Buffers.length)]),(26,.hold .one [I ((i:Nat):Int)])]) (fun i=>i<=m.Buffers.length/\cA i (fZ m)=true/\0<=bp m i/\bp m i<=2097152*i) (fun i=>m.Buffers.length - i) (0) ?_ (⟨Q0 _,rfl,by simp[bp],by simp[bp]⟩) fun i hi=>?_
  ·exact wB
  obtain⟨hi,ai,s0,s1⟩:=hi;by_cases li:i<m.Buffers.length
  ·have hx:=ah li
   have hy:=ah (xs:=m.Inbox) (i:=i) (by omega);have hb1:(nth m.Buffers i).length<=1048576:=(hs.1.2 _ (am li)).1;have hb2:(nth m.Inbox i).length<=1048576:=hs.2.2 _ (am (by omega))
   repeat'(first|refine gD ?_|(conv=>whnf);first|with_reducible refine Ix.nat (aa hx) ?_)
   (conv=>whnf)
   refine Lp.mk (ι:=Nat) (fun k=>[(1,.hold .box (aH.enc .imm m)),(3,.hold .one [I (m.Buffers.length)]),(4,.hold .one [I (bp m i)]),(5,.hold .one [I ((i:Nat):Int)]),(25,.hold .one [I (m.Buffers.length)]),(26,.hold .one [I ((i:Nat):Int)]),(33,.hold .one (co .imm (nth m.Buffers i))),(34,.hold .one [I ((nth m.Buffers i).length)]),(35,.hold .one [I ((k:Nat):Int)])]) (fun k=>k<=(nth m.Buffers i).length/\((nth m.Buffers i).take k).all (mi m.Buffers.length)=true) (fun k=>(nth m.Buffers i).length - k) (0) ?_ (⟨Q0 _,rfl⟩) fun k hk=>?_
   ·exact wB
   obtain⟨hk,ak⟩:=hk;by_cases lk:k<(nth m.Buffers i).length
   ·have hz:=ah lk
    repeat'(first|refine gD ?_|(conv=>whnf);first|with_reducible (first|refine Ix.nat (aa hx) ?_|refine Ix.nat (aa hz) ?_|refine Bf.D (fun hq=>?_) (fun hq=>?_))|refine Cl.mk (aJ _ 0 _) ?_)
    all_goals first
     | exact R0 (fun z=>[B z]) ((om li (by unfold fZ;rw[dU hz (by unfold mi;exact P0 (by omega))];rfl)).symm)
     | ((conv=>whnf);refine Nx.mk (k+1) ⟨by omega,cy hz ak (by unfold mi;exact O0 (by omega))⟩ (by omega) ?_;(exact wB))
   ·have ae:=gg (by omega) ak
    repeat'(first|refine gD ?_|(conv=>whnf);first|with_reducible (first|refine Ix.nat (aa hx) ?_|refine Ix.nat (aa hy) ?_))
    (conv=>whnf)
    refine Lp.mk (ι:=Nat) (fun k2=>[(1,.hold .box (aH.enc .imm m)),(3,.hold .one [I (m.Buffers.length)]),(4,.hold .one [I (bp m i)]),(5,.hold .one [I ((i:Nat):Int)]),(25,.hold .one [I (m.Buffers.length)]),(26,.hold .one [I ((i:Nat):Int)]),(55,.hold .one (aD .imm (nth m.Inbox i))),(56,.hold .one [I ((nth m.Inbox i).length)]),(57,.hold .one [I ((k2:Nat):Int)])]) (fun k2=>k2<=(nth m.Inbox i).length/\((nth m.Inbox i).take k2).all LI=true) (fun k2=>(nth m.Inbox i).length - k2) (0) ?_ (⟨Q0 _,rfl⟩) fun k2 hk2=>?_
    ·exact wB
    obtain⟨hk2,ak2⟩:=hk2;by_cases lk2:k2<(nth m.Inbox i).length
    ·have hz:=ah lk2
     repeat'(first|refine gD ?_|(conv=>whnf);first|with_reducible (first|refine Ix.nat (aa hy) ?_|refine Ix.nat (aa hz) ?_|refine Bf.D (fun hq=>?_) (fun hq=>?_)))
     all_goals first
      | exact R0 (fun z=>[B z]) ((om li (by unfold fZ;rw[dU hz (by unfold LI;exact P0 (by omega))];simp)).symm)
      | ((conv=>whnf);refine Nx.mk (k2+1) ⟨by omega,cy hz ak2 (by unfold LI;exact O0 (by omega))⟩ (by omega) ?_;(exact wB))
    ·have ae2:=gg (by omega) ak2
     have hsum:bp m (i+1)=bp m i+((nth m.Buffers i).length+(nth m.Inbox i).length):=rfl
     repeat'(first|refine gD ?_|(conv=>whnf);first|with_reducible (first|refine Ix.nat (aa hx) ?_|refine Ix.nat (aa hy) ?_))
     ((conv=>whnf);refine Nx.mk (i+1) ⟨by omega,bK ai (by unfold fZ;rw[ae,ae2];rfl),by omega,by omega⟩ (by omega) ?_)
     rw[hsum];exact wB
  ·obtain rfl:i=m.Buffers.length:=by omega
   repeat'(first|refine gD ?_|fail)
   exact R0 (fun z=>[B z]) ((uG hn ai).symm)
 ·refine fO 82 [(20,15,[64,65,66,67,68,69,70,71,72,73,74,75,76,77,78])] Tryz.func70 rfl ?_
  repeat'(first|refine gO ?_|(conv=>whnf);first|with_reducible (first|refine Bf.D (fun hq=>?_) (fun hq=>?_)|refine Bf.N (fun hq=>?_) (fun hq=>?_))|refine Cl.mk (aJ _ 1 4) ?_)
  all_goals first
   | exact R0 (fun z=>[B z]) ((vD hn).symm)
   |(exfalso;omega)
theorem ya {s:au} {a:Int} (h:cw s a=false):S2 (gT s a)=[I (-1),I (-1)]:=by
 unfold gT;rw[h];rfl
theorem uT {s:au} {a:Int} (h:cw s a=true):S2 (gT s a)=[I ((a - 16*s.Page) / csz s.Class),I ((a - 16*s.Page) % csz s.Class)]:=by
 unfold gT;rw[h];rfl
theorem qf {s:au} {a:Int} (h:cw s a=true):aY s=true/\0<=(a - 16*s.Page) / csz s.Class/\(a - 16*s.Page) / csz s.Class<=15:=by
 unfold cw at h;simp only[I0,C0]at h;have hc:=aF h.1;refine⟨h.1,?_⟩;rcases cg ⟨hc.2.2.1,hc.2.2.2⟩ with e|e|e|e<;>rw[e]<;>omega
theorem mb {sp:List au} {la:List a8} {a:Int} {i:Nat} (hi:i<sp.length) (h:cw (nth sp i) a=true) (ha:∀ (j:Nat) (z:au),j<i->sp[j]? = some z->cw z a=false):denotes sp la a=ov i (nth sp i) a:=by
 unfold denotes;rw[tL (pr:=(cw · a)) (ah hi) h ha]
theorem k7 {sp:List au} {la:List a8} {a:Int} {i n:Nat} (hn:sp.length<=n) (hs:∀ (j:Nat) (z:au),j<n->sp[j]? = some z->cw z a=false) (hi:i<la.length) (h:bw (nth la i) a=true) (ha:∀ (j:Nat) (z:a8),j<i->la[j]? = some z->bw z a=false) :
  denotes sp la a = ⟨3,i,0,a - 16*(nth la i).Page⟩:=by
 unfold denotes;rw[wy (pr:=(cw · a)) hn hs,tL (pr:=(bw · a)) (ah hi) h ha]
theorem wj {sp:List au} {la:List a8} {a:Int} {n k:Nat} (hn:sp.length<=n) (hs:∀ (j:Nat) (z:au),j<n->sp[j]? = some z->cw z a=false) (hk:la.length<=k) (ha:∀ (j:Nat) (z:a8),j<k->la[j]? = some z->bw z a=false):denotes sp la a = ⟨0,0,0,0⟩:=by
 unfold denotes;rw[wy (pr:=(cw · a)) hn hs,wy (pr:=(bw · a)) hk ha]
theorem lK (sp:List au) (la:List a8) (a:Int) (hs1:dt sp) (hs2:dq la) (hlay:bk sp la=true) (hw:l9 a):ao Tryz.prog 275 false [.val none (b6 .imm sp),.val none (bX .imm la),.val none [I a]] .agg (i7.enc .own (denotes sp la a)):=by
 have hl1:=hs1.1;have hl2:=hs2.1;have h0:=kA sp la hs1 hs2;rw[hlay]at h0;refine fO 67 [] Tryz.func275 rfl ?_ (.inr (i7.enc_fr _))
 repeat'(first|refine gO ?_|(conv=>whnf);first|refine Cl.mk h0 ?_)
 (conv=>whnf)
 refine Lp.mk (ι:=Nat) (fun i=>[(0,.hold .one (b6 .imm sp)),(1,.hold .one (bX .imm la)),(2,.hold .one [I (a)]),(6,.hold .box ([I 0,I 0,I 0,I 0])),(7,.hold .one [I ((i:Nat):Int)])]) (fun i=>i<=sp.length/\∀ (j:Nat) (z:au),j<i->sp[j]? = some z->cw z a=false) (fun i=>sp.length - i) (0) ?_ (⟨Q0 _,fun j z hj=>by omega⟩) fun i hi=>?_
 ·exact wB
 obtain⟨hi,ai⟩:=hi;by_cases li:i<sp.length
 ·have hx:=ah li
  have h1:=sw (nth sp i) a hw;cases e1:cw (nth sp i) a with
  | false=>
   rw[ya e1]at h1
   repeat'(first|refine gD ?_|(conv=>whnf);first|with_reducible (first|refine Ix.nat (aa hx) ?_|refine Bf.D (fun hq=>?_) (fun hq=>?_))|refine Cl.mk h1 ?_)
   ((conv=>whnf);refine Nx.mk (i+1) ⟨by omega,dc (pr:=(cw · a)) hx e1 ai⟩ (by omega) ?_;(exact wB))
  | true=>
   rw[uT e1]at h1;obtain⟨f1,f2,f3⟩:=qf e1;have h2:=gX (nth sp i).Bits ((a - 16*(nth sp i).Page) / csz (nth sp i).Class) (dC f1).2;cases e2:aT (nth sp i).Bits ((a - 16*(nth sp i).Page) / csz (nth sp i).Class)<;>rw[e2]at h2
   all_goals
    repeat'(first|refine gD ?_|(conv=>whnf);first|with_reducible (first|refine Ix.nat (aa hx) ?_|refine Bf.D (fun hq=>?_) (fun hq=>?_))|refine Cl.mk h1 ?_|refine Cl.mk h2 ?_)
    all_goals(rw[mb li e1 ai];unfold ov;rw[e2];rfl)
 ·repeat'(first|refine gD ?_|fail)
  (conv=>whnf)
  refine Lp.mk (ι:=Nat) (fun k=>[(1,.hold .one (bX .imm la)),(2,.hold .one [I (a)]),(6,.hold .box ([I 0,I 0,I 0,I 0])),(11,.hold .one [I ((k:Nat):Int)])]) (fun k=>k<=la.length/\∀ (j:Nat) (z:a8),j<k->la[j]? = some z->bw z a=false) (fun k=>la.length - k) (0) ?_ (⟨Q0 _,fun j z hj=>by omega⟩) fun k hk=>?_
  ·exact wB
  obtain⟨hk,ak⟩:=hk;by_cases lk:k<la.length
  ·have hx:=ah lk
   have h1:=oP (nth la k) a;cases e1:bw (nth la k) a<;>rw[e1]at h1
   ·repeat'(first|refine gD ?_|(conv=>whnf);first|with_reducible refine Ix.nat (aa hx) ?_|refine Cl.mk h1 ?_)
    ((conv=>whnf);refine Nx.mk (k+1) ⟨by omega,dc (pr:=(bw · a)) hx e1 ak⟩ (by omega) ?_;(exact wB))
   ·repeat'(first|refine gD ?_|(conv=>whnf);first|with_reducible refine Ix.nat (aa hx) ?_|refine Cl.mk h1 ?_|refine Cl.mk (rv (nth la k) a e1) ?_)
    rw[k7 (n:=i) (by omega) ai lk e1 ak];rfl
  ·repeat'(first|refine gD ?_|fail)
   rw[wj (n:=i) (k:=k) (by omega) ai (by omega) ak];rfl
theorem qi (sp:List au) (la:List a8) (a:Int) (hs1:dt sp) (hs2:dq la):ao Tryz.prog 91 false [.val none (b6 .imm sp),.val none (bX .imm la),.val none [I a]] .agg (i7.enc .own (denotes sp la a)):=by
 have hl1:=hs1.1;have hl2:=hs2.1;refine fO 56 [] Tryz.func91 rfl ?_ (.inr (i7.enc_fr _))
 repeat'(first|refine gO ?_|fail)
 (conv=>whnf)
 refine Lp.mk (ι:=Nat) (fun i=>[(1,.hold .one (bX .imm la)),(2,.hold .one [I (a)]),(6,.hold .box ([I 0,I 0,I 0,I 0])),(14,.hold .one (b6 .imm sp)),(15,.hold .one [I (sp.length)]),(16,.hold .one [I ((i:Nat):Int)])]) (fun i=>i<=sp.length/\∀ (j:Nat) (z:au),j<i->sp[j]? = some z->cw z a=false) (fun i=>sp.length - i) (0) ?_ (⟨Q0 _,fun j z hj=>by omega⟩) fun i hi=>?_
 ·exact wB
 obtain⟨hi,ai⟩:=hi;by_cases li:i<sp.length
 ·have hx:=ah li
  have h1:=B3 (nth sp i) a;cases e1:cw (nth sp i) a with
  | false=>
   rw[ya e1]at h1
   repeat'(first|refine gD ?_|(conv=>whnf);first|with_reducible (first|refine Ix.nat (aa hx) ?_|refine Bf.D (fun hq=>?_) (fun hq=>?_))|refine Cl.mk h1 ?_)
   ((conv=>whnf);refine Nx.mk (i+1) ⟨by omega,dc (pr:=(cw · a)) hx e1 ai⟩ (by omega) ?_;(exact wB))
  | true=>
   rw[uT e1]at h1;obtain⟨f1,f2,f3⟩:=qf e1;have h2:=jf (nth sp i).Bits ((a - 16*(nth sp i).Page) / csz (nth sp i).Class) (dC f1).2;cases e2:aT (nth sp i).Bits ((a - 16*(nth sp i).Page) / csz (nth sp i).Class)<;>rw[e2]at h2
   all_goals
    repeat'(first|refine gD ?_|(conv=>whnf);first|with_reducible (first|refine Ix.nat (aa hx) ?_|refine Bf.D (fun hq=>?_) (fun hq=>?_))|refine Cl.mk h1 ?_|refine Cl.mk h2 ?_)
    all_goals(rw[mb li e1 ai];unfold ov;rw[e2];rfl)
 ·repeat'(first|refine gD ?_|fail)
  (conv=>whnf)
  refine Lp.mk (ι:=Nat) (fun k=>[(2,.hold .one [I (a)]),(6,.hold .box ([I 0,I 0,I 0,I 0])),(39,.hold .one (bX .imm la)),(40,.hold .one [I (la.length)]),(41,.hold .one [I ((k:Nat):Int)])]) (fun k=>k<=la.length/\∀ (j:Nat) (z:a8),j<k->la[j]? = some z->bw z a=false) (fun k=>la.length - k) (0) ?_ (⟨Q0 _,fun j z hj=>by omega⟩) fun k hk=>?_
  ·exact wB
  obtain⟨hk,ak⟩:=hk;by_cases lk:k<la.length
  ·have hx:=ah lk
   have h1:=oB (nth la k) a;cases e1:bw (nth la k) a<;>rw[e1]at h1
   ·repeat'(first|refine gD ?_|(conv=>whnf);first|with_reducible refine Ix.nat (aa hx) ?_|refine Cl.mk h1 ?_)
    ((conv=>whnf);refine Nx.mk (k+1) ⟨by omega,dc (pr:=(bw · a)) hx e1 ak⟩ (by omega) ?_;(exact wB))
   ·repeat'(first|refine gD ?_|(conv=>whnf);first|with_reducible refine Ix.nat (aa hx) ?_|refine Cl.mk h1 ?_|refine Cl.mk (ry (nth la k) a e1) ?_)
    rw[k7 (n:=i) (by omega) ai lk e1 ak];rfl
  ·repeat'(first|refine gD ?_|fail)
   rw[wj (n:=i) (k:=k) (by omega) ai (by omega) ak];rfl
section
variable {α:Type}
def y4 (ag:Option Nat) (e:α->List C) (pr:α->Bool) (xs:List α):List (Option Nat × List C)->Kd->List C->Prop:=fun L k rcs=>∃ x,x∈xs/\L=[(ag,e x)]/\k=.one/\rcs=[B (pr x)]
end
theorem tA (xs:List a7) (pr:a7->Bool) (hl:xs.length<=9223372036854775807):ao Tryz.prog 311 false [.val none (bB .imm xs),.fn (mA Tryz.prog (y4 (some 2) (a7.enc .imm) pr xs))] .one [I (du pr xs)]:=by
 refine fO 19 [] Tryz.func311 rfl ?_
 repeat'(first|refine gO ?_|fail)
 (conv=>whnf)
 refine Lp.mk (ι:=Nat) (fun i=>[(0,.hold .one (bB .imm xs)),(1,.fv (mA Tryz.prog (y4 (some 2) (a7.enc .imm) pr xs))),(7,.hold .one [I xs.length]),(8,.hold .one [I (i:Nat)])]) (fun i=>i<=xs.length/\∀ (j:Nat) (z:a7),j<i->xs[j]? = some z->pr z=false) (fun i=>xs.length - i) 0 ?_ ⟨Q0 _,fun j z hj=>by omega⟩ fun i hi=>?_
 ·exact wB
 ·obtain⟨hi,ha⟩:=hi
  by_cases hlt:i<xs.length
  ·obtain⟨y,hy⟩ : ∃ y,xs[i]? = some y:=⟨_,Q1 hlt⟩
   repeat'(first|refine gD ?_|(conv=>whnf);first|with_reducible refine Ix.nat (aa hy) ?_|refine Fv.mk (k:=.one) (rcs:=[B (pr y)]) ⟨y,O1 hy,rfl,rfl,rfl⟩ ?_|refine Bf.P (fun hq=>?_) (fun hq=>?_))
   ·exact R0 (fun z=>[I z]) (dD hy ‹_› ha).symm
   ·(conv=>whnf)
    refine Nx.mk (i+1) ⟨by omega,fun j z hj hz=>?_⟩ (by omega) ?_
    ·rcases Nat.lt_or_ge j i with h1|h1
     ·exact ha j z h1 hz
     ·obtain rfl:j=i:=by omega
      rw[hy]at hz;cases hz;assumption
    ·exact wB
  ·repeat'(first|refine gD ?_|fail)
   exact R0 (fun z=>[I z]) (fE (by omega) ha).symm
theorem pu (xs:List a7) (pr:a7->Bool) (hl:xs.length<=9223372036854775807):ao Tryz.prog 245 false [.val none (bB .imm xs),.fn (mA Tryz.prog (y4 (some 2) (a7.enc .imm) pr xs))] .one [B (xs.any pr)]:=by
 refine fO 9 [] Tryz.func245 rfl ?_
 repeat'(first|refine gO ?_|(conv=>whnf);first|refine Cl.mk (tA xs pr hl) ?_)
 exact R0 (fun z=>[B z]) (jz pr xs)
theorem sL (r:a7) (page:Int):ao Tryz.prog 246 false [.val (some 2) (a7.enc .imm r),.ptr [I page]] .one [B (oW page r)]:=by
 refine fO 17 [] Tryz.func246 rfl ?_
 repeat'(first|refine gO ?_|(conv=>whnf);first|with_reducible refine Bf.D (fun hq=>?_) (fun hq=>?_)|refine Wr.mk rfl ?_)
 all_goals exact R0 (fun z=>[B z]) (by unfold oW;first|(rw[O0 (by assumption:r.At<=page)];simp;done)|(rw[P0 (by assumption:¬r.At<=page)];rfl))
theorem wQ (xs:List a7) (page:Int) (hl:xs.length<=9223372036854775807):ao Tryz.prog 164 false [.val none (bB .imm xs),.val none [I page]] .one [B (xs.any (oW page))]:=by
 refine fO 8 [] Tryz.func164 rfl ?_
 repeat'(first|refine gO ?_|(conv=>whnf);first|refine Cq.mk (y4 (some 2) (a7.enc .imm) (oW page) xs) (sL default page).has (fun L k rcs hQ=>?_) ?_|refine Cl.mk (pu xs (oW page) hl) ?_)
 ·obtain⟨x,-,rfl,rfl,rfl⟩:=hQ
  exact sL x page
 ·rfl
theorem tF (xs:List aL) (pr:aL->Bool) (hl:xs.length<=9223372036854775807):ao Tryz.prog 323 false [.val none (cz .imm xs),.fn (mA Tryz.prog (y4 (some 3) (aL.enc .imm) pr xs))] .one [I (du pr xs)]:=by
 refine fO 19 [] Tryz.func323 rfl ?_
 repeat'(first|refine gO ?_|fail)
 (conv=>whnf)
 refine Lp.mk (ι:=Nat) (fun i=>[(0,.hold .one (cz .imm xs)),(1,.fv (mA Tryz.prog (y4 (some 3) (aL.enc .imm) pr xs))),(7,.hold .one [I xs.length]),(8,.hold .one [I (i:Nat)])]) (fun i=>i<=xs.length/\∀ (j:Nat) (z:aL),j<i->xs[j]? = some z->pr z=false) (fun i=>xs.length - i) 0 ?_ ⟨Q0 _,fun j z hj=>by omega⟩ fun i hi=>?_
 ·exact wB
 ·obtain⟨hi,ha⟩:=hi
  by_cases hlt:i<xs.length
  ·obtain⟨y,hy⟩ : ∃ y,xs[i]? = some y:=⟨_,Q1 hlt⟩
   repeat'(first|refine gD ?_|(conv=>whnf);first|with_reducible refine Ix.nat (aa hy) ?_|refine Fv.mk (k:=.one) (rcs:=[B (pr y)]) ⟨y,O1 hy,rfl,rfl,rfl⟩ ?_|refine Bf.P (fun hq=>?_) (fun hq=>?_))
   ·exact R0 (fun z=>[I z]) (dD hy ‹_› ha).symm
   ·(conv=>whnf)
    refine Nx.mk (i+1) ⟨by omega,dc hy (by assumption) ha⟩ (by omega) ?_;exact wB
  ·repeat'(first|refine gD ?_|fail)
   exact R0 (fun z=>[I z]) (fE (by omega) ha).symm
theorem pF (xs:List aL) (pr:aL->Bool) (hl:xs.length<=9223372036854775807):ao Tryz.prog 252 false [.val none (cz .imm xs),.fn (mA Tryz.prog (y4 (some 3) (aL.enc .imm) pr xs))] .one [B (xs.any pr)]:=by
 refine fO 9 [] Tryz.func252 rfl ?_
 repeat'(first|refine gO ?_|(conv=>whnf);first|refine Cl.mk (tF xs pr hl) ?_)
 exact R0 (fun z=>[B z]) (jz pr xs)
theorem vb (xs:List au) (pr:au->Bool) (hl:xs.length<=9223372036854775807):ao Tryz.prog 99 false [.val none (b6 .imm xs),.fn (mA Tryz.prog (y4 (some 3) (au.enc .imm) pr xs))] .one [I (du pr xs)]:=by
 refine fO 19 [] Tryz.func99 rfl ?_
 repeat'(first|refine gO ?_|fail)
 (conv=>whnf)
 refine Lp.mk (ι:=Nat) (fun i=>[(0,.hold .one (b6 .imm xs)),(1,.fv (mA Tryz.prog (y4 (some 3) (au.enc .imm) pr xs))),(7,.hold .one [I xs.length]),(8,.hold .one [I (i:Nat)])]) (fun i=>i<=xs.length/\∀ (j:Nat) (z:au),j<i->xs[j]? = some z->pr z=false) (fun i=>xs.length - i) 0 ?_ ⟨Q0 _,fun j z hj=>by omega⟩ fun i hi=>?_
 ·exact wB
 ·obtain⟨hi,ha⟩:=hi
  by_cases hlt:i<xs.length
  ·obtain⟨y,hy⟩ : ∃ y,xs[i]? = some y:=⟨_,Q1 hlt⟩
   repeat'(first|refine gD ?_|(conv=>whnf);first|with_reducible refine Ix.nat (aa hy) ?_|refine Fv.mk (k:=.one) (rcs:=[B (pr y)]) ⟨y,O1 hy,rfl,rfl,rfl⟩ ?_|refine Bf.P (fun hq=>?_) (fun hq=>?_))
   ·exact R0 (fun z=>[I z]) (dD hy ‹_› ha).symm
   ·(conv=>whnf)
    refine Nx.mk (i+1) ⟨by omega,dc hy (by assumption) ha⟩ (by omega) ?_;exact wB
  ·repeat'(first|refine gD ?_|fail)
   exact R0 (fun z=>[I z]) (fE (by omega) ha).symm
theorem wZ (xs:List bJ) (pr:bJ->Bool) (hl:xs.length<=9223372036854775807):ao Tryz.prog 101 false [.val none (nz .imm xs),.fn (mA Tryz.prog (y4 (some 4) (bJ.enc .imm) pr xs))] .one [I (du pr xs)]:=by
 refine fO 19 [] Tryz.func101 rfl ?_
 repeat'(first|refine gO ?_|fail)
 (conv=>whnf)
 refine Lp.mk (ι:=Nat) (fun i=>[(0,.hold .one (nz .imm xs)),(1,.fv (mA Tryz.prog (y4 (some 4) (bJ.enc .imm) pr xs))),(7,.hold .one [I xs.length]),(8,.hold .one [I (i:Nat)])]) (fun i=>i<=xs.length/\∀ (j:Nat) (z:bJ),j<i->xs[j]? = some z->pr z=false) (fun i=>xs.length - i) 0 ?_ ⟨Q0 _,fun j z hj=>by omega⟩ fun i hi=>?_
 ·exact wB
 ·obtain⟨hi,ha⟩:=hi
  by_cases hlt:i<xs.length
  ·obtain⟨y,hy⟩ : ∃ y,xs[i]? = some y:=⟨_,Q1 hlt⟩
   repeat'(first|refine gD ?_|(conv=>whnf);first|with_reducible refine Ix.nat (aa hy) ?_|refine Fv.mk (k:=.one) (rcs:=[B (pr y)]) ⟨y,O1 hy,rfl,rfl,rfl⟩ ?_|refine Bf.P (fun hq=>?_) (fun hq=>?_))
   ·exact R0 (fun z=>[I z]) (dD hy ‹_› ha).symm
   ·(conv=>whnf)
    refine Nx.mk (i+1) ⟨by omega,dc hy (by assumption) ha⟩ (by omega) ?_;exact wB
  ·repeat'(first|refine gD ?_|fail)
   exact R0 (fun z=>[I z]) (fE (by omega) ha).symm
theorem r7 (xs:List bJ) (pr:bJ->Bool) (hl:xs.length<=9223372036854775807):ao Tryz.prog 168 false [.val none (nz .imm xs),.fn (mA Tryz.prog (y4 (some 4) (bJ.enc .imm) pr xs))] .one [B (xs.any pr)]:=by
 refine fO 9 [] Tryz.func168 rfl ?_
 repeat'(first|refine gO ?_|(conv=>whnf);first|refine Cl.mk (wZ xs pr hl) ?_)
 exact R0 (fun z=>[B z]) (jz pr xs)
theorem Lt {k:Nat} (hk:k<=3):IntKind.i64.wrap (1*2 ^ min ((k:Nat):Int).toNat IntKind.i64.bits)=csz (k:Nat):=by
 obtain rfl|rfl|rfl|rfl:k=0\/k=1\/k=2\/k=3:=by omega
 all_goals decide
theorem KM {k:Nat} (hk:k<=100):IntKind.u64.wrap (k:Nat)=(k:Nat):=by
 unfold IntKind.wrap;simp[IntKind.signed,IntKind.bits];omega
theorem zo {k:Nat} {z:Int} (hk:k<=3) (h:csz (k:Nat)<z) (hz:z<=8):k<=2:=by
 have e8:csz ((3:Nat):Int)=8:=by decide
 obtain rfl|rfl|rfl|rfl:k=0\/k=1\/k=2\/k=3:=by omega
 all_goals omega
theorem uj {k:Nat} {z:Int} (hk:k<=3) (h1:1<=z) (h2:k=0\/csz ((k - 1:Nat):Int)<z) (h3:¬csz (k:Nat)<z):aO z=(k:Nat):=by
 have e0:csz ((0:Nat):Int)=1:=by decide
 have e1:csz ((1:Nat):Int)=2:=by decide
 have e2:csz ((2:Nat):Int)=4:=by decide
 have e3:csz ((3:Nat):Int)=8:=by decide
 unfold aO;obtain rfl|rfl|rfl|rfl:k=0\/k=1\/k=2\/k=3:=by omega
 all_goals simp only[Nat.reduceSub,e0,e1,e2,e3]at h2 h3
 all_goals(repeat' split)<;>omega
theorem jg (z:Int):ao Tryz.prog 233 false [.val none [I z]] .one [I (aO z)]:=by
 refine fO 15 [] Tryz.func233 rfl ?_;by_cases hz:1<=z/\z<=8
 ·repeat'(first|refine gD ?_|(conv=>whnf);first|with_reducible refine Bf.D (fun hq=>?_) (fun hq=>?_)|refine Cl.mk (aE z 1 8) ?_)
  (conv=>whnf)
  refine Lp.mk (ι:=Nat) (fun k=>[(0,.hold .one [I (z)]),(3,.hold .one [I ((k:Nat):Int)])]) (fun k=>k<=3/\(k=0\/csz ((k - 1:Nat):Int)<z)) (fun k=>4 - k) (0) ?_ (⟨by omega,.inl rfl⟩) fun k hk=>?_
  ·exact wB
  obtain⟨hk,h2⟩:=hk
  repeat'(first|refine gO ?_|(conv=>whnf);first|with_reducible refine Bf.D (fun hq=>?_) (fun hq=>?_)|refine Wr.mk (KM (by omega)) ?_|refine Wr.mk (Lt hk) ?_|refine Cd.mk (by omega) ?_)
  all_goals first
   | exact R0 (fun z=>[I z]) (uj hk hz.1 h2 (by assumption)).symm
   | ((conv=>whnf);refine Nx.mk (k+1) ⟨by have:=zo hk (by assumption) hz.2;omega,.inr (by simpa using (by assumption:csz (k:Nat)<z))⟩ (by have:=zo hk (by assumption) hz.2;omega) ?_;(exact wB))
 ·repeat'(first|refine gD ?_|(conv=>whnf);first|with_reducible refine Bf.D (fun hq=>?_) (fun hq=>?_)|refine Cl.mk (aE z 1 8) ?_)
  all_goals exact R0 (fun z=>[I z]) (by unfold aO;(repeat' split)<;>omega)
theorem yR (z:Int):ao Tryz.prog 88 false [.val none [I z]] .one [I (aO z)]:=by
 refine fO 14 [] Tryz.func88 rfl ?_;by_cases hz:1<=z/\z<=8
 ·repeat'(first|refine gD ?_|(conv=>whnf);first|with_reducible refine Bf.D (fun hq=>?_) (fun hq=>?_)|refine Cl.mk (aJ z 1 8) ?_)
  (conv=>whnf)
  refine Lp.mk (ι:=Nat) (fun k=>[(0,.hold .one [I (z)]),(3,.hold .one [I ((k:Nat):Int)])]) (fun k=>k<=3/\(k=0\/csz ((k - 1:Nat):Int)<z)) (fun k=>4 - k) (0) ?_ (⟨by omega,.inl rfl⟩) fun k hk=>?_
  ·exact wB
  obtain⟨hk,h2⟩:=hk
  repeat'(first|refine gO ?_|(conv=>whnf);first|with_reducible refine Bf.D (fun hq=>?_) (fun hq=>?_)|refine Cl.mk (dy _) ?_)
  all_goals first
   | exact R0 (fun z=>[I z]) (uj hk hz.1 h2 (by assumption)).symm
   | ((conv=>whnf);refine Nx.mk (k+1) ⟨by have:=zo hk (by assumption) hz.2;omega,.inr (by simpa using (by assumption:csz (k:Nat)<z))⟩ (by have:=zo hk (by assumption) hz.2;omega) ?_;(exact wB))
 ·repeat'(first|refine gD ?_|(conv=>whnf);first|with_reducible refine Bf.D (fun hq=>?_) (fun hq=>?_)|refine Cl.mk (aJ z 1 8) ?_)
  all_goals exact R0 (fun z=>[I z]) (by unfold aO;(repeat' split)<;>omega)
theorem qT (q:bA) (a:Int) (hs:bA.sml q):ao Tryz.prog 272 false [.val (some 2) (bA.enc .imm q),.val none [I a]] .one [B (q.Lst.any (dJ a))]:=by
 have hl:q.Lst.length<=1048576:=hs.1;refine fO 21 [] Tryz.func272 rfl ?_
 repeat'(first|refine gO ?_|fail)
 (conv=>whnf)
 refine Lp.mk (ι:=Nat) (fun i=>[(1,.hold .one [I (a)]),(2,.hold .box (bA.enc .imm q)),(5,.hold .one [I ((i:Nat):Int)])]) (fun i=>i<=q.Lst.length/\(q.Lst.take i).any (dJ a)=false) (fun i=>q.Lst.length - i) (0) ?_ (⟨Q0 _,rfl⟩) fun i hi=>?_
 ·exact wB
 obtain⟨hi,ha⟩:=hi;by_cases li:i<q.Lst.length
 ·have hx:=ah li
  repeat'(first|refine gD ?_|(conv=>whnf);first|with_reducible (first|refine Ix.nat (aa hx) ?_|refine Bf.E (fun hq=>?_) (fun hq=>?_)))
  all_goals first
   | exact R0 (fun z=>[B z]) ((zd hx (O0 (by assumption))).symm)
   | ((conv=>whnf);refine Nx.mk (i+1) ⟨by omega,vS hx ha (P0 (by assumption))⟩ (by omega) ?_;(exact wB))
 ·repeat'(first|refine gD ?_|fail)
  exact R0 (fun z=>[B z]) ((Ft (by omega) ha).symm)
theorem gW (xs:List aL) (i:Nat):quarCells xs (i+1)=quarCells xs i+csz (nth xs i).Class:=rfl
theorem Ke (k:Int):0<=csz k/\csz k<=8:=by
 by_cases h:0<=k/\k<=3
 ·rcases cg h with e|e|e|e<;>rw[e]<;>decide
 ·unfold csz;rw[if_neg h];decide
theorem sV (xs:List aL) (hs:jA xs):ao Tryz.prog 273 false [.val none (cz .imm xs)] .one [I (quarCells xs xs.length)]:=by
 have hl:=hs.1;refine fO 20 [] Tryz.func273 rfl ?_
 repeat'(first|refine gO ?_|fail)
 (conv=>whnf)
 refine Lp.mk (ι:=Nat) (fun i=>[(0,.hold .one (cz .imm xs)),(3,.hold .one [I (quarCells xs i)]),(4,.hold .one [I ((i:Nat):Int)])]) (fun i=>i<=xs.length/\0<=quarCells xs i/\quarCells xs i<=8*i) (fun i=>xs.length - i) (0) ?_ (⟨Q0 _,by simp[quarCells],by simp[quarCells]⟩) fun i hi=>?_
 ·exact wB
 obtain⟨hi,s0,s1⟩:=hi;by_cases li:i<xs.length
 ·have hx:=ah li
  have hb:=Ke (nth xs i).Class;have hst:=gW xs i
  repeat'(first|refine gD ?_|(conv=>whnf);first|with_reducible refine Ix.nat (aa hx) ?_|refine Cl.mk (dx _) ?_)
  ((conv=>whnf);refine Nx.mk (i+1) ⟨by omega,by omega,by omega⟩ (by omega) ?_)
  rw[hst];exact wB
 ·repeat'(first|refine gD ?_|fail)
  obtain rfl:i=xs.length:=by omega
  rfl
theorem v6 (xs:List aL) (hs:jA xs):ao Tryz.prog 87 false [.val none (cz .imm xs)] .one [I (quarCells xs xs.length)]:=by
 have hl:=hs.1;refine fO 19 [] Tryz.func87 rfl ?_
 repeat'(first|refine gO ?_|fail)
 (conv=>whnf)
 refine Lp.mk (ι:=Nat) (fun i=>[(3,.hold .one [I (quarCells xs i)]),(6,.hold .one (cz .imm xs)),(7,.hold .one [I (xs.length)]),(8,.hold .one [I ((i:Nat):Int)])]) (fun i=>i<=xs.length/\0<=quarCells xs i/\quarCells xs i<=8*i) (fun i=>xs.length - i) (0) ?_ (⟨Q0 _,by simp[quarCells],by simp[quarCells]⟩) fun i hi=>?_
 ·exact wB
 obtain⟨hi,s0,s1⟩:=hi;by_cases li:i<xs.length
 ·have hx:=ah li
  have hb:=Ke (nth xs i).Class;have hst:=gW xs i
  repeat'(first|refine gD ?_|(conv=>whnf);first|with_reducible refine Ix.nat (aa hx) ?_|refine Cl.mk (dy _) ?_)
  ((conv=>whnf);refine Nx.mk (i+1) ⟨by omega,by omega,by omega⟩ (by omega) ?_)
  rw[hst];exact wB
 ·repeat'(first|refine gD ?_|fail)
  obtain rfl:i=xs.length:=by omega
  rfl
theorem xT (x0:aL):ao Tryz.prog 271 false [.val (some 3) (aL.enc .imm x0)] .one [B (decide (0<=x0.Class/\x0.Class<=3/\0<=x0.Addr/\0<=x0.Since))]:=by
 refine fO 16 [] Tryz.func271 rfl ?_
 repeat'(first|refine gO ?_|(conv=>whnf);first|with_reducible refine Bf.D (fun hq=>?_) (fun hq=>?_)|refine Cl.mk (aE _ 0 3) ?_)
 all_goals exact R0 (fun z=>[B z]) ((by first|(symm;exact P0 (by omega))|exact decide_eq_decide.2 (by omega)))
theorem J4 {xs:List aL} (hs:jA xs) (i:Nat):jA (xs.take i):=⟨by have:=hs.1;rw[C1];omega,fun _ _=>trivial⟩
theorem mY (q:bA) (hs:bA.sml q):ao Tryz.prog 207 false [.val (some 2) (bA.enc .imm q)] .one [B (f6 q)]:=by
 have hl:q.Lst.length<=1048576:=hs.1;refine fO 57 [(5,29,[17,18,19,20,21,22,23,24,25,26,27,28,29,30,31,32,33,34,35,36,37,38,39,40,41,42,43,44,45]),(7,11,[46,47,48,49,50,51,52,53,54,55,56])] Tryz.func207 rfl ?_
 repeat'(first|refine gO ?_|fail)
 (conv=>whnf)
 refine Lp.mk (ι:=Nat) (fun i=>[(1,.hold .box (bA.enc .imm q)),(3,.hold .one [I ((i:Nat):Int)])]) (fun i=>i<=q.Lst.length/\cA i (js q.Lst)=true) (fun i=>q.Lst.length - i) 0 ?_ ⟨Q0 _,rfl⟩ fun i hi=>?_
 ·exact wB
 obtain⟨hi,ai⟩:=hi;by_cases li:i<q.Lst.length
 ·have hx:=ah li
  have h1:=qT ⟨0,q.Lst.take i⟩ (nth q.Lst i).Addr (J4 hs i);cases e1:(q.Lst.take i).any (dJ (nth q.Lst i).Addr)<;>rw[show(bA.mk 0 (q.Lst.take i)).Lst.any (dJ (nth q.Lst i).Addr)=_ from e1]at h1
  all_goals
   repeat'(first|refine gD ?_|(conv=>whnf);first|with_reducible (first|refine Ix.nat (aa hx) ?_|refine Bf.D (fun hq=>?_) (fun hq=>?_))|refine Cl.mk (xT _) ?_|refine Ix.mk (by omega) (aa (f8 (by omega) li)) ?_|refine Sl.pre i rfl (by simp;omega) (fun r hr=>by obtain⟨z,-,rfl⟩:=O3.1 hr;rfl) (C3 ..) ?_|refine Cl.mk h1 ?_)
   all_goals first
    | exact R0 (fun z=>[B z]) ((by symm;unfold f6;rw[ce li (by unfold js;first|(rw[e1];simp;done)|(rw[P0 (by omega)];rfl))];rfl))
    | ((conv=>whnf);refine Nx.mk (i+1) ⟨by omega,bK ai (by unfold js;rw[e1,O0 (by omega)];rfl)⟩ (by omega) ?_;(exact wB))
 ·obtain rfl:i=q.Lst.length:=by omega
  repeat'(first|refine gD ?_|(conv=>whnf);first|with_reducible refine Bf.D (fun hq=>?_) (fun hq=>?_)|refine Cl.mk (aE _ 0 500) ?_|refine Cl.mk (sV q.Lst hs) ?_)
  all_goals exact R0 (fun z=>[B z]) ((by unfold f6;rw[ai];simp only[Bool.true_and];first|(symm;exact P0 (by omega))|exact decide_eq_decide.2 (by omega)))
theorem sI (x0:aL) (a:Int):ao Tryz.prog 253 false [.val (some 3) (aL.enc .imm x0),.ptr [I a]] .one [B (dJ a x0)]:=by
 refine fO 8 [] Tryz.func253 rfl ?_
 repeat'(first|refine gO ?_|fail)
 exact R0 (fun z=>[B z]) ((by unfold dJ;rw[U3];simp))
theorem xc (xs:List aL) (a:Int) (hl:xs.length<=9223372036854775807):ao Tryz.prog 179 false [.val none (cz .imm xs),.val none [I a]] .one [B (xs.any (dJ a))]:=by
 refine fO 8 [] Tryz.func179 rfl ?_
 repeat'(first|refine gO ?_|(conv=>whnf);first|refine Cq.mk (y4 (some 3) (aL.enc .imm) (dJ a) xs) (sI default a).has (fun L k rcs hQ=>?_) ?_|refine Cl.mk (pF xs (dJ a) hl) ?_)
 ·obtain⟨y,-,rfl,rfl,rfl⟩:=hQ
  exact sI y a
 ·rfl
def nQ (xs:List aL) (x0:aL):Bool:=decide (0<=x0.Class/\x0.Class<=3/\0<=x0.Addr/\0<=x0.Since/\(xs.length=0\/(nth xs (xs.length - 1)).Since<=x0.Since))&&!xs.any (dJ x0.Addr)
theorem yQ (xs:List aL) (x0:aL) (hl:xs.length<=1048576):ao Tryz.prog 166 false [.val none (cz .imm xs),.val (some 3) (aL.enc .imm x0)] .one [B (nQ xs x0)]:=by
 have h1:=xc xs x0.Addr (by omega);cases e1:xs.any (dJ x0.Addr)<;>rw[e1]at h1
 ·by_cases hz:xs.length=0
  ·refine fO 40 [(3,15,[25,26,27,28,29,30,31,32,33,34,35,36,37,38,39])] Tryz.func166 rfl ?_
   repeat'(first|refine gO ?_|(conv=>whnf);first|with_reducible (first|refine Bf.D (fun hq=>?_) (fun hq=>?_)|refine Bf.E (fun hq=>?_) (fun hq=>?_))|refine Cl.mk (eN _) ?_|refine Cl.mk h1 ?_)
   all_goals first
    | exact R0 (fun z=>[B z]) ((by unfold nQ;rw[e1,Bool.not_false,Bool.and_true];first|(symm;exact P0 (by omega))|(symm;exact O0 (by omega))|exact decide_eq_decide.2 (by omega)))
    |(exfalso;omega)
    |trace_state
  ·have hx:xs[((xs.length:Int) - 1).toNat]? = some (nth xs (xs.length - 1)):=by rw[show((xs.length:Int) - 1).toNat=xs.length - 1 by omega];exact ah (by omega)
   refine fO 40 [(3,15,[25,26,27,28,29,30,31,32,33,34,35,36,37,38,39])] Tryz.func166 rfl ?_
   repeat'(first|refine gO ?_|(conv=>whnf);first|with_reducible (first|refine Bf.D (fun hq=>?_) (fun hq=>?_)|refine Bf.E (fun hq=>?_) (fun hq=>?_))|refine Cl.mk (eN _) ?_|refine Cl.mk h1 ?_|refine Ix.mk (by omega) (aa hx) ?_)
   all_goals first
    | exact R0 (fun z=>[B z]) ((by unfold nQ;rw[e1,Bool.not_false,Bool.and_true];first|(symm;exact P0 (by omega))|(symm;exact O0 (by omega))|exact decide_eq_decide.2 (by omega)))
    |(exfalso;omega)
    |trace_state
 ·refine fO 40 [(3,15,[25,26,27,28,29,30,31,32,33,34,35,36,37,38,39])] Tryz.func166 rfl ?_
  repeat'(first|refine gO ?_|(conv=>whnf);first|with_reducible refine Bf.D (fun hq=>?_) (fun hq=>?_)|refine Cl.mk (eN _) ?_|refine Cl.mk h1 ?_)
  all_goals exact R0 (fun z=>[B z]) ((by unfold nQ;rw[e1];simp))
theorem DB {xs:List aL} {i:Nat} (hi:i<xs.length):nQ (xs.take i) (nth xs i)=js xs i:=by
 unfold nQ js;have h1:(xs.take i).length=i:=by rw[C1];omega
 rw[h1]
 congr 1
 refine decide_eq_decide.2 ?_;by_cases h0:i=0
 ·subst h0;simp
 ·have h2:nth (xs.take i) (i - 1)=nth xs (i - 1):=by
   have:=ah (xs:=xs) (i:=i - 1) (by omega);exact bn (by rw[List.getElem?_take_of_lt (by omega)];exact this)
  rw[h2]
theorem Ba (q:bA) (hs:bA.sml q):ao Tryz.prog 71 false [.val (some 2) (bA.enc .imm q)] .one [B (f6 q)]:=by
 have hl:q.Lst.length<=1048576:=hs.1;refine fO 32 [(4,7,[13,14,15,16,17,18,19]),(7,11,[21,22,23,24,25,26,27,28,29,30,31])] Tryz.func71 rfl ?_
 repeat'(first|refine gO ?_|fail)
 (conv=>whnf)
 refine Lp.mk (ι:=Nat) (fun i=>[(1,.hold .box (bA.enc .imm q)),(6,.hold .one (cz .imm q.Lst)),(7,.hold .one [I (q.Lst.length)]),(8,.hold .one [I ((i:Nat):Int)])]) (fun i=>i<=q.Lst.length/\cA i (js q.Lst)=true) (fun i=>q.Lst.length - i) 0 ?_ ⟨Q0 _,rfl⟩ fun i hi=>?_
 ·exact wB
 obtain⟨hi,ai⟩:=hi;by_cases li:i<q.Lst.length
 ·have hx:=ah li
  have h1:=yQ (q.Lst.take i) (nth q.Lst i) (by rw[C1];omega);rw[DB li]at h1;cases e1:js q.Lst i<;>rw[e1]at h1
  all_goals
   repeat'(first|refine gD ?_|(conv=>whnf);first|with_reducible refine Ix.nat (aa hx) ?_|refine Sl.pre i rfl (by simp;omega) (fun r hr=>by obtain⟨z,-,rfl⟩:=O3.1 hr;rfl) (C3 ..) ?_|refine Cl.mk h1 ?_)
   all_goals first
    | exact R0 (fun z=>[B z]) ((by symm;unfold f6;rw[ce li e1];rfl))
    | ((conv=>whnf);refine Nx.mk (i+1) ⟨by omega,bK ai e1⟩ (by omega) ?_;(exact wB))
 ·obtain rfl:i=q.Lst.length:=by omega
  repeat'(first|refine gD ?_|(conv=>whnf);first|with_reducible refine Bf.D (fun hq=>?_) (fun hq=>?_)|refine Cl.mk (aJ _ 0 500) ?_|refine Cl.mk (v6 q.Lst hs) ?_)
  all_goals exact R0 (fun z=>[B z]) ((by unfold f6;rw[ai];simp only[Bool.true_and];first|(symm;exact P0 (by omega))|exact decide_eq_decide.2 (by omega)))
def tB (h:ab):Prop:=aG.sml h.Kernel.Machine.Table
theorem fj (h:ab) (p:Int) (hs:tB h):ao Tryz.prog 36 false [.val (some 24) (ab.enc .imm h),.val none [I p]] .one (aD .own (aP h p)):=by
 refine fO 23 [] Tryz.func36 rfl ?_ (.inr (bF _))
 repeat'((conv=>whnf);first|with_reducible (first|refine Lm ?_|refine Wm (by omega) ?_|refine Bf.E (fun hq=>?_) (fun hq=>?_)|refine Bn ?_|refine iW.wk rfl ?_)|refine Bt ?_|refine Bu ?_|refine Cl.mk (cP h.Kernel.Machine.Table p hs) ?_|refine Cl.mk (fY h.Kernel.Machine.Table _ hs) ?_)
 all_goals(unfold aP;first|rw[if_pos (by assumption)]|rw[if_neg (by assumption)])
 all_goals exact⟨rfl,trivial⟩
theorem mw (h:ab) (p:Int) (hs:tB h):ao Tryz.prog 26 false [.val (some 24) (ab.enc .imm h),.val none [I p]] .one (aD .own (aP h p)):=by
 refine fO 22 [] Tryz.func26 rfl ?_ (.inr (bF _))
 repeat'((conv=>whnf);first|with_reducible (first|refine Lm ?_|refine Wm (by omega) ?_|refine Bf.E (fun hq=>?_) (fun hq=>?_)|refine Bn ?_|refine iW.wk rfl ?_)|refine Bt ?_|refine Bu ?_|refine Cl.mk (jO h.Kernel.Machine.Table p hs) ?_|refine Cl.mk (pW h.Kernel.Machine.Table _ hs) ?_)
 all_goals(unfold aP;first|rw[if_pos (by assumption)]|rw[if_neg (by assumption)])
 all_goals exact⟨rfl,trivial⟩
theorem Dt (k:af) (p:Int) (hs:aG.sml k.Machine.Table):ao Tryz.prog 163 false [.val (some 5) (af.enc .imm k),.val none [I p]] .one [B (decide ((ar k.Machine.Table p).Mode≠0))]:=by
 refine fO 12 [] Tryz.func163 rfl ?_
 repeat'(first|refine gO ?_|(conv=>whnf);first|refine Cl.mk (jO k.Machine.Table p hs) ?_)
 exact R0 (fun z=>[B z]) ((by rw[U3];simp))
theorem mN (z:Int):ao Tryz.prog 75 false [.val none [I z]] .one [B (decide (0<=z/\z<=1073741823))]:=by
 refine fO 5 [] Tryz.func75 rfl ?_
 repeat'(first|refine gO ?_|(conv=>whnf);first|refine Cl.mk (aJ z 0 1073741823) ?_)
 rfl
theorem fU (h:ab) (p:Int) (hl:h.Spans.length<=1048576):ao Tryz.prog 39 false [.val (some 24) (ab.enc .imm h),.val none [I p]] .one [I (er h p)]:=by
 refine fO 22 [] Tryz.func39 rfl ?_
 repeat'(first|refine gO ?_|fail)
 (conv=>whnf)
 refine Lp.mk (ι:=Nat) (fun i=>[(1,.hold .one [I (p)]),(2,.hold .box (ab.enc .imm h)),(5,.hold .one [I ((i:Nat):Int)])]) (fun i=>i<=h.Spans.length/\∀ (j:Nat) (z:au),j<i->h.Spans[j]? = some z->jb p z=false) (fun i=>h.Spans.length - i) (0) ?_ (⟨Q0 _,fun j z hj=>by omega⟩) fun i hi=>?_
 ·exact wB
 obtain⟨hi,ai⟩:=hi;by_cases li:i<h.Spans.length
 ·have hx:=ah li
  repeat'(first|refine gD ?_|(conv=>whnf);first|with_reducible (first|refine Ix.nat (aa hx) ?_|refine Bf.E (fun hq=>?_) (fun hq=>?_)))
  all_goals first
   | exact R0 (fun z=>[I z]) (dD hx (O0 (by assumption)) ai).symm
   | ((conv=>whnf);refine Nx.mk (i+1) ⟨by omega,dc hx (P0 (by assumption)) ai⟩ (by omega) ?_;(exact wB))
 ·repeat'(first|refine gD ?_|fail)
  exact R0 (fun z=>[I z]) (fE (by omega) ai).symm
theorem yt (s:au) (p:Int):ao Tryz.prog 100 false [.val (some 3) (au.enc .imm s),.ptr [I p]] .one [B (jb p s)]:=by
 refine fO 8 [] Tryz.func100 rfl ?_
 repeat'(first|refine gO ?_|fail)
 exact R0 (fun z=>[B z]) ((by unfold jb;rw[U3];simp))
theorem sY (h:ab) (p:Int) (hl:h.Spans.length<=1048576):ao Tryz.prog 27 false [.val (some 24) (ab.enc .imm h),.val none [I p]] .one [I (er h p)]:=by
 refine fO 9 [] Tryz.func27 rfl ?_
 repeat'(first|refine gO ?_|(conv=>whnf);first|refine Cq.mk (y4 (some 3) (au.enc .imm) (jb p) h.Spans) (yt default p).has (fun L k rcs hQ=>?_) ?_|refine Cl.mk (vb h.Spans (jb p) (by omega)) ?_)
 ·obtain⟨y,-,rfl,rfl,rfl⟩:=hQ
  exact yt y p
 ·rfl
def flight1 (m:aH) (i:Nat):List Int:=(m.Buffers.take i).flatMap fun l=>l.map (·.Addr)
def flight2 (m:aH) (i:Nat):List Int:=(m.Inbox.take i).flatten
theorem lB {m:aH} {i:Nat} {l:List cW} (h:m.Buffers[i]? = some l):flight1 m (i+1)=flight1 m i++l.map (·.Addr):=by
 unfold flight1;rw[v4,h,List.flatMap_append];simp
theorem lJ {m:aH} {i:Nat} {l:List Int} (h:m.Inbox[i]? = some l):flight2 m (i+1)=flight2 m i++l:=by
 unfold flight2;rw[v4,h,List.flatten_append];simp
theorem mK {m:aH} (h:bD m=true):aK m=flight1 m m.Buffers.length++flight2 m m.Inbox.length:=by
 unfold aK flight1 flight2;rw[if_pos h,X3,X3]
theorem sE {m:aH} (h:bD m=false):aK m=[]:=by
 unfold aK;rw[h];rfl
theorem lG {m:aH} (h:bD m=true):1<=m.Buffers.length/\m.Buffers.length<=4/\m.Inbox.length=m.Buffers.length:=by
 unfold bD at h;simp only[I0,C0]at h;exact h.1.1
theorem AA {l:List Int} : ∀ r∈l.map (rI .imm),r.length=1:=by
 intro r hr;obtain⟨z,-,rfl⟩:=O3.1 hr;rfl
theorem Fx {l:List Int} : ∀ r∈l.map (rI .imm),aV r=true:=by
 intro r hr;obtain⟨z,-,rfl⟩:=O3.1 hr;rfl
theorem xg (m:aH) (hs:aH.sml m):ao Tryz.prog 277 false [.val (some 2) (aH.enc .imm m)] .one (aD .own (aK m)):=by
 have h1:=ku m hs;cases e1:bD m<;>rw[e1]at h1
 ·refine fO 56 [] Tryz.func277 rfl ?_ (.inr (bF _))
  repeat'((conv=>whnf);first|with_reducible (first|refine Lm ?_|refine Wm (by omega) ?_|refine Bn ?_|refine iW.wk rfl ?_)|refine Bt ?_|refine Bu ?_|refine Cl.mk h1 ?_)
  all_goals(rw[sE e1];exact⟨rfl,trivial⟩)
 ·obtain⟨n1,n2,n3⟩:=lG e1
  refine fO 56 [] Tryz.func277 rfl ?_ (.inr (bF _))
  repeat'(first|refine gO ?_|(conv=>whnf);first|refine Cl.mk h1 ?_)
  (conv=>whnf)
  refine Lp.mk (ι:=Nat × List Int) (fun i=>[(1,.hold .box (aH.enc .imm m)),(3,.hold .one (aD .own i.2)),(4,.hold .one [I ((i.1:Nat):Int)])]) (fun i=>i.1<=m.Buffers.length/\i.2=flight1 m i.1/\i.2.length<=1048576*i.1) (fun i=>m.Buffers.length - i.1) ((0,[])) ?_ (⟨Q0 _,rfl,Q0 _⟩) fun i hi=>?_
  ·exact wB
  obtain⟨i,S⟩:=i;obtain⟨hi,hS,hb⟩:=hi;simp only at hi hS hb |-;by_cases li:i<m.Buffers.length
  ·have hx:=ah li
   have hb1:(nth m.Buffers i).length<=1048576:=(hs.1.2 _ (am li)).1
   repeat'(first|refine gD ?_|(conv=>whnf);first|with_reducible refine Ix.nat (aa hx) ?_)
   (conv=>whnf)
   refine Lp.mk (ι:=Nat × List Int) (fun k=>[(1,.hold .box (aH.enc .imm m)),(3,.hold .one (aD .own k.2)),(4,.hold .one [I ((i:Nat):Int)]),(5,.hold .one [I ((k.1:Nat):Int)])]) (fun k=>k.1<=(nth m.Buffers i).length/\k.2=S++((nth m.Buffers i).take k.1).map (·.Addr)) (fun k=>(nth m.Buffers i).length - k.1) ((0,S)) ?_ (⟨Q0 _,by simp⟩) fun k hk=>?_
   ·exact wB
   obtain⟨k,S'⟩:=k;obtain⟨hk,hS'⟩:=hk;simp only at hk hS' |-;have hl':S'.length=S.length+k:=by rw[hS',P2,U0,C1];omega
   by_cases lk:k<(nth m.Buffers i).length
   ·have hz:=ah lk
    repeat'(first|refine gD ?_|(conv=>whnf);first|with_reducible (first|refine Ix.nat (aa hx) ?_|refine Ix.nat (aa hz) ?_)|refine Ap.mk cq (fun r hr=>by rw[X0.1 hr];rfl) (by simp[aV,d4]) (by simp;omega) (by show _*8<=_;simp;omega) rfl ?_)
    ((conv=>whnf)
     refine Nx.mk (k+1,S'++[(nth (nth m.Buffers i) k).Addr]) ⟨(by simp only;omega),(by simp only;rw[hS',v4,hz,C4,z4];simp)⟩ (by simp only;omega) ?_
     (repeat'(first|exact trivial|rfl|exact And.intro rfl (And.intro (R0 (C.s dz.own) (by simp[rI])) trivial)|refine And.intro ?_ ?_)))
   ·obtain rfl:k=(nth m.Buffers i).length:=by omega
    rw[X3]at hS'
    repeat'(first|refine gD ?_|(conv=>whnf);first|with_reducible refine Ix.nat (aa hx) ?_)
    ((conv=>whnf);refine Nx.mk (i+1,S') ⟨(by simp only;omega),(by simp only;rw[lB hx,<-hS,hS']),(by simp only;omega)⟩ (by simp only;omega) ?_;(exact wB))
  ·obtain rfl:i=m.Buffers.length:=by omega
   repeat'(first|refine gD ?_|fail)
   (conv=>whnf)
   refine Lp.mk (ι:=Nat × List Int) (fun k=>[(1,.hold .box (aH.enc .imm m)),(3,.hold .one (aD .own k.2)),(6,.hold .one [I ((k.1:Nat):Int)])]) (fun k=>k.1<=m.Inbox.length/\k.2=S++flight2 m k.1/\k.2.length<=S.length+1048576*k.1) (fun k=>m.Inbox.length - k.1) ((0,S)) ?_ (⟨Q0 _,by simp[flight2],by simp⟩) fun k hk=>?_
   ·exact wB
   obtain⟨k,S'⟩:=k;obtain⟨hk,hS',hb'⟩:=hk;simp only at hk hS' hb' |-;by_cases lk:k<m.Inbox.length
   ·have hz:=ah lk
    have hb2:(nth m.Inbox k).length<=1048576:=hs.2.2 _ (am lk)
    repeat'(first|refine gD ?_|(conv=>whnf);first|with_reducible refine Ix.nat (aa hz) ?_|refine Ap.mk cq AA (fun _=>Fx) (by simp;omega) (by show _*8<=_;simp;omega) rfl ?_)
    ((conv=>whnf)
     refine Nx.mk (k+1,S'++nth m.Inbox k) ⟨(by simp only;omega),(by simp only;rw[lJ hz,hS',z4]),(by simp only;rw[P2];omega)⟩ (by simp only;omega) ?_
     (repeat'(first|exact trivial|rfl|exact And.intro rfl (And.intro (R0 (C.s dz.own) (by simp[rI])) trivial)|refine And.intro ?_ ?_)))
   ·obtain rfl:k=m.Inbox.length:=by omega
    repeat'(first|refine gD ?_|fail)
    rw[mK e1,<-hS,<-hS'];rfl
theorem wH (m:aH) (hs:aH.sml m):ao Tryz.prog 78 false [.val (some 2) (aH.enc .imm m)] .one (aD .own (aK m)):=by
 have h1:=sW m hs;cases e1:bD m<;>rw[e1]at h1
 ·refine fO 46 [] Tryz.func78 rfl ?_ (.inr (bF _))
  repeat'((conv=>whnf);first|with_reducible (first|refine Lm ?_|refine Wm (by omega) ?_|refine Bn ?_|refine iW.wk rfl ?_)|refine Bt ?_|refine Bu ?_|refine Cl.mk h1 ?_)
  all_goals(rw[sE e1];exact⟨rfl,trivial⟩)
 ·obtain⟨n1,n2,n3⟩:=lG e1
  refine fO 46 [] Tryz.func78 rfl ?_ (.inr (bF _))
  repeat'(first|refine gO ?_|(conv=>whnf);first|refine Cl.mk h1 ?_)
  (conv=>whnf)
  refine Lp.mk (ι:=Nat × List Int) (fun i=>[(1,.hold .box (aH.enc .imm m)),(3,.hold .one (aD .own i.2)),(15,.hold .one (ue .imm m.Buffers)),(16,.hold .one [I (m.Buffers.length)]),(17,.hold .one [I ((i.1:Nat):Int)])]) (fun i=>i.1<=m.Buffers.length/\i.2=flight1 m i.1/\i.2.length<=1048576*i.1) (fun i=>m.Buffers.length - i.1) ((0,[])) ?_ (⟨Q0 _,rfl,Q0 _⟩) fun i hi=>?_
  ·exact wB
  obtain⟨i,S⟩:=i;obtain⟨hi,hS,hb⟩:=hi;simp only at hi hS hb |-;by_cases li:i<m.Buffers.length
  ·have hx:=ah li
   have hb1:(nth m.Buffers i).length<=1048576:=(hs.1.2 _ (am li)).1
   repeat'(first|refine gD ?_|(conv=>whnf);first|with_reducible refine Ix.nat (aa hx) ?_)
   (conv=>whnf)
   refine Lp.mk (ι:=Nat × List Int) (fun k=>[(1,.hold .box (aH.enc .imm m)),(3,.hold .one (aD .own k.2)),(15,.hold .one (ue .imm m.Buffers)),(16,.hold .one [I (m.Buffers.length)]),(17,.hold .one [I ((i:Nat):Int)]),(21,.hold .one (co .imm (nth m.Buffers i))),(22,.hold .one [I ((nth m.Buffers i).length)]),(23,.hold .one [I ((k.1:Nat):Int)])]) (fun k=>k.1<=(nth m.Buffers i).length/\k.2=S++((nth m.Buffers i).take k.1).map (·.Addr)) (fun k=>(nth m.Buffers i).length - k.1) ((0,S)) ?_ (⟨Q0 _,by simp⟩) fun k hk=>?_
   ·exact wB
   obtain⟨k,S'⟩:=k;obtain⟨hk,hS'⟩:=hk;simp only at hk hS' |-;have hl':S'.length=S.length+k:=by rw[hS',P2,U0,C1];omega
   by_cases lk:k<(nth m.Buffers i).length
   ·have hz:=ah lk
    repeat'(first|refine gD ?_|(conv=>whnf);first|with_reducible refine Ix.nat (aa hz) ?_|refine Ap.mk cq (fun r hr=>by rw[X0.1 hr];rfl) (by simp[aV,d4]) (by simp;omega) (by show _*8<=_;simp;omega) rfl ?_)
    ((conv=>whnf)
     refine Nx.mk (k+1,S'++[(nth (nth m.Buffers i) k).Addr]) ⟨(by simp only;omega),(by simp only;rw[hS',v4,hz,C4,z4];simp)⟩ (by simp only;omega) ?_
     (repeat'(first|exact trivial|rfl|exact And.intro rfl (And.intro (R0 (C.s dz.own) (by simp[rI])) trivial)|refine And.intro ?_ ?_)))
   ·obtain rfl:k=(nth m.Buffers i).length:=by omega
    rw[X3]at hS'
    repeat'(first|refine gD ?_|fail)
    ((conv=>whnf);refine Nx.mk (i+1,S') ⟨(by simp only;omega),(by simp only;rw[lB hx,<-hS,hS']),(by simp only;omega)⟩ (by simp only;omega) ?_;(exact wB))
  ·obtain rfl:i=m.Buffers.length:=by omega
   repeat'(first|refine gD ?_|fail)
   (conv=>whnf)
   refine Lp.mk (ι:=Nat × List Int) (fun k=>[(3,.hold .one (aD .own k.2)),(35,.hold .one (iu .imm m.Inbox)),(36,.hold .one [I (m.Inbox.length)]),(37,.hold .one [I ((k.1:Nat):Int)])]) (fun k=>k.1<=m.Inbox.length/\k.2=S++flight2 m k.1/\k.2.length<=S.length+1048576*k.1) (fun k=>m.Inbox.length - k.1) ((0,S)) ?_ (⟨Q0 _,by simp[flight2],by simp⟩) fun k hk=>?_
   ·exact wB
   obtain⟨k,S'⟩:=k;obtain⟨hk,hS',hb'⟩:=hk;simp only at hk hS' hb' |-;by_cases lk:k<m.Inbox.length
   ·have hz:=ah lk
    have hb2:(nth m.Inbox k).length<=1048576:=hs.2.2 _ (am lk)
    repeat'(first|refine gD ?_|(conv=>whnf);first|with_reducible refine Ix.nat (aa hz) ?_|refine Ap.mk cq AA (fun _=>Fx) (by simp;omega) (by show _*8<=_;simp;omega) rfl ?_)
    ((conv=>whnf)
     refine Nx.mk (k+1,S'++nth m.Inbox k) ⟨(by simp only;omega),(by simp only;rw[lJ hz,hS',z4]),(by simp only;rw[P2];omega)⟩ (by simp only;omega) ?_
     (repeat'(first|exact trivial|rfl|exact And.intro rfl (And.intro (R0 (C.s dz.own) (by simp[rI])) trivial)|refine And.intro ?_ ?_)))
   ·obtain rfl:k=m.Inbox.length:=by omega
    repeat'(first|refine gD ?_|fail)
    rw[mK e1,<-hS,<-hS'];rfl
def tbl (h:ab):aG:=h.Kernel.Machine.Table
def dQ (h:ab):Nat:=h.Kernel.Machine.Table.Entries.length
def ug (xs:List au) (i:Nat):Bool:=decide (i=0\/(nth xs (i - 1)).Page<(nth xs i).Page)
def wi (xs:List a8) (i:Nat):Bool:=decide (i=0\/(nth xs (i - 1)).Page<(nth xs i).Page)
def ve (h:ab) (l:a8) (k:Nat):Bool:=decide ((aP h (l.Page+(k:Nat))).length=1)
def q9 (h:ab) (i:Nat):Bool:=wi h.Larges i&&cA (nth h.Larges i).Pages.toNat (ve h (nth h.Larges i))
def tl (h:ab) (p:Nat):Bool:=decide ((nth (tbl h).Entries p).Mode≠0↔(p:Int)∈pgs h.Spans h.Larges)&&(decide ((nth (tbl h).Entries p).Mode≠0) != h.Free.any (oW (p:Nat)))
def pages0 (h:ab):Bool:=((cA h.Spans.length (ug h.Spans)&&cA h.Larges.length (q9 h))&&(pgs h.Spans h.Larges).all fun p=>decide (p<dQ h))&&cA (dQ h) (tl h)
def kC (h:ab) (i:Nat) (q:Int):Bool:=decide (er h q=(i:Nat)) || (decide (0<=er h q)&&meshable (nth h.Spans i) (nth h.Spans (er h q).toNat))
def sT (h:ab):Bool:=cA h.Spans.length fun i=>(aP h (nth h.Spans i).Page).all (kC h i)
def jI (h:ab) (i j:Nat):Bool:=decide ((ar (tbl h) (nth h.Spans i).Page).Frame≠(ar (tbl h) (nth h.Spans j).Page).Frame) || meshable (nth h.Spans i) (nth h.Spans j)
def m0 (h:ab):Bool:=cA h.Spans.length fun i=>cA i (jI h i)
def jU (z:Int) (o:bJ):Bool:=decide (o.Id=z)
def jv (h:ab) (o:bJ):Bool:=
 let w:=denotes h.Spans h.Larges o.Addr
 decide (w.Offset=0)&&((decide (w.Kind=1)&&decide ((nth h.Spans w.Index.toNat).Class=aO o.Size)) || (decide (w.Kind=3)&&decide ((nth h.Larges w.Index.toNat).Size=o.Size)))
def gy (nx:Int) (h:ab) (i:Nat):Bool:=decide ((i=0\/(nth h.Objs (i - 1)).Addr<(nth h.Objs i).Addr)/\1<=(nth h.Objs i).Id/\(nth h.Objs i).Id<=nx/\0<=(nth h.Objs i).Thread/\(nth h.Objs i).Thread<=h.Caches.length - 1)
def objAt (nx:Int) (h:ab) (i:Nat):Bool:=(gy nx h i&&!(h.Objs.take i).any (jU (nth h.Objs i).Id))&&jv h (nth h.Objs i)
def eS (h:ab):Bool:=cA h.Objs.length (objAt (IntKind.i64.wrap (h.Next - 1)) h)
def cV (h:ab) (a c:Int):Bool:=
 let w:=denotes h.Spans h.Larges a
 (decide (w.Kind=1)&&decide (w.Offset=0))&&(decide (c<0) || decide ((nth h.Spans w.Index.toNat).Class=c))
def pN (h:ab) (c:aB) (k:Nat):Bool:=(nth c.Lists k).all fun a=>cV h a (k:Nat)
def dX (h:ab) (c:aB):Bool:=cA c.Lists.length (pN h c)
def gp (h:ab) (x:aL):Bool:=cV h x.Addr x.Class
def ju (h:ab) (a:Int):Bool:=cV h a (-1)
def ch (h:ab):List Int:=h.Caches.flatMap fun c=>c.Lists.flatten
def gw (h:ab):Bool:=((h.Caches.all (dX h))&&h.Quar.Lst.all (gp h))&&(aK h.Mail).all (ju h)
def holders (h:ab):List Int:=((h.Objs.map (·.Addr)++ch h)++h.Quar.Lst.map (·.Addr))++aK h.Mail
def iZ (sp:List au) (la:List a8) (a:Nat):Bool:=
 let w:=denotes sp la (a:Nat)
 decide (w.Offset=0)&&(decide (w.Kind=1) || decide (w.Kind=3))
def ke (sp:List au) (la:List a8) (n:Nat):List Int:=((List.range n).filter (iZ sp la)).map fun(i:Nat)=>(i:Int)
def hJ (sp:List au) (la:List a8):List Int:=ke sp la 512
def ia (h:ab):Bool:=(gw h&&decide (holders h).Nodup)&&decide ((holders h).length=(hJ h.Spans h.Larges).length)
def jt (h:ab):Bool:=h.Quar.Lst.all fun x=>decide (x.Since<=h.Clock)
def bW (h:ab):Bool:=decide (0<=h.Seed/\h.Seed<=1073741823/\0<=h.Clock/\h.Clock<=1000000/\0<=h.Limit/\h.Limit<=1000/\1<=h.Next/\h.Next<=1000000)
def oG (h:ab):Bool:=if h.Meshing then(iH h.Job&&decide (0<=er h h.Job.Plan.Keep))&&decide (0<=er h h.Job.Plan.Move) else qC h.Job
def kD (h:ab):Bool:=((aA h.Kernel&&bv (dQ h) h.Free)&&bk h.Spans h.Larges)&&pages0 h
end Go.Proofs.YtembpgjjnioagaaGreat.Ab
