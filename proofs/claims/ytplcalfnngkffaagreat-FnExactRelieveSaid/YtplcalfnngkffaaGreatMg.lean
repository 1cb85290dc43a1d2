/- A function's contract out of the abstract run of its body, where something is lent to it. No condition. -/
import Derived.Test.YtplcalfnngkffaaGreatMf
set_option linter.unusedVariables false

namespace Go.Proofs.YtplcalfnngkffaaGreat.Ab
open Go.RowKit
def MW:C→Value→C
 | .s .own rows,v=>.s (.tag v) rows
 | c,_=>c
def xP (u:Nat→Value):Nat→List C→List C
 | _,[]=>[]
 | j,c::cs=>MW c (u j)::xP u (j+1) cs
def vq (u:Nat→Nat→Value):Nat→List MA→List (Nat × AV)
 | _,[]=>[]
 | i,.val ag cs::A=>(i,.hold (jc ag) cs)::vq u (i+1) A
 | i,.mut ag cs::A=>(i,.hold (jc ag) (xP (u i) 0 cs))::vq u (i+1) A
 | i,.ptr cs::A=>(i,.hold .box cs)::vq u (i+1) A
def GI (p:Nat→Value):Nat→List MA→List (Nat × Value)
 | _,[]=>[]
 | i,.ptr _::A=>(i,p i)::GI p (i+1) A
 | i,_::A=>GI p (i+1) A
def DV:Nat→List MA→List (Nat × Nat)→List (Option Nat)
 | i,.val _ _::A,_::pl=>none::DV (i+1) A pl
 | i,.mut _ _::A,p::pl=>some p.1::DV (i+1) A pl
 | i,.ptr _::A,_::pl=>some i::DV (i+1) A pl
 | _,_,_=>[]
def Fu:List (Option Nat)→Bool
 | []=>true
 | none::l=>Fu l
 | some t::l=>l.all (fun x=>match x with|some t'=>!Nat.beq t t'|none=>true)&&Fu l
def sles:List (Option Nat)→List Nat
 | []=>[]
 | none::l=>sles l
 | some t::l=>t::sles l
def Ph (v:Value) (c y o:C):Prop:=
 match c with
 | .s .own _=>(match y with|.s (.tag v') rows=>v'=v∧o=.s .own rows|_=>False)
 | .s (.tag _) _=>False
 | .m _=>False
 | .it _ _=>False
 | c=>o=c
def M4 (u:Nat→Value):Nat→List C→List C→List C→Prop
 | _,[],_,o=>o=[]
 | j,c::cs,y::xs,o::os=>Ph (u j) c y o∧M4 u (j+1) cs xs os
 | _,_,_,_=>False
def hO (u:Nat→Nat→Value) (F:Nat→AV):Nat→List MA→List (Nat × Nat)→List MA→Prop
 | _,[],_,[]=>True
 | i,.val _ _::A,_::pl,.val _ _::B=>hO u F (i+1) A pl B
 | i,.mut ag cs::A,p::pl,.mut ag' out::B=>(ag'=ag∧match F p.1 with|.hold _ xs=>M4 (u i) 0 cs (xs.drop p.2) out|_=>False)∧hO u F (i+1) A pl B
 | i,.ptr _::A,_::pl,.ptr out::B=>(match F i with|.hold .box xs=>xs=out|_=>False)∧hO u F (i+1) A pl B
 | _,_,_,_=>False
inductive bK (k k':Kd) (cs cs':List C) (Q:Prop):Prop
 |mk_ (h:k=k'∧cs=cs'∧Q)
theorem bK.mk {k k':Kd} {cs cs':List C} {Q:Prop} (h1:k=k') (h2:cs=cs') (h3:Q):bK k k' cs cs' Q:=by refine .mk_ ?_;exact⟨h1,h2,h3⟩
theorem bK.out {k k':Kd} {cs cs':List C} {Q:Prop} (h:bK k k' cs cs' Q):k=k'∧cs=cs'∧Q:=by obtain⟨h⟩:=h;exact h
def MI (TE:Nat→Option TI) (rs:List ResultVar) (k:Kd) (rcs:List C) (u:Nat→Nat→Value) (A B:List MA) (pl:List (Nat × Nat)):Exit→(Nat→AV)→Prop:=fun e F=>
 match e with
 | .normal=>resA TE F rs (sles (DV 0 A pl)) fun sh cs=>bK (fS sh) k cs rcs (hO u F 0 A pl B)
 | .ret=>resA TE F rs (sles (DV 0 A pl)) fun sh cs=>bK (fS sh) k cs rcs (hO u F 0 A pl B)
 | _=>False
section
variable {P:Program} {w0 w w1:World} {M S0 S:ab} {N:fF} {φ:Nat→ab} {F:Nat→AV} {a:Act} {TE:Nat→Option TI}
theorem ez.tag {Y:ab} {c:C} {v:Value} (h:ez w S Y c v):ez w S Y (MW c v) v:=by
 cases h with
 | nil _ o a ho=>cases o with
  | own=>exact .nil _ _ _ rfl
  | _=>exact .nil _ _ _ ho
 | own _ o g k n cap rows u f ho hn hk hcap hpos hF hu hf hd hc=>cases o with
  | own=>exact .own _ _ g k n cap rows u f rfl hn hk hcap hpos hF hu hf hd hc
  | imm=>exact ho.elim
  | tag z=>exact .own _ _ g k n cap rows u f ho hn hk hcap hpos hF hu hf hd hc
 | v _ x h1=>exact .v _ _ h1
 | x _ u h1=>exact .x _ _ h1
 | z _ a=>exact .z _ _
 | imm _ g off k n cap rows u hn hk hcap hS hc=>exact .imm _ g off k n cap rows u hn hk hcap hS hc
 | m _ b clock es ents hF hb he hv hst=>exact .m _ b clock es ents hF hb he hv hst
 | it _ r b since c0 clock seen ents cur left hF hr hb hst hc hv hl hcur=>exact .it _ r b since c0 clock seen ents cur left hF hr hb hst hc hv hl hcur
theorem ez.untag {Y:ab} {z v:Value} {rows:List (List C)} (h:ez w S Y (.s (.tag z) rows) v):v=z∧ez w S Y (.s .own rows) v:=by
 cases h with
 | nil _ o a ho=>exact⟨Eq.symm ho,.nil _ _ _ trivial⟩
 | own _ o g k n cap rows u f ho hn hk hcap hpos hF hu hf hd hc=>exact⟨Eq.symm ho,.own _ _ g k n cap rows u f trivial hn hk hcap hpos hF hu hf hd hc⟩
theorem oF (u:Nat→Value):∀ (j:Nat) (cs:List C),(xP u j cs).length=cs.length
 | _,[]=>rfl
 | j,c::cs=>by simp[xP,oF u (j+1) cs]
theorem D2 (u:Nat→Value):∀ (j0:Nat) (cs:List C) (j:Nat),(xP u j0 cs)[j]? = (cs[j]?).map fun c=>MW c (u (j0+j))
 | _,[],j=>by simp[xP]
 | j0,c::cs,0=>by simp[xP]
 | j0,c::cs,j+1=>by simp only[xP,List.getElem?_cons_succ];rw[D2 u (j0+1) cs j,show j0+1+j=j0+(j+1) by omega]
theorem co.tag {Y:ab} {cs:List C} {u:Nat→Value} (h:co w S Y cs u):co w S Y (xP u 0 cs) u:=by
 obtain⟨f,h1,h2,h3⟩:=h
 refine⟨f,fun j c hj=>?_,fun j hj=>h2 j (by rwa [oF]at hj),fun j j' hj hj'=>h3 j j' (by rwa [oF]at hj) (by rwa [oF]at hj')⟩
 rw[D2,Nat.zero_add]at hj
 cases hc:cs[j]? with
 | none=>rw[hc]at hj;cases hj
 | some c0=>
  rw[hc]at hj
  simp only[Option.map_some,Option.some.injEq]at hj
  subst hj
  exact(h1 j c0 hc).tag
def celF (v:Value) (j:Nat):Value:=v.cells.toList.getD j undef
theorem bv.celF {Y:ab} {ag:Option Nat} {cs:List C} {v:Value} (h:bv w S Y ag cs v):cs.length=ag.getD 1∧v=mkv ag (celF v)∧co w S Y cs (celF v):=by
 obtain⟨h1,u,h2,h3⟩:=h
 have hc:=oI (ag:=ag) (u:=u) (fun e=>by subst e;exact h3.one (by simp at h1;omega))
 have hu:∀ j,j<ag.getD 1→Ab.celF v j=u j:=fun j hj=>by
  unfold Ab.celF;rw[h2,hc];simp[List.getD,hj]
 exact⟨h1,h2.trans (hJ fun j hj=>(hu j hj).symm),h3.congr fun j hj=>hu j (by omega)⟩
def M7 (u:Nat→Nat→Value) (i:Nat):MA→AV
 | .val ag cs=>.hold (jc ag) cs
 | .mut ag cs=>.hold (jc ag) (xP (u i) 0 cs)
 | .ptr cs=>.hold .box cs
theorem yZ {u:Nat→Nat→Value} : ∀ {A:List MA} {vs:List Value} {V:Nat→ab} (i:Nat),J1 w S V A vs→∀ t,(lay (vq u i A) t=.dead)∨(∃ m v,i≤t∧vs[t - i]? = some v∧A[t - i]? = some m∧lay (vq u i A) t=M7 u t m∧nC w S (V (t - i)) m v)
 | [],_,_,i,_,t=>.inl rfl
 | m::A,[],_,i,h,t=>h.elim
 | m::A,v::vs,V,i,h,t=>by
  have hl:lay (vq u i (m::A)) t=bif Nat.beq t i then M7 u i m else lay (vq u (i+1) A) t:=by cases m<;>rfl
  rw[hl]
  cases hb:Nat.beq t i with
  | true=>
   have:=Nat.eq_of_beq_eq_true hb
   subst this
   exact .inr ⟨m,v,Nat.le_refl _,by simp,by simp,rfl,by rw[Nat.sub_self];exact h.1⟩
  | false=>
   have hne:t≠i:=fun e=>by subst e;rw[Nat.beq_refl]at hb;cases hb
   rcases yZ (i+1) h.2 t with h1|⟨m',v',h1,h2,h3,h4,h5⟩
   ·exact .inl h1
   ·refine .inr ⟨m',v',by omega,?_,?_,h4,?_⟩
    ·rw[show t - i=(t - (i+1))+1 by omega];simpa using h2
    ·rw[show t - i=(t - (i+1))+1 by omega];simpa using h3
    ·rw[show t - i=(t - (i+1))+1 by omega];exact h5
theorem Aa:∀ {A:List MA} {vs:List Value} {V:Nat→ab},J1 w S V A vs→A.length=vs.length
 | [],[],_,_=>rfl
 | _::_,_::_,_,h=>by simp[Aa h.2]
 | [],_::_,_,h=>h.elim
 | _::_,[],_,h=>h.elim
theorem GK {p:Nat→Value} : ∀ {A:List MA} {i:Nat} {q:Nat × Value},q∈GI p i A→i≤q.1∧q.1<i+A.length∧q.2=p q.1
 | [],_,_,h=>by simp[GI]at h
 | m::A,i,q,h=>by
  have hr:q∈GI p (i+1) A→i≤q.1∧q.1<i+(m::A).length∧q.2=p q.1:=fun h=>by
   obtain⟨h1,h2,h3⟩:=GK h
   exact⟨by omega,by simp;omega,h3⟩
  cases m with
  | ptr cs=>
   rcases List.mem_cons.1 h with rfl|h
   ·exact⟨Nat.le_refl _,by simp,rfl⟩
   ·exact hr h
  | val=>exact hr h
  | «mut»=>exact hr h
theorem GE {p:Nat→Value} : ∀ {A:List MA} {i n:Nat} {cs:List C},A[n]? = some (.ptr cs)→(i+n,p (i+n))∈GI p i A
 | [],_,n,_,h=>by simp at h
 | m::A,i,0,cs,h=>by simp at h;subst h;simp[GI]
 | m::A,i,n+1,cs,h=>by
  have h1:=GE (p:=p) (i:=i+1) (show A[n]? = some (.ptr cs) by simpa using h)
  rw[show i+1+n=i+(n+1) by omega]at h1
  cases m with
  | ptr cs=>exact List.mem_cons_of_mem _ h1
  | val=>exact h1
  | «mut»=>exact h1
def MJ (φ:Nat→ab):Option (Option Nat)→ab
 | some (some t)=>φ t
 | _=>NO
theorem AF {u:Nat→Value} : ∀ {j0:Nat} {cs xs os:List C},M4 u j0 cs xs os→cs.length=os.length∧∀ (j:Nat) (c o:C),cs[j]? = some c→os[j]? = some o→∃ y,(eB c=true→xs[j]? = some y)∧Ph (u (j0+j)) c y o
 | _,[],xs,os,h=>by simp only[M4]at h;subst h;exact⟨rfl,fun j c o h=>by simp at h⟩
 | _,_::_,[],_,h=>by simp only[M4]at h
 | _,_::_,_::_,[],h=>by simp only[M4]at h
 | j0,c0::cs,x0::xs,o0::os,h=>by
  simp only[M4]at h
  obtain⟨h1,h2⟩:=AF h.2
  refine⟨by simp[h1],fun j c o hj ho=>?_⟩
  cases j with
  | zero=>simp at hj ho;subst hj ho;exact⟨x0,fun _=>rfl,h.1⟩
  | succ j=>
   obtain⟨y,e1,e2⟩:=h2 j c o (by simpa using hj) (by simpa using ho)
   exact⟨y,fun hc=>by simpa using e1 hc,by rw[show j0+(j+1)=j0+1+j by omega];exact e2⟩
theorem KP {S' Y Y':ab} {u tu:Nat→Value} {cs xs os:List C} {off:Nat} (hsame:bk S w w1) (hsub:∀ b o,S b o→S' b o) (h:co w S Y cs u) (h':co w1 S' Y' xs tu) (hb:M4 u 0 cs (xs.drop off) os):co w1 S' Y' os u:=by
 obtain⟨f,h1,h2,h3⟩:=h
 obtain⟨f',h1',h2',h3'⟩:=h'
 obtain⟨hl,hg⟩:=AF hb
 refine⟨fun j b o=>off+j<xs.length∧f' (off+j) b o,fun j c hj=>?_,fun j hj b o hb=>h2' _ hb.1 b o hb.2,fun j j' hj hj' hne b o hb hb'=>h3' _ _ hb.1 hb'.1 (by omega) b o hb.2 hb'.2⟩
 have hjl:=(List.getElem?_eq_some_iff.1 hj).1
 have hcs:cs[j]? = some cs[j]:=List.getElem?_eq_getElem (by omega)
 obtain⟨y,hx,hbk⟩:=hg j _ c hcs hj
 rw[Nat.zero_add]at hbk
 have hrep:=h1 j _ hcs
 generalize cs[j]=c0 at hcs hbk hrep hx
 have keep:eB c0=false→c=c0→ez w1 S' (fun b o=>off+j<xs.length∧f' (off+j) b o) c (u j):=fun hi e=>by
  subst e
  exact((hrep.bare (F':=NO) hi).keep hsame (fun _ _ h=>h.elim)).mono hsub (fun _ _ h=>h.elim)
 cases c0 with
 | v x0=>exact keep rfl hbk
 | x=>exact keep rfl hbk
 | z=>exact keep rfl hbk
 | m es=>exact hbk.elim
 | it=>exact hbk.elim
 | s o rows=>
  cases o with
  | imm=>exact keep rfl hbk
  | tag z=>exact hbk.elim
  | own=>
   have hx:=hx rfl
   rw[List.getElem?_drop]at hx
   have hlt:=(List.getElem?_eq_some_iff.1 hx).1
   simp only[Ph]at hbk
   split at hbk
   case h_2=>exact hbk.elim
   rename_i v' rows'
   obtain⟨rfl,rfl⟩:=hbk
   obtain⟨e1,e2⟩:=(h1' _ _ hx).untag
   rw[e1]at e2
   exact e2.mono (fun _ _ h=>h) (fun b o h=>⟨hlt,h⟩)
theorem bj.backs {w':World} {S':ab} {u:Nat→Nat→Value} (h:bj w0 M S0 N S' φ F a w') (hsame:bk S w w') (hsub:∀ b o,S b o→S' b o):∀ {A:List MA} {pl:List (Nat × Nat)} {B:List MA} {vs:List Value} {V:Nat→ab} {i:Nat},J1 w S V A vs→
  (∀ j v,vs[j]? = some v→u (i+j)=celF v)→(∀ j v cs,vs[j]? = some v→A[j]? = some (.ptr cs)→tvs a (i+j)=v)→hO u F i A pl B→Ar w' S' (fun n=>MJ φ (DV i A pl)[n]?) B vs
 | [],pl,B,vs,V,i,hA,hu,hp,hb=>by
  cases vs with
  | cons _ _=>exact hA.elim
  | nil=>cases B with
   | nil=>trivial
   | cons _ _=>simp only[hO]at hb
 | m::A,[],B,vs,V,i,hA,hu,hp,hb=>by cases m<;>simp only[hO]at hb
 | m::A,p::pl,[],vs,V,i,hA,hu,hp,hb=>by cases m<;>simp only[hO]at hb
 | m::A,p::pl,m'::B,[],V,i,hA,hu,hp,hb=>hA.elim
 | m::A,p::pl,m'::B,v::vs,V,i,hA,hu,hp,hb=>by
  have next:hO u F (i+1) A pl B→Ar w' S' (fun n=>MJ φ (DV (i+1) A pl)[n]?) B vs:=fun hb=>
   bj.backs h hsame hsub hA.2 (fun j v hj=>by rw[show i+1+j=i+(j+1) by omega];exact hu (j+1) v (by simpa using hj))
    (fun j v cs hj hc=>by rw[show i+1+j=i+(j+1) by omega];exact hp (j+1) v cs (by simpa using hj) (by simpa using hc)) hb
  cases m with
  | val ag cs=>
   cases m' with
   | val ag' cs'=>simp only[hO]at hb;exact⟨trivial,next hb⟩
   | ptr=>simp only[hO]at hb
   | «mut»=>simp only[hO]at hb
  | «mut» ag cs=>
   cases m' with
   | val=>simp only[hO]at hb
   | ptr=>simp only[hO]at hb
   | «mut» ag' out=>
    simp only[hO]at hb
    obtain⟨⟨rfl,hb1⟩,hb2⟩:=hb
    refine⟨?_,next hb2⟩
    have hv:=bv.celF (show bv w S (V 0) ag' cs v from hA.1)
    have hu0:u i=celF v:=hu 0 v (by simp)
    have hs:=h.slot p.1
    cases hF:F p.1 with
    | hold k xs=>
     rw[hF]at hb1 hs
     simp only at hb1
     rw[hu0]at hb1
     obtain⟨X1,Y,e1,e2,e3,e4,e5⟩:=hs
     refine⟨by rw[←(AF hb1).1];exact hv.1,celF v,hv.2.1,?_⟩
     exact(KP hsame hsub hv.2.2 e5 hb1).mono (fun _ _ h=>h) (fun b o hb=>by simpa[DV,MJ] using e2 b o hb)
    | _=>rw[hF]at hb1;exact hb1.elim
  | ptr cs=>
   cases m' with
   | val=>simp only[hO]at hb
   | «mut»=>simp only[hO]at hb
   | ptr out=>
    simp only[hO]at hb
    refine⟨?_,next hb.2⟩
    have hv:tvs a i=v:=hp 0 v cs (by simp) (by simp)
    have hs:=h.slot i
    cases hF:F i with
    | hold k xs=>
     cases k with
     | box=>
      rw[hF]at hb hs
      have:=hb.1
      simp only at this
      subst this
      rw[hv]at hs
      obtain⟨X1,Y,e1,e2,e3,e4,e5⟩:=hs
      exact⟨X1,Y,fun b o hb=>by simpa[DV,MJ] using e1 b o hb,fun b o hb=>by simpa[DV,MJ] using e2 b o hb,e3,e4,e5⟩
     | _=>rw[hF]at hb;exact hb.1.elim
    | _=>rw[hF]at hb;exact hb.1.elim
theorem sw:∀ {l:List (Option Nat)},Fu l=true→∀ (i i' t t':Nat),i≠i'→l[i]? = some (some t)→l[i']? = some (some t')→t≠t'
 | [],_,i,i',t,t',_,h,_=>by simp at h
 | none::l,hok,i,i',t,t',hne,h,h'=>by
  cases i with
  | zero=>simp at h
  | succ i=>cases i' with
   | zero=>simp at h'
   | succ i'=>exact sw (l:=l) hok i i' t t' (by omega) (by simpa using h) (by simpa using h')
 | some t0::l,hok,i,i',t,t',hne,h,h'=>by
  simp only[Fu,Bool.and_eq_true]at hok
  have hd:∀ (n s:Nat),l[n]? = some (some s)→t0≠s:=fun n s hn e=>by
   have:=List.all_eq_true.1 hok.1 _ (List.mem_of_getElem? hn)
   simp only[Bool.not_eq_true']at this
   rw[e,Nat.beq_refl]at this;cases this
  cases i with
  | zero=>
   simp at h;subst h
   cases i' with
   | zero=>exact absurd rfl hne
   | succ i'=>exact hd i' t' (by simpa using h')
  | succ i=>cases i' with
   | zero=>simp at h';subst h';exact fun e=>hd i t (by simpa using h) e.symm
   | succ i'=>exact sw hok.2 i i' t t' (by omega) (by simpa using h) (by simpa using h')
theorem vf:∀ {l:List (Option Nat)} {i t:Nat},l[i]? = some (some t)→t∈sles l
 | [],i,t,h=>by simp at h
 | none::l,i,t,h=>by
  cases i with
  | zero=>simp at h
  | succ i=>exact vf (l:=l) (i:=i) (by simpa using h)
 | some t0::l,i,t,h=>by
  cases i with
  | zero=>simp at h;subst h;simp[sles]
  | succ i=>exact List.mem_cons_of_mem _ (vf (l:=l) (i:=i) (by simpa using h))
theorem wm {φ:Nat→ab} {x:Option (Option Nat)} {b o:Nat} (h:MJ φ x b o):∃ t,x=some (some t)∧φ t b o:=by
 match x,h with
 | some (some t),h=>exact⟨t,rfl,h⟩
 | some none,h=>exact h.elim
 | none,h=>exact h.elim
theorem H9 {f : Nat} {fn : Func} {c : Code} {sh : Bool} {A B : List MA} {k : Kd} {rcs : List C} {mo : List (Nat × List Nat)} {n : Nat} (pl : List (Nat × Nat)) (hTE : ∀ t i, TE t = some i → bA P t i) (hf : P.funcs[f]? = some fn) (hn : (fn.name == "runtime.NumGoroutine") = false)
  (hb:fn.body=some c) {ck:Nat→Array Oper→Bool} {D:fF→Nat→Array Oper→((Nat→AV)→Prop)→(Nat→AV)→Prop} (hD:∀ N,uL P N ck (D N)) (hc:fT ck c=true) (hN:A.length+(fn.ntmps - A.length)=n) (hok:Fu (DV 0 A pl)=true) (hsh:sh=true∨gq rcs)
  (hp:∀ (u:Nat→Nat→Value) (p:Nat→Value),aw P TE ⟨n,GI p 0 A,mo⟩ (D ⟨n,GI p 0 A,mo⟩) c (MI TE fn.results.toList k rcs u A B pl) (lay (vq u 0 A))):aV P f sh A B k rcs:=by
 refine⟨⟨fn,hf,hn,by rw[hb];rfl⟩,fun w S V vs hS hV hVd hA=>?_⟩
 have hlen:=Aa hA
 refine calls_of_wp hf hb ?_
 let u:Nat→Nat→Value:=fun i=>celF (vs.getD i undef)
 let p:Nat→Value:=fun i=>vs.getD i undef
 have htv:∀ t v,vs[t]? = some v→tvs {tmps:=vs.toArray++Array.replicate (fn.ntmps - vs.toArray.size) undef,defers:=[]} t=v:=fun t v h2=>by
  have hlt:=(List.getElem?_eq_some_iff.1 h2).1
  simp only[tvs,Array.getD_eq_getD_getElem?]
  rw[Array.getElem?_append_left (by simpa using hlt)]
  simp only[List.getElem?_toArray]
  rw[h2];rfl
 have hst:St w (fun b o=>∃ i,V i b o) S ⟨n,GI p 0 A,mo⟩ (lay (vq u 0 A)) {tmps:=vs.toArray++Array.replicate (fn.ntmps - vs.toArray.size) undef,defers:=[]} w:=by
  refine⟨S,V,fun t=>?_,hVd,fun t b o h=>(hV t b o h).2,fun t b o h=>⟨(hV t b o h).1,.inr ⟨t,h⟩⟩,fun _ _ h=>h,fun b o h=>⟨hS b o h,.inl h⟩,bw.refl _ _,by simp;omega,rfl,fun q hq=>?_⟩
  ·rcases yZ (u:=u) 0 hA t with h1|⟨m,v,-,h2,h2',h3,h4⟩
   ·rw[h1];trivial
   ·rw[h3]
    rw[Nat.sub_zero]at h2 h4
    rw[htv t v h2]
    have hu:u t=celF v:=by show celF (vs.getD t undef)=_;rw[List.getD,h2];rfl
    cases m with
    | val ag cs=>exact(bv.mono (show bv w S NO ag cs v from h4) (fun _ _ h=>h) (fun _ _ h=>h.elim)).slot
    | «mut» ag cs=>
     obtain⟨e1,e2,e3⟩:=bv.celF (show bv w S (V t) ag cs v from h4)
     refine bv.slot ⟨by rw[oF];exact e1,celF v,e2,?_⟩
     rw[hu];exact e3.tag
    | ptr cs=>exact h4
  ·obtain⟨-,h1,h2⟩:=GK hq
   rw[h2]
   have hlt:q.1<vs.length:=by omega
   refine htv _ _ ?_
   show vs[q.1]? = some (vs.getD q.1 undef)
   rw[List.getD,List.getElem?_eq_getElem hlt];rfl
 refine iv hTE (hD _) c hc _ _ _ _ w (hp u p) hst fun e F' a' w' he hs'=>?_
 obtain⟨S',φ',h⟩:=hs'
 have fin:resA TE F' fn.results.toList (sles (DV 0 A pl)) (fun sh cs=>bK (fS sh) k cs rcs (hO u F' 0 A pl B))→a'.defers=[]∧∃ v,(results fn a'.tmps).run P w'=.ok v w'∧(∃ v',Ending.returned v=.returned v'∧bw (fun b o=>∃ i,V i b o) w w'∧∃ (X:ab) (V':Nat→ab) (S1:ab),
     (∀ b o,X b o→(∃ i,V i b o)∨(b<w'.heap.size∧w.heap.size≤b))∧(∀ i b o,V' i b o→(∃ i,V i b o)∨(b<w'.heap.size∧w.heap.size≤b))∧
     (∀ b o,S1 b o→(sh=true∧S b o)∨(∃ i,V i b o)∨(b<w'.heap.size∧w.heap.size≤b))∧
     (∀ i i',i≠i'→∀ b o,V' i b o→¬V' i' b o)∧(∀ i b o,X b o→¬V' i b o)∧(∀ b o,X b o→¬S1 b o)∧(∀ i b o,V' i b o→¬S1 b o)∧
     fy w' NO k rcs.length v'∧co w' S1 X rcs (bR w' k v')∧Ar w' (fun b o=>S b o∨S1 b o) V' B vs):=by
  intro hr
  obtain⟨shs,cs,vs',u',hfin,hrun,hT,hln,hL,hcells,hone,hrow⟩:=h.resA hTE hr
  obtain⟨rfl,rfl,hback⟩:=hfin.out
  refine⟨h.defers,?_⟩
  have hrun2:(results fn a'.tmps).run P w'=.ok (if h:vs'.toArray.size=1 then vs'.toArray[0] else .tuple vs'.toArray) w':=by
   have e:results fn a'.tmps=(do let vs ←fn.results.mapM (yr a'.tmps);pure (if h:vs.size=1 then vs[0] else .tuple vs)):=by
    unfold results
    congr 1
   rw[e,←Array.toArray_toList (xs:=fn.results),List.mapM_toArray]
   simp only[Sem.run_bind,Sem.run_map,hrun,Result.andThen_ok,Sem.run_pure]
  have hex:∀ t b o,φ' t b o→(∃ i,V i b o)∨(b<w'.heap.size∧w.heap.size≤b):=fun t b o hb=>(h.ex t b o hb).2.elim (fun h'=>.inr ⟨(h.ex t b o hb).1,h'⟩) .inl
  have hsameS:bk S w w':=fun b o hb=>by
   have hlt:=hS b o hb
   exact⟨h.old.cel b o hlt (fun⟨i,hi⟩=>(hV i b o hi).2 hb),h.old.fro b o hlt (fun⟨i,hi⟩=>(hV i b o hi).2 hb)⟩
  have hm:=h.backs (u:=u) hsameS h.sub hA (fun j v hj=>by show celF (vs.getD (0+j) undef)=_;rw[Nat.zero_add,List.getD,hj];rfl) (fun j v cs hj hc=>by
    have:=h.par _ (GE (p:=p) (i:=0) hc)
    rw[this]
    show vs.getD (0+j) undef=v
    rw[Nat.zero_add,List.getD,hj];rfl) hback
  refine⟨_,hrun2,_,rfl,h.old,fun b o=>∃ t,t∉sles (DV 0 A pl)∧φ' t b o,fun i=>MJ φ' (DV 0 A pl)[i]?,fun b o=>(sh=true∧S' b o)∨(S' b o∧((∃ i,V i b o)∨w.heap.size≤b)),fun b o ⟨t,_,hb⟩=>hex t b o hb,fun i b o hb=>?_,fun b o hb=>?_,fun i i' hne b o hb hb'=>?_,fun i b o ⟨t,ht,hb⟩ hb'=>?_,fun b o ⟨t,_,hb⟩ hb'=>h.disS t b o hb (hb'.elim (·.2) (·.1)),fun i b o hb hb'=>?_,?_⟩
  ·obtain⟨t,-,hb⟩:=wm hb
   exact hex t b o hb
  ·rcases hb with⟨h1,h2⟩|⟨h1,h2⟩
   ·rcases(h.sup b o h2).2 with h3|h3|h3
    ·exact .inl ⟨h1,h3⟩
    ·exact .inr (.inr ⟨(h.sup b o h2).1,h3⟩)
    ·exact .inr (.inl h3)
   ·rcases h2 with h2|h2
    ·exact .inr (.inl h2)
    ·exact .inr (.inr ⟨(h.sup b o h1).1,h2⟩)
  ·obtain⟨t,e1,hb⟩:=wm hb
   obtain⟨t',e2,hb'⟩:=wm hb'
   exact h.dis t t' (sw hok i i' t t' hne e1 e2) b o hb hb'
  ·obtain⟨t',e2,hb'⟩:=wm hb'
   exact h.dis t t' (fun e=>ht (by rw[e];exact vf e2)) b o hb hb'
  ·obtain⟨t,-,hb⟩:=wm hb
   exact h.disS t b o hb (hb'.elim (·.2) (·.1))
  ·have hk:fy w' NO (fS shs) cs.length (if h:vs'.toArray.size=1 then vs'.toArray[0] else .tuple vs'.toArray)∧co w' S' (fun b o=>∃ t,t∉sles (DV 0 A pl)∧φ' t b o) cs (bR w' (fS shs) (if h:vs'.toArray.size=1 then vs'.toArray[0] else .tuple vs'.toArray)):=by
    match shs,hT,hone,hL with
    | [],hT,_,hL=>
     cases vs' with
     | cons _ _=>exact hT.elim
     | nil=>
      have:cs=[]:=List.eq_nil_of_length_eq_zero (by simpa[o6] using hL.symm)
      subst this
      exact⟨⟨_,rfl,trivial,rfl⟩,co.nil _ _ _ _⟩
    | [ag],_,hone,_=>
     obtain⟨v,rfl,hv⟩:=hone ag rfl
     have:=hv.slot (F:=F') (tv:=tvs a')
     obtain⟨X1,Y,h1,h2,h3,h4,h5⟩:=this
     refine⟨?_,h5.mono (fun _ _ h=>h) h2⟩
     cases ag<;>exact h4
    | ag::ag2::sh,hT,_,hL=>
     have hsz:¬vs'.toArray.size=1:=by
      match vs',hT with
      | [],hT=>simp
      | [v],hT=>cases ag<;>cases ag2<;>exact hT.2.elim
      | _::_::_,_=>simp
     rw[dif_neg hsz]
     refine⟨⟨_,rfl,hT,hL⟩,hrow.congr fun j hj=>?_⟩
     simp only[bR,fS,kF,hcells]
     simp[List.getD,hj]
   refine⟨hk.1,?_,hm.mono fun b o hb=>?_⟩
   ·rcases hsh with h1|h1
    ·exact hk.2.mono (fun b o hb=>.inl ⟨h1,hb⟩) (fun _ _ h=>h)
    ·exact(hk.2.fresh h1).mono (fun _ _ h=>h.elim) (fun _ _ h=>h)
   ·rcases(h.sup b o hb).2 with h3|h3|h3
    ·exact .inl h3
    ·exact .inr (.inr ⟨hb,.inr h3⟩)
    ·exact .inr (.inr ⟨hb,.inl h3⟩)
 cases e with
 | normal=>exact fin he
 | ret=>exact fin he
 | _=>exact he.elim
end
end Go.Proofs.YtplcalfnngkffaaGreat.Ab
/- Words for contracts: numbers, flags and texts as cells; rows that are written one by one; contracts by less or by frozen cells. No condition. -/
namespace Go.Proofs.YtplcalfnngkffaaGreat.Ab
open Go.RowKit
abbrev I (z:Int):C:=.v (.int .i64 z)
abbrev B (b:Bool):C:=.v (.bool b)
def rI (_:dE) (z:Int):List C:=[I z]
def rB (_:dE) (b:Bool):List C:=[B b]
theorem rE (z:Int):gq (rI .own z):=⟨trivial,trivial⟩
theorem y4 (b:Bool):gq (rB .own b):=⟨trivial,trivial⟩
def iD (z:Int):Prop:=-9223372036854775808≤z∧z≤9223372036854775807
def Pc (_:Bool):Prop:=True
def jg (s:Nat) (left:Int):Int:=if(s:Int)≤left then left - s else -1
theorem pX : Tryz.prog.follows .mixedOrders=true:=by kernel_rfl
theorem N8 {n f : Nat} {mo : List (Nat × List Nat)} {fn : Func} {c : Code} {sh : Bool} {A : List RA} {k : Kd} {rcs : List C} (hf : Tryz.prog.funcs[f]? = some fn) (hn : (fn.name == "runtime.NumGoroutine") = false) (hb : fn.body = some c) {tb : List (Nat × Nat × List Nat)} (hc : fT (ne tb) c = true)
  (hN:A.length+(fn.ntmps - A.length)=n) (hsh:sh=true∨gq rcs) (hp:aw Tryz.prog TE ⟨n,[],mo⟩ (DF Tryz.prog TE ⟨n,[],mo⟩ tb) c (LD TE fn.results.toList k rcs) (lay (zy 0 A))):ah Tryz.prog f sh A k rcs:=
 Jj vB hf hn hb (pZ vB pX ⟨n,[],mo⟩ tb) hc hN rfl hsh hp
theorem NL {n f : Nat} {mo : List (Nat × List Nat)} {fn : Func} {c : Code} {sh : Bool} {A B : List MA} {k : Kd} {rcs : List C} (pl : List (Nat × Nat)) (hf : Tryz.prog.funcs[f]? = some fn) (hn : (fn.name == "runtime.NumGoroutine") = false) (hb : fn.body = some c) {tb : List (Nat × Nat × List Nat)} (hc : fT (ne tb) c = true)
  (hN:A.length+(fn.ntmps - A.length)=n) (hok:Fu (DV 0 A pl)=true) (hsh:sh=true∨gq rcs)
  (hp:∀ (u:Nat→Nat→Value) (p:Nat→Value),aw Tryz.prog TE ⟨n,GI p 0 A,mo⟩ (DF Tryz.prog TE ⟨n,GI p 0 A,mo⟩ tb) c (MI TE fn.results.toList k rcs u A B pl) (lay (vq u 0 A))):aV Tryz.prog f sh A B k rcs:=
 H9 pl vB hf hn hb (fun N=>pZ vB pX N tb) hc hN hok hsh hp
theorem fU {x:Int} (h1 : -9223372036854775808≤x) (h2:x≤9223372036854775807):IntKind.i64.wrap x=x:=IntWalk.i64_in x (by constructor<;>assumption)
def JK:RA→RA→Prop
 | .val ag cs,.val ag' cs'=>ag=ag'∧cs=cs'
 | .ptr cs,.ptr cs'=>cs=cs'
 | A,A'=>A=A'
theorem JK.eq {A A':RA} (h:JK A A'):A=A':=by
 unfold JK at h
 split at h
 ·obtain⟨rfl,rfl⟩:=h;rfl
 ·rw[h]
 ·exact h
def Db:List RA→List RA→Prop
 | [],[]=>True
 | A::As,B::Bs=>JK A B∧Db As Bs
 | _,_=>False
theorem Db.eq:∀ {A A':List RA},Db A A'→A=A'
 | [],[],_=>rfl
 | A::As,B::Bs,h=>by rw[JK.eq h.1,Db.eq h.2]
 | [],_::_,h=>h.elim
 | _::_,[],h=>h.elim
theorem Cl.eq {P:Program} {f:Nat} {b:Bool} {A A':List RA} {K:AV→Prop} {k:Kd} {rcs:List C} (h:ah P f false A' k rcs) (hA:Db A A') (hK:K (.hold k rcs)):Cl P f b A K:=by rw[hA.eq];exact Cl.mk h hK
theorem ul {n b:Nat} (h:n≤1048576) (hb:b≤1000):n*b≤140737488355328:=Nat.le_trans (Nat.mul_le_mul h hb) (by decide)
theorem Cl.sz {P:Program} {f:Nat} {b:Bool} {A:List RA} {K:AV→Prop} {s:Nat} {L:Int} (h:ah P f false A .one [I (jg s L)]) (h1:L<s→K (.hold .one [I (-1)])) (h2:(s:Int)≤L→K (.hold .one [I (L - s)])):Cl P f b A K:=by
 refine Cl.mk h ?_
 unfold jg
 by_cases hs:(s:Int)≤L
 ·rw[if_pos hs];exact h2 hs
 ·rw[if_neg hs];exact h1 (by omega)
theorem Bf.NB {a b:Bool} {X Y:Prop} (h1:a≠b→X) (h2:a=b→Y):Bf (a != b) X Y:=by
 refine Bf.P (fun h=>h1 ?_) (fun h=>h2 ?_)
 ·simpa using h
 ·simpa using h
theorem Rw.one {bs:List C} {off i k j:Nat} {K:List C→Nat→Prop} {o:dE} {rows:List (List C)} {r:List C} (h1:bs[off]? = some (.s o rows)) (h2:rows[i]? = some r) (h3:r.length=k) (hK:K r j):Rw bs off [(i,k,j)] K:=
 Rw.mk (r:=r) (j:=j) (by simp[bS,h1,h2,h3]) hK
theorem br {α:Type} {l:List α} {i:Nat} {r r':α} (h:l[i]? = some r):(l.set i r')[i]? = some r':=by
 rw[List.getElem?_set_self (List.getElem?_eq_some_iff.1 h).1]
def gp {α:Type} (A B:List α) (i:Nat):List α:=A.take i++B.drop i
section
variable {α:Type} {A B:List α}
theorem cj:gp A B 0=B:=by simp[gp]
theorem dk (i:Nat) (h:A.length=B.length) (hi:i=B.length):gp A B i=A:=by subst hi;simp[gp,←h]
theorem gQ (h:A.length=B.length) (i:Nat):(gp A B i).length=B.length:=by simp[gp];omega
theorem dm (h:A.length=B.length) (i:Nat) (hi:i≤B.length):(gp A B i)[i]? = B[i]?:=by
 unfold gp
 rw[List.getElem?_append_right (by simp;omega),List.getElem?_drop]
 congr 1
 simp
 omega
theorem bE (h:A.length=B.length) {i:Nat} {a:α} (ha:A[i]? = some a):(gp A B i).set i a=gp A B (i+1):=by
 have hi:=(List.getElem?_eq_some_iff.1 ha).1
 unfold gp
 rw[List.set_append_right _ _ (by simp;omega)]
 have h1:i - (A.take i).length=0:=by simp;omega
 rw[h1,List.take_add_one,ha,List.append_assoc,List.drop_eq_getElem_cons (show i<B.length by omega)]
 rfl
end
theorem aa {α β:Type} {f:α→β} {l:List α} {k:Nat} {x:α} (h:l[k]? = some x):(l.map f)[k]? = some (f x):=by simp[h]
theorem gP {α:Type} {z:α} {n k:Nat} (h:k<n):(List.replicate n z)[k]? = some z:=by simp[h]
end Go.Proofs.YtplcalfnngkffaaGreat.Ab
/- The data of the program, its cells, its bulk and its marks. Printed by gen_data.py. No condition. -/
namespace Go.Proofs.YtplcalfnngkffaaGreat.Ab
open Go.RowKit
def aI (o:dE) (x:List Int):List C:=[.s o (x.map (rI o))]
theorem dO (x:List Int):ey (aI .own x)=aI .imm x:=by simp[ey,aI,rI,ey]
theorem bN (x:List Int):gq (aI .own x):=⟨⟨.inl fun h=>(by cases h),aT _ _ fun y _=>rE y⟩,trivial⟩
def eX (x:List Int):Prop:=x.length≤9223372036854775807∧∀ y∈x,iD y
def dU (x:List Int):Nat:=x.length
def szIntS (x:List Int):Nat:=x.length
def iR (x:List Int):Prop:=x.length≤1048576
def markIntS:List Int→Int→List Int
 | [],_=>[]
 | _::xs,k=>k::markIntS xs (k+1)
theorem mO:∀ (x:List Int) (k:Int),(markIntS x k).length=x.length
 | [],_=>rfl
 | _::xs,k=>by simp[markIntS,mO xs]
theorem m8:∀ (x:List Int) (k:Int) (i:Nat),i<x.length→(markIntS x k)[i]? = some (k+(i:Nat))
 | [],_,i,h=>by simp at h
 | _::xs,k,0,_=>by simp[markIntS]
 | _::xs,k,i+1,h=>by
  simp only[markIntS,List.getElem?_cons_succ]
  rw[m8 xs (k+1) i (by simpa using h)]
  rw[show k+1+(i:Int)=k+((i+1:Nat):Int) by omega]
def iP (_:List Int) (i:Nat):Nat:=i
theorem mM {x:List Int} (h:szIntS x≤1048576):iR x:=h
theorem mF (x:List Int):dU x≤8*szIntS x:=by unfold dU szIntS;omega
def ed (o:dE) (x:List (List Int)):List C:=[.s o (x.map (aI o))]
theorem HY (x:List (List Int)):gq (ed .own x):=⟨⟨.inl fun h=>(by cases h),aT _ _ fun y _=>bN y⟩,trivial⟩
def qS (x:List (List Int)):Prop:=x.length≤9223372036854775807∧∀ y∈x,eX y
def dv:List (List Int)→Nat
 | []=>0
 | x::xs=>dU x+dv xs
def gI:List (List Int)→Nat
 | []=>0
 | x::xs=>szIntS x+gI xs
def szIntSS (x:List (List Int)):Nat:=x.length+gI x
def iV (x:List (List Int)):Prop:=x.length≤1048576∧∀ y∈x,iR y
def markIntSS:List (List Int)→Int→List (List Int)
 | [],_=>[]
 | x::xs,k=>markIntS x k::markIntSS xs (k+(dU x:Nat))
theorem lH:∀ (x:List (List Int)) (k:Int),(markIntSS x k).length=x.length
 | [],_=>rfl
 | _::xs,k=>by simp[markIntSS,lH xs]
def dP:List (List Int)→Nat→Nat
 | [],_=>0
 | _::_,0=>0
 | x::xs,i+1=>dU x+dP xs i
theorem lU:∀ (x:List (List Int)) (k:Int) (i:Nat) (y:List Int),x[i]? = some y→(markIntSS x k)[i]? = some (markIntS y (k+(dP x i:Nat)))
 | [],_,i,y,h=>by simp at h
 | x::xs,k,0,y,h=>by simp at h;subst h;simp[markIntSS,dP]
 | x::xs,k,i+1,y,h=>by
  simp only[markIntSS,List.getElem?_cons_succ]
  rw[lU xs _ i y (by simpa using h)]
  congr 2
  simp only[dP]
  omega
theorem lA (x:List (List Int)):dP x 0=0:=by cases x<;>rfl
theorem lL:∀ (x:List (List Int)) (i:Nat) (y:List Int),x[i]? = some y→dP x (i+1)=dP x i+dU y
 | [],i,y,h=>by simp at h
 | x::xs,0,y,h=>by simp at h;subst h;simp[dP,lA]
 | x::xs,i+1,y,h=>by
  simp only[dP]
  rw[lL xs i y (by simpa using h)]
  omega
theorem mN:∀ (x:List (List Int)),dP x x.length=dv x
 | []=>rfl
 | x::xs=>by simp only[List.length_cons,dP,dv,mN xs]
theorem rj:∀ {x:List (List Int)} {y:List Int},y∈x→szIntS y≤gI x
 | [],y,h=>by simp at h
 | x::xs,y,h=>by
  simp only[gI]
  rcases List.mem_cons.1 h with rfl|h
  ·omega
  ·have:=rj h;omega
theorem oC {x:List (List Int)} (h:szIntSS x≤1048576):iV x:=⟨by unfold szIntSS at h;omega,fun y hy=>mM (by have:=rj hy;unfold szIntSS at h;omega)⟩
theorem q9:∀ (x:List (List Int)),dv x≤8*gI x
 | []=>by simp[dv]
 | x::xs=>by have:=q9 xs;have:=mF x;simp only[dv,gI];omega
theorem o8 (x:List (List Int)):dv x≤8*szIntSS x:=by have:=q9 x;unfold szIntSS;omega
def dX:List (List Int)→Nat→Nat
 | [],_=>0
 | _::_,0=>0
 | x::xs,i+1=>szIntS x+dX xs i
theorem k8 (x:List (List Int)):dX x 0=0:=by cases x<;>rfl
theorem nI:∀ (x:List (List Int)) (i:Nat) (y:List Int),x[i]? = some y→dX x (i+1)=dX x i+szIntS y
 | [],i,y,h=>by simp at h
 | x::xs,0,y,h=>by simp at h;subst h;simp[dX,k8]
 | x::xs,i+1,y,h=>by
  simp only[dX]
  rw[nI xs i y (by simpa using h)]
  omega
theorem pO:∀ (x:List (List Int)),dX x x.length=gI x
 | []=>rfl
 | x::xs=>by simp only[List.length_cons,dX,gI,pO xs]
theorem mX:∀ (x:List (List Int)) (i:Nat),dX x i≤gI x
 | [],_=>by simp[dX]
 | x::xs,0=>by simp[dX]
 | x::xs,i+1=>by simp only[dX,gI];have:=mX xs i;omega
theorem n9:∀ (x:List (List Int)) (i:Nat),dP x i≤dv x
 | [],_=>by simp[dP]
 | x::xs,0=>by simp[dP]
 | x::xs,i+1=>by simp only[dP,dv];have:=n9 xs i;omega
def fu (o:dE) (x:List Bool):List C:=[.s o (x.map (rB o))]
theorem HT (x:List Bool):gq (fu .own x):=⟨⟨.inl fun h=>(by cases h),aT _ _ fun y _=>y4 y⟩,trivial⟩
def zF (x:List Bool):Prop:=x.length≤9223372036854775807∧∀ y∈x,Pc y
def fE (x:List Bool):Nat:=x.length
def szBoolS (x:List Bool):Nat:=x.length
def lZ (x:List Bool):Prop:=x.length≤1048576
def markBoolS:List Bool→Int→List Bool
 | [],_=>[]
 | _::xs,k=>decide (k.tmod 3=0)::markBoolS xs (k+1)
theorem lF:∀ (x:List Bool) (k:Int),(markBoolS x k).length=x.length
 | [],_=>rfl
 | _::xs,k=>by simp[markBoolS,lF xs]
theorem lJ:∀ (x:List Bool) (k:Int) (i:Nat),i<x.length→(markBoolS x k)[i]? = some (decide ((k+(i:Nat)).tmod 3=0))
 | [],_,i,h=>by simp at h
 | _::xs,k,0,_=>by simp[markBoolS]
 | _::xs,k,i+1,h=>by
  simp only[markBoolS,List.getElem?_cons_succ]
  rw[lJ xs (k+1) i (by simpa using h)]
  rw[show k+1+(i:Int)=k+((i+1:Nat):Int) by omega]
def gK (_:List Bool) (i:Nat):Nat:=i
theorem Eh {x:List Bool} (h:szBoolS x≤1048576):lZ x:=h
theorem El (x:List Bool):fE x≤8*szBoolS x:=by unfold fE szBoolS;omega
structure aD where
 Cells:List (List Int)
 Used:List Bool
deriving DecidableEq,Inhabited
def aD.enc (o:dE) (x:aD):List C:=[.s o (x.Cells.map (aI o)),.s o (x.Used.map (rB o))]
theorem aD.enc_fz (x:aD):ey (aD.enc .own x)=aD.enc .imm x:=by simp[ey,aD.enc,rB,dO,←cr,Function.comp_def]
theorem aD.enc_fr (x:aD):gq (aD.enc .own x):=⟨⟨.inl fun h=>(by cases h),aT _ _ fun y _=>bN y⟩,⟨.inl fun h=>(by cases h),aT _ _ fun y _=>y4 y⟩,trivial⟩
def aD.wf (x:aD):Prop:=qS x.Cells∧zF x.Used
def aD.cnt (x:aD):Nat:=dv x.Cells+fE x.Used
def aD.sz (x:aD):Nat:=szIntSS x.Cells+szBoolS x.Used
def aD.sml (x:aD):Prop:=iV x.Cells∧lZ x.Used
theorem aD.sml_of {x:aD} (h:aD.sz x≤1048576):aD.sml x:=⟨oC (by unfold aD.sz at h;omega),Eh (by unfold aD.sz at h;omega)⟩
theorem aD.cnt_le (x:aD):aD.cnt x≤8*aD.sz x:=by unfold aD.cnt aD.sz;have:=o8 x.Cells;have:=El x.Used;omega
def aD.mark (x:aD) (k:Int):aD:={x with Cells:=markIntSS x.Cells (k),Used:=markBoolS x.Used (k+(dv x.Cells:Nat))}
structure aG where
 Mode:Int
 Frame:Int
deriving DecidableEq,Inhabited
def aG.enc (o:dE) (x:aG):List C:=[I x.Mode,I x.Frame]
theorem aG.enc_fz (x:aG):ey (aG.enc .own x)=aG.enc .imm x:=by simp[ey,aG.enc]
theorem aG.enc_fr (x:aG):gq (aG.enc .own x):=⟨trivial,trivial,trivial⟩
def aG.wf (x:aG):Prop:=iD x.Mode∧iD x.Frame
def aG.cnt (_:aG):Nat:=2
def aG.sml (_:aG):Prop:=True
def aG.sz (_:aG):Nat:=0
theorem aG.sml_of {x:aG} (_:aG.sz x≤1048576):aG.sml x:=trivial
def aG.mark (_:aG) (k:Int):aG:=⟨k,k+1⟩
def ef (o:dE) (x:List aG):List C:=[.s o (x.map (aG.enc o))]
theorem Do (x:List aG):gq (ef .own x):=⟨⟨.inl fun h=>(by cases h),aT _ _ fun y _=>aG.enc_fr y⟩,trivial⟩
def sI (x:List aG):Prop:=x.length≤9223372036854775807∧∀ y∈x,aG.wf y
def cX:List aG→Nat
 | []=>0
 | x::xs=>aG.cnt x+cX xs
def kh (x:List aG):Nat:=x.length
def iN (x:List aG):Prop:=x.length≤1048576∧∀ y∈x,aG.sml y
def dA:List aG→Int→List aG
 | [],_=>[]
 | x::xs,k=>aG.mark x k::dA xs (k+(aG.cnt x:Nat))
theorem jx:∀ (x:List aG) (k:Int),(dA x k).length=x.length
 | [],_=>rfl
 | _::xs,k=>by simp[dA,jx xs]
def cx:List aG→Nat→Nat
 | [],_=>0
 | _::_,0=>0
 | x::xs,i+1=>aG.cnt x+cx xs i
theorem jC:∀ (x:List aG) (k:Int) (i:Nat) (y:aG),x[i]? = some y→(dA x k)[i]? = some (aG.mark y (k+(cx x i:Nat)))
 | [],_,i,y,h=>by simp at h
 | x::xs,k,0,y,h=>by simp at h;subst h;simp[dA,cx]
 | x::xs,k,i+1,y,h=>by
  simp only[dA,List.getElem?_cons_succ]
  rw[jC xs _ i y (by simpa using h)]
  congr 2
  simp only[cx]
  omega
theorem jA (x:List aG):cx x 0=0:=by cases x<;>rfl
theorem jk:∀ (x:List aG) (i:Nat) (y:aG),x[i]? = some y→cx x (i+1)=cx x i+aG.cnt y
 | [],i,y,h=>by simp at h
 | x::xs,0,y,h=>by simp at h;subst h;simp[cx,jA]
 | x::xs,i+1,y,h=>by
  simp only[cx]
  rw[jk xs i y (by simpa using h)]
  omega
theorem ky:∀ (x:List aG),cx x x.length=cX x
 | []=>rfl
 | x::xs=>by simp only[List.length_cons,cx,cX,ky xs]
theorem ya {x:List aG} (h:kh x≤1048576):iN x:=⟨h,fun _ _=>trivial⟩
theorem pC:∀ (x:List aG),cX x≤8*kh x
 | []=>by simp[cX]
 | x::xs=>by have:=pC xs;simp only[cX,kh,List.length_cons,aG.cnt]at this ⊢;omega
theorem lD:∀ (x:List aG) (i:Nat),cx x i≤cX x
 | [],_=>by simp[cx]
 | x::xs,0=>by simp[cx]
 | x::xs,i+1=>by simp only[cx,cX];have:=lD xs i;omega
structure aB where
 Entries:List aG
deriving DecidableEq,Inhabited
def aB.enc (o:dE) (x:aB):List C:=[.s o (x.Entries.map (aG.enc o))]
theorem aB.enc_fz (x:aB):ey (aB.enc .own x)=aB.enc .imm x:=by simp[ey,aB.enc,aG.enc_fz,←cr,Function.comp_def]
theorem aB.enc_fr (x:aB):gq (aB.enc .own x):=⟨⟨.inl fun h=>(by cases h),aT _ _ fun y _=>aG.enc_fr y⟩,trivial⟩
def aB.wf (x:aB):Prop:=sI x.Entries
def aB.cnt (x:aB):Nat:=cX x.Entries
def aB.sz (x:aB):Nat:=kh x.Entries
def aB.sml (x:aB):Prop:=iN x.Entries
theorem aB.sml_of {x:aB} (h:aB.sz x≤1048576):aB.sml x:=ya (by unfold aB.sz at h;omega)
theorem aB.cnt_le (x:aB):aB.cnt x≤8*aB.sz x:=by unfold aB.cnt aB.sz;have:=pC x.Entries;omega
def aB.mark (x:aB) (k:Int):aB:={x with Entries:=dA x.Entries (k)}
structure aA where
 Frames:aD
 Table:aB
deriving DecidableEq,Inhabited
def aA.enc (o:dE) (x:aA):List C:=[.s o (x.Frames.Cells.map (aI o)),.s o (x.Frames.Used.map (rB o)),.s o (x.Table.Entries.map (aG.enc o))]
theorem aA.enc_fz (x:aA):ey (aA.enc .own x)=aA.enc .imm x:=by simp[ey,aA.enc,aG.enc_fz,rB,dO,←cr,Function.comp_def]
theorem aA.enc_fr (x:aA):gq (aA.enc .own x):=⟨⟨.inl fun h=>(by cases h),aT _ _ fun y _=>bN y⟩,⟨.inl fun h=>(by cases h),aT _ _ fun y _=>y4 y⟩,⟨.inl fun h=>(by cases h),aT _ _ fun y _=>aG.enc_fr y⟩,trivial⟩
def aA.wf (x:aA):Prop:=aD.wf x.Frames∧aB.wf x.Table
def aA.cnt (x:aA):Nat:=aD.cnt x.Frames+aB.cnt x.Table
def aA.sz (x:aA):Nat:=aD.sz x.Frames+aB.sz x.Table
def aA.sml (x:aA):Prop:=aD.sml x.Frames∧aB.sml x.Table
theorem aA.sml_of {x:aA} (h:aA.sz x≤1048576):aA.sml x:=⟨aD.sml_of (by unfold aA.sz at h;omega),aB.sml_of (by unfold aA.sz at h;omega)⟩
theorem aA.cnt_le (x:aA):aA.cnt x≤8*aA.sz x:=by unfold aA.cnt aA.sz;have:=aD.cnt_le x.Frames;have:=aB.cnt_le x.Table;omega
def aA.mark (x:aA) (k:Int):aA:={x with Frames:=aD.mark x.Frames (k),Table:=aB.mark x.Table (k+(aD.cnt x.Frames:Nat))}
structure af where
 Machine:aA
 Calls:Int
 Refuse:List Int
deriving DecidableEq,Inhabited
def af.enc (o:dE) (x:af):List C:=[.s o (x.Machine.Frames.Cells.map (aI o)),.s o (x.Machine.Frames.Used.map (rB o)),.s o (x.Machine.Table.Entries.map (aG.enc o)),I x.Calls,.s o (x.Refuse.map (rI o))]
theorem af.enc_fz (x:af):ey (af.enc .own x)=af.enc .imm x:=by simp[ey,af.enc,aG.enc_fz,rB,rI,dO,←cr,Function.comp_def]
theorem af.enc_fr (x:af):gq (af.enc .own x):=⟨⟨.inl fun h=>(by cases h),aT _ _ fun y _=>bN y⟩,⟨.inl fun h=>(by cases h),aT _ _ fun y _=>y4 y⟩,⟨.inl fun h=>(by cases h),aT _ _ fun y _=>aG.enc_fr y⟩,trivial,⟨.inl fun h=>(by cases h),aT _ _ fun y _=>rE y⟩,trivial⟩
def af.wf (x:af):Prop:=aA.wf x.Machine∧iD x.Calls∧eX x.Refuse
def af.cnt (x:af):Nat:=aA.cnt x.Machine+dU x.Refuse
def af.sz (x:af):Nat:=aA.sz x.Machine+szIntS x.Refuse
def af.sml (x:af):Prop:=aA.sml x.Machine∧iR x.Refuse
theorem af.sml_of {x:af} (h:af.sz x≤1048576):af.sml x:=⟨aA.sml_of (by unfold af.sz at h;omega),mM (by unfold af.sz at h;omega)⟩
theorem af.cnt_le (x:af):af.cnt x≤8*af.sz x:=by unfold af.cnt af.sz;have:=aA.cnt_le x.Machine;have:=mF x.Refuse;omega
def af.mark (x:af) (k:Int):af:={x with Machine:=aA.mark x.Machine (k),Refuse:=markIntS x.Refuse (k+(aA.cnt x.Machine:Nat))}
structure ar where
 At:Int
 Len:Int
deriving DecidableEq,Inhabited
def ar.enc (o:dE) (x:ar):List C:=[I x.At,I x.Len]
theorem ar.enc_fz (x:ar):ey (ar.enc .own x)=ar.enc .imm x:=by simp[ey,ar.enc]
theorem ar.enc_fr (x:ar):gq (ar.enc .own x):=⟨trivial,trivial,trivial⟩
def ar.wf (x:ar):Prop:=iD x.At∧iD x.Len
def ar.cnt (_:ar):Nat:=2
def ar.sml (_:ar):Prop:=True
def ar.sz (_:ar):Nat:=0
theorem ar.sml_of {x:ar} (_:ar.sz x≤1048576):ar.sml x:=trivial
def ar.mark (_:ar) (k:Int):ar:=⟨k,k+1⟩
def bg (o:dE) (x:List ar):List C:=[.s o (x.map (ar.enc o))]
theorem ll (x:List ar):ey (bg .own x)=bg .imm x:=by simp[ey,bg,ar.enc_fz,←cr,Function.comp_def]
theorem kV (x:List ar):gq (bg .own x):=⟨⟨.inl fun h=>(by cases h),aT _ _ fun y _=>ar.enc_fr y⟩,trivial⟩
def sU (x:List ar):Prop:=x.length≤9223372036854775807∧∀ y∈x,ar.wf y
def bH:List ar→Nat
 | []=>0
 | x::xs=>ar.cnt x+bH xs
def kj (x:List ar):Nat:=x.length
def dK (x:List ar):Prop:=x.length≤1048576∧∀ y∈x,ar.sml y
def dB:List ar→Int→List ar
 | [],_=>[]
 | x::xs,k=>ar.mark x k::dB xs (k+(ar.cnt x:Nat))
theorem jz:∀ (x:List ar) (k:Int),(dB x k).length=x.length
 | [],_=>rfl
 | _::xs,k=>by simp[dB,jz xs]
def cA:List ar→Nat→Nat
 | [],_=>0
 | _::_,0=>0
 | x::xs,i+1=>ar.cnt x+cA xs i
theorem jm:∀ (x:List ar) (k:Int) (i:Nat) (y:ar),x[i]? = some y→(dB x k)[i]? = some (ar.mark y (k+(cA x i:Nat)))
 | [],_,i,y,h=>by simp at h
 | x::xs,k,0,y,h=>by simp at h;subst h;simp[dB,cA]
 | x::xs,k,i+1,y,h=>by
  simp only[dB,List.getElem?_cons_succ]
  rw[jm xs _ i y (by simpa using h)]
  congr 2
  simp only[cA]
  omega
theorem jo (x:List ar):cA x 0=0:=by cases x<;>rfl
theorem j9:∀ (x:List ar) (i:Nat) (y:ar),x[i]? = some y→cA x (i+1)=cA x i+ar.cnt y
 | [],i,y,h=>by simp at h
 | x::xs,0,y,h=>by simp at h;subst h;simp[cA,jo]
 | x::xs,i+1,y,h=>by
  simp only[cA]
  rw[j9 xs i y (by simpa using h)]
  omega
theorem kr:∀ (x:List ar),cA x x.length=bH x
 | []=>rfl
 | x::xs=>by simp only[List.length_cons,cA,bH,kr xs]
theorem xV {x:List ar} (h:kj x≤1048576):dK x:=⟨h,fun _ _=>trivial⟩
theorem pF:∀ (x:List ar),bH x≤8*kj x
 | []=>by simp[bH]
 | x::xs=>by have:=pF xs;simp only[bH,kj,List.length_cons,ar.cnt]at this ⊢;omega
theorem lR:∀ (x:List ar) (i:Nat),cA x i≤bH x
 | [],_=>by simp[cA]
 | x::xs,0=>by simp[cA]
 | x::xs,i+1=>by simp only[cA,bH];have:=lR xs i;omega
structure am where
 Page:Int
 Class:Int
 Bits:Int
deriving DecidableEq,Inhabited
def am.enc (o:dE) (x:am):List C:=[I x.Page,I x.Class,I x.Bits]
theorem am.enc_fz (x:am):ey (am.enc .own x)=am.enc .imm x:=by simp[ey,am.enc]
theorem am.enc_fr (x:am):gq (am.enc .own x):=⟨trivial,trivial,trivial,trivial⟩
def am.wf (x:am):Prop:=iD x.Page∧iD x.Class∧iD x.Bits
def am.cnt (_:am):Nat:=3
def am.sml (_:am):Prop:=True
def am.sz (_:am):Nat:=0
theorem am.sml_of {x:am} (_:am.sz x≤1048576):am.sml x:=trivial
def am.mark (_:am) (k:Int):am:=⟨k,k+1,k+1+1⟩
def bm (o:dE) (x:List am):List C:=[.s o (x.map (am.enc o))]
theorem fp (x:List am):ey (bm .own x)=bm .imm x:=by simp[ey,bm,am.enc_fz,←cr,Function.comp_def]
theorem qv (x:List am):gq (bm .own x):=⟨⟨.inl fun h=>(by cases h),aT _ _ fun y _=>am.enc_fr y⟩,trivial⟩
def vt (x:List am):Prop:=x.length≤9223372036854775807∧∀ y∈x,am.wf y
def bQ:List am→Nat
 | []=>0
 | x::xs=>am.cnt x+bQ xs
def mq (x:List am):Nat:=x.length
def cC (x:List am):Prop:=x.length≤1048576∧∀ y∈x,am.sml y
def ec:List am→Int→List am
 | [],_=>[]
 | x::xs,k=>am.mark x k::ec xs (k+(am.cnt x:Nat))
theorem ko:∀ (x:List am) (k:Int),(ec x k).length=x.length
 | [],_=>rfl
 | _::xs,k=>by simp[ec,ko xs]
def dd:List am→Nat→Nat
 | [],_=>0
 | _::_,0=>0
 | x::xs,i+1=>am.cnt x+dd xs i
theorem ku:∀ (x:List am) (k:Int) (i:Nat) (y:am),x[i]? = some y→(ec x k)[i]? = some (am.mark y (k+(dd x i:Nat)))
 | [],_,i,y,h=>by simp at h
 | x::xs,k,0,y,h=>by simp at h;subst h;simp[ec,dd]
 | x::xs,k,i+1,y,h=>by
  simp only[ec,List.getElem?_cons_succ]
  rw[ku xs _ i y (by simpa using h)]
  congr 2
  simp only[dd]
  omega
theorem kL (x:List am):dd x 0=0:=by cases x<;>rfl
theorem kx:∀ (x:List am) (i:Nat) (y:am),x[i]? = some y→dd x (i+1)=dd x i+am.cnt y
 | [],i,y,h=>by simp at h
 | x::xs,0,y,h=>by simp at h;subst h;simp[dd,kL]
 | x::xs,i+1,y,h=>by
  simp only[dd]
  rw[kx xs i y (by simpa using h)]
  omega
theorem lM:∀ (x:List am),dd x x.length=bQ x
 | []=>rfl
 | x::xs=>by simp only[List.length_cons,dd,bQ,lM xs]
theorem zM {x:List am} (h:mq x≤1048576):cC x:=⟨h,fun _ _=>trivial⟩
theorem qN:∀ (x:List am),bQ x≤8*mq x
 | []=>by simp[bQ]
 | x::xs=>by have:=qN xs;simp only[bQ,mq,List.length_cons,am.cnt]at this ⊢;omega
theorem m9:∀ (x:List am) (i:Nat),dd x i≤bQ x
 | [],_=>by simp[dd]
 | x::xs,0=>by simp[dd]
 | x::xs,i+1=>by simp only[dd,bQ];have:=m9 xs i;omega
structure au where
 Page:Int
 Pages:Int
 Size:Int
deriving DecidableEq,Inhabited
def au.enc (o:dE) (x:au):List C:=[I x.Page,I x.Pages,I x.Size]
theorem au.enc_fz (x:au):ey (au.enc .own x)=au.enc .imm x:=by simp[ey,au.enc]
theorem au.enc_fr (x:au):gq (au.enc .own x):=⟨trivial,trivial,trivial,trivial⟩
def au.wf (x:au):Prop:=iD x.Page∧iD x.Pages∧iD x.Size
def au.cnt (_:au):Nat:=3
def au.sml (_:au):Prop:=True
def au.sz (_:au):Nat:=0
theorem au.sml_of {x:au} (_:au.sz x≤1048576):au.sml x:=trivial
def au.mark (_:au) (k:Int):au:=⟨k,k+1,k+1+1⟩
def bn (o:dE) (x:List au):List C:=[.s o (x.map (au.enc o))]
theorem lm (x:List au):ey (bn .own x)=bn .imm x:=by simp[ey,bn,au.enc_fz,←cr,Function.comp_def]
theorem Dd (x:List au):gq (bn .own x):=⟨⟨.inl fun h=>(by cases h),aT _ _ fun y _=>au.enc_fr y⟩,trivial⟩
def rU (x:List au):Prop:=x.length≤9223372036854775807∧∀ y∈x,au.wf y
def bG:List au→Nat
 | []=>0
 | x::xs=>au.cnt x+bG xs
def kc (x:List au):Nat:=x.length
def cg (x:List au):Prop:=x.length≤1048576∧∀ y∈x,au.sml y
def dC:List au→Int→List au
 | [],_=>[]
 | x::xs,k=>au.mark x k::dC xs (k+(au.cnt x:Nat))
theorem jv:∀ (x:List au) (k:Int),(dC x k).length=x.length
 | [],_=>rfl
 | _::xs,k=>by simp[dC,jv xs]
def cv:List au→Nat→Nat
 | [],_=>0
 | _::_,0=>0
 | x::xs,i+1=>au.cnt x+cv xs i
theorem j8:∀ (x:List au) (k:Int) (i:Nat) (y:au),x[i]? = some y→(dC x k)[i]? = some (au.mark y (k+(cv x i:Nat)))
 | [],_,i,y,h=>by simp at h
 | x::xs,k,0,y,h=>by simp at h;subst h;simp[dC,cv]
 | x::xs,k,i+1,y,h=>by
  simp only[dC,List.getElem?_cons_succ]
  rw[j8 xs _ i y (by simpa using h)]
  congr 2
  simp only[cv]
  omega
theorem jD (x:List au):cv x 0=0:=by cases x<;>rfl
theorem ji:∀ (x:List au) (i:Nat) (y:au),x[i]? = some y→cv x (i+1)=cv x i+au.cnt y
 | [],i,y,h=>by simp at h
 | x::xs,0,y,h=>by simp at h;subst h;simp[cv,jD]
 | x::xs,i+1,y,h=>by
  simp only[cv]
  rw[ji xs i y (by simpa using h)]
  omega
theorem kJ:∀ (x:List au),cv x x.length=bG x
 | []=>rfl
 | x::xs=>by simp only[List.length_cons,cv,bG,kJ xs]
theorem xt {x:List au} (h:kc x≤1048576):cg x:=⟨h,fun _ _=>trivial⟩
theorem pt:∀ (x:List au),bG x≤8*kc x
 | []=>by simp[bG]
 | x::xs=>by have:=pt xs;simp only[bG,kc,List.length_cons,au.cnt]at this ⊢;omega
theorem lP:∀ (x:List au) (i:Nat),cv x i≤bG x
 | [],_=>by simp[cv]
 | x::xs,0=>by simp[cv]
 | x::xs,i+1=>by simp only[cv,bG];have:=lP xs i;omega
structure aX where
 Id:Int
 Addr:Int
 Size:Int
 Thread:Int
deriving DecidableEq,Inhabited
def aX.enc (o:dE) (x:aX):List C:=[I x.Id,I x.Addr,I x.Size,I x.Thread]
theorem aX.enc_fz (x:aX):ey (aX.enc .own x)=aX.enc .imm x:=by simp[ey,aX.enc]
theorem aX.enc_fr (x:aX):gq (aX.enc .own x):=⟨trivial,trivial,trivial,trivial,trivial⟩
def aX.wf (x:aX):Prop:=iD x.Id∧iD x.Addr∧iD x.Size∧iD x.Thread
def aX.cnt (_:aX):Nat:=4
def aX.sml (_:aX):Prop:=True
def aX.sz (_:aX):Nat:=0
theorem aX.sml_of {x:aX} (_:aX.sz x≤1048576):aX.sml x:=trivial
def aX.mark (_:aX) (k:Int):aX:=⟨k,k+1,k+1+1,k+1+1+1⟩
def eD (o:dE) (x:List aX):List C:=[.s o (x.map (aX.enc o))]
theorem HP (x:List aX):ey (eD .own x)=eD .imm x:=by simp[ey,eD,aX.enc_fz,←cr,Function.comp_def]
theorem HU (x:List aX):gq (eD .own x):=⟨⟨.inl fun h=>(by cases h),aT _ _ fun y _=>aX.enc_fr y⟩,trivial⟩
def AY (x:List aX):Prop:=x.length≤9223372036854775807∧∀ y∈x,aX.wf y
def cS:List aX→Nat
 | []=>0
 | x::xs=>aX.cnt x+cS xs
def oP (x:List aX):Nat:=x.length
def mn (x:List aX):Prop:=x.length≤1048576∧∀ y∈x,aX.sml y
def eI:List aX→Int→List aX
 | [],_=>[]
 | x::xs,k=>aX.mark x k::eI xs (k+(aX.cnt x:Nat))
theorem lW:∀ (x:List aX) (k:Int),(eI x k).length=x.length
 | [],_=>rfl
 | _::xs,k=>by simp[eI,lW xs]
def dN:List aX→Nat→Nat
 | [],_=>0
 | _::_,0=>0
 | x::xs,i+1=>aX.cnt x+dN xs i
theorem lI:∀ (x:List aX) (k:Int) (i:Nat) (y:aX),x[i]? = some y→(eI x k)[i]? = some (aX.mark y (k+(dN x i:Nat)))
 | [],_,i,y,h=>by simp at h
 | x::xs,k,0,y,h=>by simp at h;subst h;simp[eI,dN]
 | x::xs,k,i+1,y,h=>by
  simp only[eI,List.getElem?_cons_succ]
  rw[lI xs _ i y (by simpa using h)]
  congr 2
  simp only[dN]
  omega
theorem lY (x:List aX):dN x 0=0:=by cases x<;>rfl
theorem lG:∀ (x:List aX) (i:Nat) (y:aX),x[i]? = some y→dN x (i+1)=dN x i+aX.cnt y
 | [],i,y,h=>by simp at h
 | x::xs,0,y,h=>by simp at h;subst h;simp[dN,lY]
 | x::xs,i+1,y,h=>by
  simp only[dN]
  rw[lG xs i y (by simpa using h)]
  omega
theorem mG:∀ (x:List aX),dN x x.length=cS x
 | []=>rfl
 | x::xs=>by simp only[List.length_cons,dN,cS,mG xs]
theorem B8 {x:List aX} (h:oP x≤1048576):mn x:=⟨h,fun _ _=>trivial⟩
theorem tH:∀ (x:List aX),cS x≤8*oP x
 | []=>by simp[cS]
 | x::xs=>by have:=tH xs;simp only[cS,oP,List.length_cons,aX.cnt]at this ⊢;omega
theorem ov:∀ (x:List aX) (i:Nat),dN x i≤cS x
 | [],_=>by simp[dN]
 | x::xs,0=>by simp[dN]
 | x::xs,i+1=>by simp only[dN,cS];have:=ov xs i;omega
structure ay where
 Lists:List (List Int)
deriving DecidableEq,Inhabited
def ay.enc (o:dE) (x:ay):List C:=[.s o (x.Lists.map (aI o))]
theorem ay.enc_fz (x:ay):ey (ay.enc .own x)=ay.enc .imm x:=by simp[ey,ay.enc,dO,←cr,Function.comp_def]
theorem ay.enc_fr (x:ay):gq (ay.enc .own x):=⟨⟨.inl fun h=>(by cases h),aT _ _ fun y _=>bN y⟩,trivial⟩
def ay.wf (x:ay):Prop:=qS x.Lists
def ay.cnt (x:ay):Nat:=dv x.Lists
def ay.sz (x:ay):Nat:=szIntSS x.Lists
def ay.sml (x:ay):Prop:=iV x.Lists
theorem ay.sml_of {x:ay} (h:ay.sz x≤1048576):ay.sml x:=oC (by unfold ay.sz at h;omega)
theorem ay.cnt_le (x:ay):ay.cnt x≤8*ay.sz x:=by unfold ay.cnt ay.sz;have:=o8 x.Lists;omega
def ay.mark (x:ay) (k:Int):ay:={x with Lists:=markIntSS x.Lists (k)}
def dh (o:dE) (x:List ay):List C:=[.s o (x.map (ay.enc o))]
theorem Ee (x:List ay):gq (dh .own x):=⟨⟨.inl fun h=>(by cases h),aT _ _ fun y _=>ay.enc_fr y⟩,trivial⟩
def sK (x:List ay):Prop:=x.length≤9223372036854775807∧∀ y∈x,ay.wf y
def bY:List ay→Nat
 | []=>0
 | x::xs=>ay.cnt x+bY xs
def eQ:List ay→Nat
 | []=>0
 | x::xs=>ay.sz x+eQ xs
def fQ (x:List ay):Nat:=x.length+eQ x
def iI (x:List ay):Prop:=x.length≤1048576∧∀ y∈x,ay.sml y
def dy:List ay→Int→List ay
 | [],_=>[]
 | x::xs,k=>ay.mark x k::dy xs (k+(ay.cnt x:Nat))
theorem jG:∀ (x:List ay) (k:Int),(dy x k).length=x.length
 | [],_=>rfl
 | _::xs,k=>by simp[dy,jG xs]
def cu:List ay→Nat→Nat
 | [],_=>0
 | _::_,0=>0
 | x::xs,i+1=>ay.cnt x+cu xs i
theorem jw:∀ (x:List ay) (k:Int) (i:Nat) (y:ay),x[i]? = some y→(dy x k)[i]? = some (ay.mark y (k+(cu x i:Nat)))
 | [],_,i,y,h=>by simp at h
 | x::xs,k,0,y,h=>by simp at h;subst h;simp[dy,cu]
 | x::xs,k,i+1,y,h=>by
  simp only[dy,List.getElem?_cons_succ]
  rw[jw xs _ i y (by simpa using h)]
  congr 2
  simp only[cu]
  omega
theorem jt (x:List ay):cu x 0=0:=by cases x<;>rfl
theorem jr:∀ (x:List ay) (i:Nat) (y:ay),x[i]? = some y→cu x (i+1)=cu x i+ay.cnt y
 | [],i,y,h=>by simp at h
 | x::xs,0,y,h=>by simp at h;subst h;simp[cu,jt]
 | x::xs,i+1,y,h=>by
  simp only[cu]
  rw[jr xs i y (by simpa using h)]
  omega
theorem kv:∀ (x:List ay),cu x x.length=bY x
 | []=>rfl
 | x::xs=>by simp only[List.length_cons,cu,bY,kv xs]
theorem nH:∀ {x:List ay} {y:ay},y∈x→ay.sz y≤eQ x
 | [],y,h=>by simp at h
 | x::xs,y,h=>by
  simp only[eQ]
  rcases List.mem_cons.1 h with rfl|h
  ·omega
  ·have:=nH h;omega
theorem xH {x:List ay} (h:fQ x≤1048576):iI x:=⟨by unfold fQ at h;omega,fun y hy=>ay.sml_of (by have:=nH hy;unfold fQ at h;omega)⟩
theorem nB:∀ (x:List ay),bY x≤8*eQ x
 | []=>by simp[bY]
 | x::xs=>by have:=nB xs;have:=ay.cnt_le x;simp only[bY,eQ];omega
theorem yb (x:List ay):bY x≤8*fQ x:=by have:=nB x;unfold fQ;omega
def cO:List ay→Nat→Nat
 | [],_=>0
 | _::_,0=>0
 | x::xs,i+1=>ay.sz x+cO xs i
theorem iL (x:List ay):cO x 0=0:=by cases x<;>rfl
theorem mg:∀ (x:List ay) (i:Nat) (y:ay),x[i]? = some y→cO x (i+1)=cO x i+ay.sz y
 | [],i,y,h=>by simp at h
 | x::xs,0,y,h=>by simp at h;subst h;simp[cO,iL]
 | x::xs,i+1,y,h=>by
  simp only[cO]
  rw[mg xs i y (by simpa using h)]
  omega
theorem nv:∀ (x:List ay),cO x x.length=eQ x
 | []=>rfl
 | x::xs=>by simp only[List.length_cons,cO,eQ,nv xs]
theorem kB:∀ (x:List ay) (i:Nat),cO x i≤eQ x
 | [],_=>by simp[cO]
 | x::xs,0=>by simp[cO]
 | x::xs,i+1=>by simp only[cO,eQ];have:=kB xs i;omega
theorem lC:∀ (x:List ay) (i:Nat),cu x i≤bY x
 | [],_=>by simp[cu]
 | x::xs,0=>by simp[cu]
 | x::xs,i+1=>by simp only[cu,bY];have:=lC xs i;omega
structure aM where
 To:Int
 Addr:Int
deriving DecidableEq,Inhabited
def aM.enc (o:dE) (x:aM):List C:=[I x.To,I x.Addr]
theorem aM.enc_fz (x:aM):ey (aM.enc .own x)=aM.enc .imm x:=by simp[ey,aM.enc]
theorem aM.enc_fr (x:aM):gq (aM.enc .own x):=⟨trivial,trivial,trivial⟩
def aM.wf (x:aM):Prop:=iD x.To∧iD x.Addr
def aM.cnt (_:aM):Nat:=2
def aM.sml (_:aM):Prop:=True
def aM.sz (_:aM):Nat:=0
theorem aM.sml_of {x:aM} (_:aM.sz x≤1048576):aM.sml x:=trivial
def aM.mark (_:aM) (k:Int):aM:=⟨k,k+1⟩
def b6 (o:dE) (x:List aM):List C:=[.s o (x.map (aM.enc o))]
theorem mD (x:List aM):ey (b6 .own x)=b6 .imm x:=by simp[ey,b6,aM.enc_fz,←cr,Function.comp_def]
theorem k5 (x:List aM):gq (b6 .own x):=⟨⟨.inl fun h=>(by cases h),aT _ _ fun y _=>aM.enc_fr y⟩,trivial⟩
def wl (x:List aM):Prop:=x.length≤9223372036854775807∧∀ y∈x,aM.wf y
def dx:List aM→Nat
 | []=>0
 | x::xs=>aM.cnt x+dx xs
def iz (x:List aM):Nat:=x.length
def km (x:List aM):Prop:=x.length≤1048576∧∀ y∈x,aM.sml y
def dJ:List aM→Int→List aM
 | [],_=>[]
 | x::xs,k=>aM.mark x k::dJ xs (k+(aM.cnt x:Nat))
theorem kH:∀ (x:List aM) (k:Int),(dJ x k).length=x.length
 | [],_=>rfl
 | _::xs,k=>by simp[dJ,kH xs]
def db:List aM→Nat→Nat
 | [],_=>0
 | _::_,0=>0
 | x::xs,i+1=>aM.cnt x+db xs i
theorem kE:∀ (x:List aM) (k:Int) (i:Nat) (y:aM),x[i]? = some y→(dJ x k)[i]? = some (aM.mark y (k+(db x i:Nat)))
 | [],_,i,y,h=>by simp at h
 | x::xs,k,0,y,h=>by simp at h;subst h;simp[dJ,db]
 | x::xs,k,i+1,y,h=>by
  simp only[dJ,List.getElem?_cons_succ]
  rw[kE xs _ i y (by simpa using h)]
  congr 2
  simp only[db]
  omega
theorem kM (x:List aM):db x 0=0:=by cases x<;>rfl
theorem kK:∀ (x:List aM) (i:Nat) (y:aM),x[i]? = some y→db x (i+1)=db x i+aM.cnt y
 | [],i,y,h=>by simp at h
 | x::xs,0,y,h=>by simp at h;subst h;simp[db,kM]
 | x::xs,i+1,y,h=>by
  simp only[db]
  rw[kK xs i y (by simpa using h)]
  omega
theorem lT:∀ (x:List aM),db x x.length=dx x
 | []=>rfl
 | x::xs=>by simp only[List.length_cons,db,dx,lT xs]
theorem z6 {x:List aM} (h:iz x≤1048576):km x:=⟨h,fun _ _=>trivial⟩
theorem qB:∀ (x:List aM),dx x≤8*iz x
 | []=>by simp[dx]
 | x::xs=>by have:=qB xs;simp only[dx,iz,List.length_cons,aM.cnt]at this ⊢;omega
theorem na:∀ (x:List aM) (i:Nat),db x i≤dx x
 | [],_=>by simp[db]
 | x::xs,0=>by simp[db]
 | x::xs,i+1=>by simp only[db,dx];have:=na xs i;omega
def dG (o:dE) (x:List (List aM)):List C:=[.s o (x.map (b6 o))]
theorem D6 (x:List (List aM)):gq (dG .own x):=⟨⟨.inl fun h=>(by cases h),aT _ _ fun y _=>k5 y⟩,trivial⟩
def sX (x:List (List aM)):Prop:=x.length≤9223372036854775807∧∀ y∈x,wl y
def cV:List (List aM)→Nat
 | []=>0
 | x::xs=>dx x+cV xs
def eS:List (List aM)→Nat
 | []=>0
 | x::xs=>iz x+eS xs
def fJ (x:List (List aM)):Nat:=x.length+eS x
def iK (x:List (List aM)):Prop:=x.length≤1048576∧∀ y∈x,km y
def dz:List (List aM)→Int→List (List aM)
 | [],_=>[]
 | x::xs,k=>dJ x k::dz xs (k+(dx x:Nat))
theorem jH:∀ (x:List (List aM)) (k:Int),(dz x k).length=x.length
 | [],_=>rfl
 | _::xs,k=>by simp[dz,jH xs]
def ct:List (List aM)→Nat→Nat
 | [],_=>0
 | _::_,0=>0
 | x::xs,i+1=>dx x+ct xs i
theorem jp:∀ (x:List (List aM)) (k:Int) (i:Nat) (y:List aM),x[i]? = some y→(dz x k)[i]? = some (dJ y (k+(ct x i:Nat)))
 | [],_,i,y,h=>by simp at h
 | x::xs,k,0,y,h=>by simp at h;subst h;simp[dz,ct]
 | x::xs,k,i+1,y,h=>by
  simp only[dz,List.getElem?_cons_succ]
  rw[jp xs _ i y (by simpa using h)]
  congr 2
  simp only[ct]
  omega
theorem js (x:List (List aM)):ct x 0=0:=by cases x<;>rfl
theorem jl:∀ (x:List (List aM)) (i:Nat) (y:List aM),x[i]? = some y→ct x (i+1)=ct x i+dx y
 | [],i,y,h=>by simp at h
 | x::xs,0,y,h=>by simp at h;subst h;simp[ct,js]
 | x::xs,i+1,y,h=>by
  simp only[ct]
  rw[jl xs i y (by simpa using h)]
  omega
theorem kT:∀ (x:List (List aM)),ct x x.length=cV x
 | []=>rfl
 | x::xs=>by simp only[List.length_cons,ct,cV,kT xs]
theorem nD:∀ {x:List (List aM)} {y:List aM},y∈x→iz y≤eS x
 | [],y,h=>by simp at h
 | x::xs,y,h=>by
  simp only[eS]
  rcases List.mem_cons.1 h with rfl|h
  ·omega
  ·have:=nD h;omega
theorem yo {x:List (List aM)} (h:fJ x≤1048576):iK x:=⟨by unfold fJ at h;omega,fun y hy=>z6 (by have:=nD hy;unfold fJ at h;omega)⟩
theorem oo:∀ (x:List (List aM)),cV x≤8*eS x
 | []=>by simp[cV]
 | x::xs=>by have:=oo xs;have:=qB x;simp only[cV,eS];omega
theorem xE (x:List (List aM)):cV x≤8*fJ x:=by have:=oo x;unfold fJ;omega
def cP:List (List aM)→Nat→Nat
 | [],_=>0
 | _::_,0=>0
 | x::xs,i+1=>iz x+cP xs i
theorem iM (x:List (List aM)):cP x 0=0:=by cases x<;>rfl
theorem md:∀ (x:List (List aM)) (i:Nat) (y:List aM),x[i]? = some y→cP x (i+1)=cP x i+iz y
 | [],i,y,h=>by simp at h
 | x::xs,0,y,h=>by simp at h;subst h;simp[cP,iM]
 | x::xs,i+1,y,h=>by
  simp only[cP]
  rw[md xs i y (by simpa using h)]
  omega
theorem nm:∀ (x:List (List aM)),cP x x.length=eS x
 | []=>rfl
 | x::xs=>by simp only[List.length_cons,cP,eS,nm xs]
theorem kC:∀ (x:List (List aM)) (i:Nat),cP x i≤eS x
 | [],_=>by simp[cP]
 | x::xs,0=>by simp[cP]
 | x::xs,i+1=>by simp only[cP,eS];have:=kC xs i;omega
theorem lB:∀ (x:List (List aM)) (i:Nat),ct x i≤cV x
 | [],_=>by simp[ct]
 | x::xs,0=>by simp[ct]
 | x::xs,i+1=>by simp only[ct,cV];have:=lB xs i;omega
structure aK where
 Buffers:List (List aM)
 Inbox:List (List Int)
deriving DecidableEq,Inhabited
def aK.enc (o:dE) (x:aK):List C:=[.s o (x.Buffers.map (b6 o)),.s o (x.Inbox.map (aI o))]
theorem aK.enc_fz (x:aK):ey (aK.enc .own x)=aK.enc .imm x:=by simp[ey,aK.enc,mD,dO,←cr,Function.comp_def]
theorem aK.enc_fr (x:aK):gq (aK.enc .own x):=⟨⟨.inl fun h=>(by cases h),aT _ _ fun y _=>k5 y⟩,⟨.inl fun h=>(by cases h),aT _ _ fun y _=>bN y⟩,trivial⟩
def aK.wf (x:aK):Prop:=sX x.Buffers∧qS x.Inbox
def aK.cnt (x:aK):Nat:=cV x.Buffers+dv x.Inbox
def aK.sz (x:aK):Nat:=fJ x.Buffers+szIntSS x.Inbox
def aK.sml (x:aK):Prop:=iK x.Buffers∧iV x.Inbox
theorem aK.sml_of {x:aK} (h:aK.sz x≤1048576):aK.sml x:=⟨yo (by unfold aK.sz at h;omega),oC (by unfold aK.sz at h;omega)⟩
theorem aK.cnt_le (x:aK):aK.cnt x≤8*aK.sz x:=by unfold aK.cnt aK.sz;have:=xE x.Buffers;have:=o8 x.Inbox;omega
def aK.mark (x:aK) (k:Int):aK:={x with Buffers:=dz x.Buffers (k),Inbox:=markIntSS x.Inbox (k+(cV x.Buffers:Nat))}
structure aE where
 Addr:Int
 Class:Int
 Since:Int
deriving DecidableEq,Inhabited
def aE.enc (o:dE) (x:aE):List C:=[I x.Addr,I x.Class,I x.Since]
theorem aE.enc_fz (x:aE):ey (aE.enc .own x)=aE.enc .imm x:=by simp[ey,aE.enc]
theorem aE.enc_fr (x:aE):gq (aE.enc .own x):=⟨trivial,trivial,trivial,trivial⟩
def aE.wf (x:aE):Prop:=iD x.Addr∧iD x.Class∧iD x.Since
def aE.cnt (_:aE):Nat:=3
def aE.sml (_:aE):Prop:=True
def aE.sz (_:aE):Nat:=0
theorem aE.sml_of {x:aE} (_:aE.sz x≤1048576):aE.sml x:=trivial
def aE.mark (_:aE) (k:Int):aE:=⟨k,k+1,k+1+1⟩
def ce (o:dE) (x:List aE):List C:=[.s o (x.map (aE.enc o))]
theorem Ei (x:List aE):gq (ce .own x):=⟨⟨.inl fun h=>(by cases h),aT _ _ fun y _=>aE.enc_fr y⟩,trivial⟩
def sx (x:List aE):Prop:=x.length≤9223372036854775807∧∀ y∈x,aE.wf y
def cU:List aE→Nat
 | []=>0
 | x::xs=>aE.cnt x+cU xs
def jZ (x:List aE):Nat:=x.length
def eO (x:List aE):Prop:=x.length≤1048576∧∀ y∈x,aE.sml y
def d9:List aE→Int→List aE
 | [],_=>[]
 | x::xs,k=>aE.mark x k::d9 xs (k+(aE.cnt x:Nat))
theorem jh:∀ (x:List aE) (k:Int),(d9 x k).length=x.length
 | [],_=>rfl
 | _::xs,k=>by simp[d9,jh xs]
def cy:List aE→Nat→Nat
 | [],_=>0
 | _::_,0=>0
 | x::xs,i+1=>aE.cnt x+cy xs i
theorem jE:∀ (x:List aE) (k:Int) (i:Nat) (y:aE),x[i]? = some y→(d9 x k)[i]? = some (aE.mark y (k+(cy x i:Nat)))
 | [],_,i,y,h=>by simp at h
 | x::xs,k,0,y,h=>by simp at h;subst h;simp[d9,cy]
 | x::xs,k,i+1,y,h=>by
  simp only[d9,List.getElem?_cons_succ]
  rw[jE xs _ i y (by simpa using h)]
  congr 2
  simp only[cy]
  omega
theorem jF (x:List aE):cy x 0=0:=by cases x<;>rfl
theorem jB:∀ (x:List aE) (i:Nat) (y:aE),x[i]? = some y→cy x (i+1)=cy x i+aE.cnt y
 | [],i,y,h=>by simp at h
 | x::xs,0,y,h=>by simp at h;subst h;simp[cy,jF]
 | x::xs,i+1,y,h=>by
  simp only[cy]
  rw[jB xs i y (by simpa using h)]
  omega
theorem kw:∀ (x:List aE),cy x x.length=cU x
 | []=>rfl
 | x::xs=>by simp only[List.length_cons,cy,cU,kw xs]
theorem xp {x:List aE} (h:jZ x≤1048576):eO x:=⟨h,fun _ _=>trivial⟩
theorem pv:∀ (x:List aE),cU x≤8*jZ x
 | []=>by simp[cU]
 | x::xs=>by have:=pv xs;simp only[cU,jZ,List.length_cons,aE.cnt]at this ⊢;omega
theorem lS:∀ (x:List aE) (i:Nat),cy x i≤cU x
 | [],_=>by simp[cy]
 | x::xs,0=>by simp[cy]
 | x::xs,i+1=>by simp only[cy,cU];have:=lS xs i;omega
structure aQ where
 Room:Int
 Lst:List aE
deriving DecidableEq,Inhabited
def aQ.enc (o:dE) (x:aQ):List C:=[I x.Room,.s o (x.Lst.map (aE.enc o))]
theorem aQ.enc_fz (x:aQ):ey (aQ.enc .own x)=aQ.enc .imm x:=by simp[ey,aQ.enc,aE.enc_fz,←cr,Function.comp_def]
theorem aQ.enc_fr (x:aQ):gq (aQ.enc .own x):=⟨trivial,⟨.inl fun h=>(by cases h),aT _ _ fun y _=>aE.enc_fr y⟩,trivial⟩
def aQ.wf (x:aQ):Prop:=iD x.Room∧sx x.Lst
def aQ.cnt (x:aQ):Nat:=cU x.Lst
def aQ.sz (x:aQ):Nat:=jZ x.Lst
def aQ.sml (x:aQ):Prop:=eO x.Lst
theorem aQ.sml_of {x:aQ} (h:aQ.sz x≤1048576):aQ.sml x:=xp (by unfold aQ.sz at h;omega)
theorem aQ.cnt_le (x:aQ):aQ.cnt x≤8*aQ.sz x:=by unfold aQ.cnt aQ.sz;have:=pv x.Lst;omega
def aQ.mark (x:aQ) (k:Int):aQ:={x with Lst:=d9 x.Lst (k)}
structure aN where
 Keep:Int
 Move:Int
 Cells:List Int
deriving DecidableEq,Inhabited
def aN.enc (o:dE) (x:aN):List C:=[I x.Keep,I x.Move,.s o (x.Cells.map (rI o))]
theorem aN.enc_fz (x:aN):ey (aN.enc .own x)=aN.enc .imm x:=by simp[ey,aN.enc,rI,←cr,Function.comp_def]
theorem aN.enc_fr (x:aN):gq (aN.enc .own x):=⟨trivial,trivial,⟨.inl fun h=>(by cases h),aT _ _ fun y _=>rE y⟩,trivial⟩
def aN.wf (x:aN):Prop:=iD x.Keep∧iD x.Move∧eX x.Cells
def aN.cnt (x:aN):Nat:=dU x.Cells
def aN.sz (x:aN):Nat:=szIntS x.Cells
def aN.sml (x:aN):Prop:=iR x.Cells
theorem aN.sml_of {x:aN} (h:aN.sz x≤1048576):aN.sml x:=mM (by unfold aN.sz at h;omega)
theorem aN.cnt_le (x:aN):aN.cnt x≤8*aN.sz x:=by unfold aN.cnt aN.sz;have:=mF x.Cells;omega
def aN.mark (x:aN) (k:Int):aN:={x with Cells:=markIntS x.Cells (k)}
structure aZ where
 Plan:aN
 Phase:Int
 Next:Int
deriving DecidableEq,Inhabited
def aZ.enc (o:dE) (x:aZ):List C:=[I x.Plan.Keep,I x.Plan.Move,.s o (x.Plan.Cells.map (rI o)),I x.Phase,I x.Next]
theorem aZ.enc_fz (x:aZ):ey (aZ.enc .own x)=aZ.enc .imm x:=by simp[ey,aZ.enc,rI,←cr,Function.comp_def]
theorem aZ.enc_fr (x:aZ):gq (aZ.enc .own x):=⟨trivial,trivial,⟨.inl fun h=>(by cases h),aT _ _ fun y _=>rE y⟩,trivial,trivial,trivial⟩
def aZ.wf (x:aZ):Prop:=aN.wf x.Plan∧iD x.Phase∧iD x.Next
def aZ.cnt (x:aZ):Nat:=aN.cnt x.Plan
def aZ.sz (x:aZ):Nat:=aN.sz x.Plan
def aZ.sml (x:aZ):Prop:=aN.sml x.Plan
theorem aZ.sml_of {x:aZ} (h:aZ.sz x≤1048576):aZ.sml x:=aN.sml_of (by unfold aZ.sz at h;omega)
theorem aZ.cnt_le (x:aZ):aZ.cnt x≤8*aZ.sz x:=by unfold aZ.cnt aZ.sz;have:=aN.cnt_le x.Plan;omega
def aZ.mark (x:aZ) (k:Int):aZ:={x with Plan:=aN.mark x.Plan (k)}
structure ac where
 Kernel:af
 Free:List ar
 Spans:List am
 Larges:List au
 Objs:List aX
 Caches:List ay
 Mail:aK
 Quar:aQ
 Seed:Int
 Clock:Int
 Limit:Int
 Next:Int
 Meshing:Bool
 Job:aZ
deriving DecidableEq,Inhabited
def ac.enc (o:dE) (x:ac):List C:=[.s o (x.Kernel.Machine.Frames.Cells.map (aI o)),.s o (x.Kernel.Machine.Frames.Used.map (rB o)),.s o (x.Kernel.Machine.Table.Entries.map (aG.enc o)),I x.Kernel.Calls,.s o (x.Kernel.Refuse.map (rI o)),.s o (x.Free.map (ar.enc o)),.s o (x.Spans.map (am.enc o)),.s o (x.Larges.map (au.enc o)),.s o (x.Objs.map (aX.enc o)),.s o (x.Caches.map (ay.enc o)),.s o (x.Mail.Buffers.map (b6 o)),.s o (x.Mail.Inbox.map (aI o)),I x.Quar.Room,.s o (x.Quar.Lst.map (aE.enc o)),I x.Seed,I x.Clock,I x.Limit,I x.Next,B x.Meshing,I x.Job.Plan.Keep,I x.Job.Plan.Move,.s o (x.Job.Plan.Cells.map (rI o)),I x.Job.Phase,I x.Job.Next]
theorem ac.enc_fz (x:ac):ey (ac.enc .own x)=ac.enc .imm x:=by simp[ey,ac.enc,ay.enc_fz,aG.enc_fz,au.enc_fz,aX.enc_fz,ar.enc_fz,am.enc_fz,aE.enc_fz,rB,mD,rI,dO,←cr,Function.comp_def]
theorem ac.enc_fr (x:ac):gq (ac.enc .own x):=⟨⟨.inl fun h=>(by cases h),aT _ _ fun y _=>bN y⟩,⟨.inl fun h=>(by cases h),aT _ _ fun y _=>y4 y⟩,⟨.inl fun h=>(by cases h),aT _ _ fun y _=>aG.enc_fr y⟩,trivial,⟨.inl fun h=>(by cases h),aT _ _ fun y _=>rE y⟩,⟨.inl fun h=>(by cases h),aT _ _ fun y _=>ar.enc_fr y⟩,⟨.inl fun h=>(by cases h),aT _ _ fun y _=>am.enc_fr y⟩,⟨.inl fun h=>(by cases h),aT _ _ fun y _=>au.enc_fr y⟩,⟨.inl fun h=>(by cases h),aT _ _ fun y _=>aX.enc_fr y⟩,⟨.inl fun h=>(by cases h),aT _ _ fun y _=>ay.enc_fr y⟩,⟨.inl fun h=>(by cases h),aT _ _ fun y _=>k5 y⟩,⟨.inl fun h=>(by cases h),aT _ _ fun y _=>bN y⟩,trivial,⟨.inl fun h=>(by cases h),aT _ _ fun y _=>aE.enc_fr y⟩,trivial,trivial,trivial,trivial,trivial,trivial,trivial,⟨.inl fun h=>(by cases h),aT _ _ fun y _=>rE y⟩,trivial,trivial,trivial⟩
def ac.wf (x:ac):Prop:=af.wf x.Kernel∧sU x.Free∧vt x.Spans∧rU x.Larges∧AY x.Objs∧sK x.Caches∧aK.wf x.Mail∧aQ.wf x.Quar∧iD x.Seed∧iD x.Clock∧iD x.Limit∧iD x.Next∧Pc x.Meshing∧aZ.wf x.Job
def ac.cnt (x:ac):Nat:=af.cnt x.Kernel+bH x.Free+bQ x.Spans+bG x.Larges+cS x.Objs+bY x.Caches+aK.cnt x.Mail+aQ.cnt x.Quar+aZ.cnt x.Job
def ac.sz (x:ac):Nat:=af.sz x.Kernel+kj x.Free+mq x.Spans+kc x.Larges+oP x.Objs+fQ x.Caches+aK.sz x.Mail+aQ.sz x.Quar+aZ.sz x.Job
def ac.sml (x:ac):Prop:=af.sml x.Kernel∧dK x.Free∧cC x.Spans∧cg x.Larges∧mn x.Objs∧iI x.Caches∧aK.sml x.Mail∧aQ.sml x.Quar∧aZ.sml x.Job
theorem ac.sml_of {x:ac} (h:ac.sz x≤1048576):ac.sml x:=⟨af.sml_of (by unfold ac.sz at h;omega),xV (by unfold ac.sz at h;omega),zM (by unfold ac.sz at h;omega),xt (by unfold ac.sz at h;omega),B8 (by unfold ac.sz at h;omega),xH (by unfold ac.sz at h;omega),aK.sml_of (by unfold ac.sz at h;omega),aQ.sml_of (by unfold ac.sz at h;omega),aZ.sml_of (by unfold ac.sz at h;omega)⟩
theorem ac.cnt_le (x:ac):ac.cnt x≤8*ac.sz x:=by unfold ac.cnt ac.sz;have:=af.cnt_le x.Kernel;have:=pF x.Free;have:=qN x.Spans;have:=pt x.Larges;have:=tH x.Objs;have:=yb x.Caches;have:=aK.cnt_le x.Mail;have:=aQ.cnt_le x.Quar;have:=aZ.cnt_le x.Job;omega
def ac.mark (x:ac) (k:Int):ac:={x with Kernel:=af.mark x.Kernel (k),Free:=dB x.Free (k+(af.cnt x.Kernel:Nat)),Spans:=ec x.Spans (k+(af.cnt x.Kernel:Nat)+(bH x.Free:Nat)),Larges:=dC x.Larges (k+(af.cnt x.Kernel:Nat)+(bH x.Free:Nat)+(bQ x.Spans:Nat)),Objs:=eI x.Objs (k+(af.cnt x.Kernel:Nat)+(bH x.Free:Nat)+(bQ x.Spans:Nat)+(bG x.Larges:Nat)),Caches:=dy x.Caches (k+(af.cnt x.Kernel:Nat)+(bH x.Free:Nat)+(bQ x.Spans:Nat)+(bG x.Larges:Nat)+(cS x.Objs:Nat)),Mail:=aK.mark x.Mail (k+(af.cnt x.Kernel:Nat)+(bH x.Free:Nat)+(bQ x.Spans:Nat)+(bG x.Larges:Nat)+(cS x.Objs:Nat)+(bY x.Caches:Nat)),Quar:=aQ.mark x.Quar (k+(af.cnt x.Kernel:Nat)+(bH x.Free:Nat)+(bQ x.Spans:Nat)+(bG x.Larges:Nat)+(cS x.Objs:Nat)+(bY x.Caches:Nat)+(aK.cnt x.Mail:Nat)),Job:=aZ.mark x.Job (k+(af.cnt x.Kernel:Nat)+(bH x.Free:Nat)+(bQ x.Spans:Nat)+(bG x.Larges:Nat)+(cS x.Objs:Nat)+(bY x.Caches:Nat)+(aK.cnt x.Mail:Nat)+(aQ.cnt x.Quar:Nat))}
structure cJ where
 Kind:Int
 Index:Int
 Slot:Int
 Offset:Int
deriving DecidableEq,Inhabited
def cJ.enc (o:dE) (x:cJ):List C:=[I x.Kind,I x.Index,I x.Slot,I x.Offset]
theorem cJ.enc_fz (x:cJ):ey (cJ.enc .own x)=cJ.enc .imm x:=by simp[ey,cJ.enc]
theorem cJ.enc_fr (x:cJ):gq (cJ.enc .own x):=⟨trivial,trivial,trivial,trivial,trivial⟩
def cJ.wf (x:cJ):Prop:=iD x.Kind∧iD x.Index∧iD x.Slot∧iD x.Offset
def cJ.cnt (_:cJ):Nat:=4
def cJ.sml (_:cJ):Prop:=True
def cJ.sz (_:cJ):Nat:=0
theorem cJ.sml_of {x:cJ} (_:cJ.sz x≤1048576):cJ.sml x:=trivial
def cJ.mark (_:cJ) (k:Int):cJ:=⟨k,k+1,k+1+1,k+1+1+1⟩
structure fB where
 Id:Int
 Size:Int
 Sum:Int
deriving DecidableEq,Inhabited
def fB.enc (o:dE) (x:fB):List C:=[I x.Id,I x.Size,I x.Sum]
theorem fB.enc_fz (x:fB):ey (fB.enc .own x)=fB.enc .imm x:=by simp[ey,fB.enc]
theorem fB.enc_fr (x:fB):gq (fB.enc .own x):=⟨trivial,trivial,trivial,trivial⟩
def fB.wf (x:fB):Prop:=iD x.Id∧iD x.Size∧iD x.Sum
def fB.cnt (_:fB):Nat:=3
def fB.sml (_:fB):Prop:=True
def fB.sz (_:fB):Nat:=0
theorem fB.sml_of {x:fB} (_:fB.sz x≤1048576):fB.sml x:=trivial
def fB.mark (_:fB) (k:Int):fB:=⟨k,k+1,k+1+1⟩
structure aS where
 Id:Int
 Cells:List Int
deriving DecidableEq,Inhabited
def aS.enc (o:dE) (x:aS):List C:=[I x.Id,.s o (x.Cells.map (rI o))]
theorem aS.enc_fz (x:aS):ey (aS.enc .own x)=aS.enc .imm x:=by simp[ey,aS.enc,rI,←cr,Function.comp_def]
theorem aS.enc_fr (x:aS):gq (aS.enc .own x):=⟨trivial,⟨.inl fun h=>(by cases h),aT _ _ fun y _=>rE y⟩,trivial⟩
def aS.wf (x:aS):Prop:=iD x.Id∧eX x.Cells
def aS.cnt (x:aS):Nat:=dU x.Cells
def aS.sz (x:aS):Nat:=szIntS x.Cells
def aS.sml (x:aS):Prop:=iR x.Cells
theorem aS.sml_of {x:aS} (h:aS.sz x≤1048576):aS.sml x:=mM (by unfold aS.sz at h;omega)
theorem aS.cnt_le (x:aS):aS.cnt x≤8*aS.sz x:=by unfold aS.cnt aS.sz;have:=mF x.Cells;omega
def aS.mark (x:aS) (k:Int):aS:={x with Cells:=markIntS x.Cells (k)}
def EC (x:List aS):Prop:=x.length≤9223372036854775807∧∀ y∈x,aS.wf y
def ib:List aS→Nat
 | []=>0
 | x::xs=>aS.cnt x+ib xs
def hM:List aS→Nat
 | []=>0
 | x::xs=>aS.sz x+hM xs
def iH (x:List aS):Nat:=x.length+hM x
def tB (x:List aS):Prop:=x.length≤1048576∧∀ y∈x,aS.sml y
def qz:List aS→Int→List aS
 | [],_=>[]
 | x::xs,k=>aS.mark x k::qz xs (k+(aS.cnt x:Nat))
theorem nt:∀ {x:List aS} {y:aS},y∈x→aS.sz y≤hM x
 | [],y,h=>by simp at h
 | x::xs,y,h=>by
  simp only[hM]
  rcases List.mem_cons.1 h with rfl|h
  ·omega
  ·have:=nt h;omega
theorem wI {x:List aS} (h:iH x≤1048576):tB x:=⟨by unfold iH at h;omega,fun y hy=>aS.sml_of (by have:=nt hy;unfold iH at h;omega)⟩
theorem nn:∀ (x:List aS),ib x≤8*hM x
 | []=>by simp[ib]
 | x::xs=>by have:=nn xs;have:=aS.cnt_le x;simp only[ib,hM];omega
theorem u6 (x:List aS):ib x≤8*iH x:=by have:=nn x;unfold iH;omega
structure bl where
 Next:Int
 Objs:List aS
deriving DecidableEq,Inhabited
def bl.enc (o:dE) (x:bl):List C:=[I x.Next,.s o (x.Objs.map (aS.enc o))]
theorem bl.enc_fz (x:bl):ey (bl.enc .own x)=bl.enc .imm x:=by simp[ey,bl.enc,aS.enc_fz,←cr,Function.comp_def]
theorem bl.enc_fr (x:bl):gq (bl.enc .own x):=⟨trivial,⟨.inl fun h=>(by cases h),aT _ _ fun y _=>aS.enc_fr y⟩,trivial⟩
def bl.wf (x:bl):Prop:=iD x.Next∧EC x.Objs
def bl.cnt (x:bl):Nat:=ib x.Objs
def bl.sz (x:bl):Nat:=iH x.Objs
def bl.sml (x:bl):Prop:=tB x.Objs
theorem bl.sml_of {x:bl} (h:bl.sz x≤1048576):bl.sml x:=wI (by unfold bl.sz at h;omega)
theorem bl.cnt_le (x:bl):bl.cnt x≤8*bl.sz x:=by unfold bl.cnt bl.sz;have:=u6 x.Objs;omega
def bl.mark (x:bl) (k:Int):bl:={x with Objs:=qz x.Objs (k)}
structure cL where
 Heap:ac
 Ref:bl
deriving DecidableEq,Inhabited
def cL.enc (o:dE) (x:cL):List C:=[.s o (x.Heap.Kernel.Machine.Frames.Cells.map (aI o)),.s o (x.Heap.Kernel.Machine.Frames.Used.map (rB o)),.s o (x.Heap.Kernel.Machine.Table.Entries.map (aG.enc o)),I x.Heap.Kernel.Calls,.s o (x.Heap.Kernel.Refuse.map (rI o)),.s o (x.Heap.Free.map (ar.enc o)),.s o (x.Heap.Spans.map (am.enc o)),.s o (x.Heap.Larges.map (au.enc o)),.s o (x.Heap.Objs.map (aX.enc o)),.s o (x.Heap.Caches.map (ay.enc o)),.s o (x.Heap.Mail.Buffers.map (b6 o)),.s o (x.Heap.Mail.Inbox.map (aI o)),I x.Heap.Quar.Room,.s o (x.Heap.Quar.Lst.map (aE.enc o)),I x.Heap.Seed,I x.Heap.Clock,I x.Heap.Limit,I x.Heap.Next,B x.Heap.Meshing,I x.Heap.Job.Plan.Keep,I x.Heap.Job.Plan.Move,.s o (x.Heap.Job.Plan.Cells.map (rI o)),I x.Heap.Job.Phase,I x.Heap.Job.Next,I x.Ref.Next,.s o (x.Ref.Objs.map (aS.enc o))]
theorem cL.enc_fz (x:cL):ey (cL.enc .own x)=cL.enc .imm x:=by simp[ey,cL.enc,ay.enc_fz,aG.enc_fz,au.enc_fz,aX.enc_fz,ar.enc_fz,aS.enc_fz,am.enc_fz,aE.enc_fz,rB,mD,rI,dO,←cr,Function.comp_def]
theorem cL.enc_fr (x:cL):gq (cL.enc .own x):=⟨⟨.inl fun h=>(by cases h),aT _ _ fun y _=>bN y⟩,⟨.inl fun h=>(by cases h),aT _ _ fun y _=>y4 y⟩,⟨.inl fun h=>(by cases h),aT _ _ fun y _=>aG.enc_fr y⟩,trivial,⟨.inl fun h=>(by cases h),aT _ _ fun y _=>rE y⟩,⟨.inl fun h=>(by cases h),aT _ _ fun y _=>ar.enc_fr y⟩,⟨.inl fun h=>(by cases h),aT _ _ fun y _=>am.enc_fr y⟩,⟨.inl fun h=>(by cases h),aT _ _ fun y _=>au.enc_fr y⟩,⟨.inl fun h=>(by cases h),aT _ _ fun y _=>aX.enc_fr y⟩,⟨.inl fun h=>(by cases h),aT _ _ fun y _=>ay.enc_fr y⟩,⟨.inl fun h=>(by cases h),aT _ _ fun y _=>k5 y⟩,⟨.inl fun h=>(by cases h),aT _ _ fun y _=>bN y⟩,trivial,⟨.inl fun h=>(by cases h),aT _ _ fun y _=>aE.enc_fr y⟩,trivial,trivial,trivial,trivial,trivial,trivial,trivial,⟨.inl fun h=>(by cases h),aT _ _ fun y _=>rE y⟩,trivial,trivial,trivial,⟨.inl fun h=>(by cases h),aT _ _ fun y _=>aS.enc_fr y⟩,trivial⟩
def cL.wf (x:cL):Prop:=ac.wf x.Heap∧bl.wf x.Ref
def cL.cnt (x:cL):Nat:=ac.cnt x.Heap+bl.cnt x.Ref
def cL.sz (x:cL):Nat:=ac.sz x.Heap+bl.sz x.Ref
def cL.sml (x:cL):Prop:=ac.sml x.Heap∧bl.sml x.Ref
theorem cL.sml_of {x:cL} (h:cL.sz x≤1048576):cL.sml x:=⟨ac.sml_of (by unfold cL.sz at h;omega),bl.sml_of (by unfold cL.sz at h;omega)⟩
theorem cL.cnt_le (x:cL):cL.cnt x≤8*cL.sz x:=by unfold cL.cnt cL.sz;have:=ac.cnt_le x.Heap;have:=bl.cnt_le x.Ref;omega
def cL.mark (x:cL) (k:Int):cL:={x with Heap:=ac.mark x.Heap (k),Ref:=bl.mark x.Ref (k+(ac.cnt x.Heap:Nat))}
structure bZ where
 Pages:Int
 Mapped:Int
 Frames:Int
 Held:Int
 Live:Int
 Cached:Int
 Stale:Int
 Posted:Int
deriving DecidableEq,Inhabited
def bZ.enc (o:dE) (x:bZ):List C:=[I x.Pages,I x.Mapped,I x.Frames,I x.Held,I x.Live,I x.Cached,I x.Stale,I x.Posted]
theorem bZ.enc_fz (x:bZ):ey (bZ.enc .own x)=bZ.enc .imm x:=by simp[ey,bZ.enc]
theorem bZ.enc_fr (x:bZ):gq (bZ.enc .own x):=⟨trivial,trivial,trivial,trivial,trivial,trivial,trivial,trivial,trivial⟩
def bZ.wf (x:bZ):Prop:=iD x.Pages∧iD x.Mapped∧iD x.Frames∧iD x.Held∧iD x.Live∧iD x.Cached∧iD x.Stale∧iD x.Posted
def bZ.cnt (_:bZ):Nat:=8
def bZ.sml (_:bZ):Prop:=True
def bZ.sz (_:bZ):Nat:=0
theorem bZ.sml_of {x:bZ} (_:bZ.sz x≤1048576):bZ.sml x:=trivial
def bZ.mark (_:bZ) (k:Int):bZ:=⟨k,k+1,k+1+1,k+1+1+1,k+1+1+1+1,k+1+1+1+1+1,k+1+1+1+1+1+1,k+1+1+1+1+1+1+1⟩
end Go.Proofs.YtplcalfnngkffaaGreat.Ab
/- Short names of the steps of a walk. No condition. -/
namespace Go.Proofs.YtplcalfnngkffaaGreat.Ab
open Go.RowKit
theorem Lm {α β:Type} {f:α→β} {l:List α} {K:Nat→Prop} (h:K l.length):Ln (l.map f).length K:=Ln.mk (List.length_map ..) h
theorem Wm {z:Int} {K:Int→Prop} (h : -9223372036854775808≤z∧z≤9223372036854775807) (hK:K z):Wr .i64 z K:=Wr.mk (fU h.1 h.2) hK
theorem dT {p:Prop} [Decidable p] {X Y:Prop} (h:p) (hX:p→X):Bf (decide p) X Y:=.D hX fun e=>absurd h e
theorem dF {p:Prop} [Decidable p] {X Y:Prop} (h:¬p) (hY:¬p→Y):Bf (decide p) X Y:=.D (fun e=>absurd e h) hY
theorem nT {a b:Int} {X Y:Prop} (h:a≠b) (hX:a≠b→X):Bf (a != b) X Y:=.N hX fun e=>absurd e h
theorem nF {a b:Int} {X Y:Prop} (h:a=b) (hY:a=b→Y):Bf (a != b) X Y:=.N (fun e=>absurd h e) hY
theorem eT {a b:Int} {X Y:Prop} (h:a=b) (hX:a=b→X):Bf (a == b) X Y:=.E hX fun e=>absurd h e
theorem eF {a b:Int} {X Y:Prop} (h:a≠b) (hY:a≠b→Y):Bf (a == b) X Y:=.E (fun e=>absurd e h) hY
theorem Bn {b:Bool} {X Y:Prop} (h:Bf b Y X):Bf (!b) X Y:=.not h
theorem Bt {X Y:Prop} (h:X):Bf true X Y:=.t rfl h
theorem Bu {X Y:Prop} (h:Y):Bf false X Y:=.f rfl h
theorem Fm {k k':Kd} {cs cs':List C} (h1:k=k') (h:cs=cs'):pe k k' cs cs':=.mk h1 h
theorem dV {p:Prop} [Decidable p] {X Y:Prop} (h:p) (hX:X):Bf (decide p) X Y:=.D (fun _=>hX) fun e=>absurd h e
theorem dW {p:Prop} [Decidable p] {X Y:Prop} (h:¬p) (hY:Y):Bf (decide p) X Y:=.D (fun e=>absurd e h) fun _=>hY
theorem nV {a b:Int} {X Y:Prop} (h:a≠b) (hX:X):Bf (a != b) X Y:=.N (fun _=>hX) fun e=>absurd e h
theorem nW {a b:Int} {X Y:Prop} (h:a=b) (hY:Y):Bf (a != b) X Y:=.N (fun e=>absurd h e) fun _=>hY
theorem eV {a b:Int} {X Y:Prop} (h:a=b) (hX:X):Bf (a == b) X Y:=.E (fun _=>hX) fun e=>absurd h e
theorem eW {a b:Int} {X Y:Prop} (h:a≠b) (hY:Y):Bf (a == b) X Y:=.E (fun e=>absurd e h) fun _=>hY
structure Ng (Y:Prop):Prop where
 out:Y
theorem gO {X Y:Prop} (y:Y) (h:Ng Y→X:=by intro y;(conv=>whnf);(first|with_reducible (first|refine Lm ?_|refine Wm (by omega) ?_|refine Bn ?_|refine Fm rfl ?_)|refine Bt ?_|refine Bu ?_|fail);exact y.out):X:=h ⟨y⟩
theorem gD {X Y:Prop} (y:Y) (h:Ng Y→X:=by intro y;(conv=>whnf);(first|with_reducible (first|refine Lm ?_|refine Wm (by omega) ?_|refine dV (by omega) ?_|refine dW (by omega) ?_|refine Bn ?_|refine Fm rfl ?_)|refine Bt ?_|refine Bu ?_|fail);exact y.out):X:=h ⟨y⟩
theorem gA {X Y:Prop} (y:Y) (h:Ng Y→X:=by intro y;(conv=>whnf);(first|with_reducible (first|refine Lm ?_|refine Wm (by omega) ?_|refine dV (by omega) ?_|refine dW (by omega) ?_|refine nV (by omega) ?_|refine nW (by omega) ?_|refine eV (by omega) ?_|refine eW (by omega) ?_|refine Bn ?_|refine Fm rfl ?_)|refine Bt ?_|refine Bu ?_|fail);exact y.out):X:=h ⟨y⟩
theorem NR {z1 z2:Int} (h:z1=z2):Me (I z1) (I z2):=by subst h;rfl
theorem Pp (c:C):Me c c:=(ot [c]).1
theorem wA {X:Prop} (h:X:=by repeat'(first|exact trivial|rfl|refine And.intro ?_ ?_)):X:=h
theorem wB {X:Prop} (h:X:=by repeat'(first|exact trivial|rfl|refine And.intro ?_ ?_|(exact NR (by first|omega|(simp only;omega)|(simp;omega))))):X:=h
theorem wC {X:Prop} (h:X:=by repeat'(first|exact trivial|rfl|exact Pp _|refine And.intro ?_ ?_|(exact NR (by first|omega|(simp only;omega)|(simp;omega))))):X:=h
theorem fO (n : Nat) {f : Nat} {fn : Func} {c : Code} {sh : Bool} {A : List RA} {k : Kd} {rcs : List C} (tb : List (Nat × Nat × List Nat)) (hf : Tryz.prog.funcs[f]? = some fn) (hb : fn.body = some c) (hp : aw Tryz.prog TE ⟨n, [], []⟩ (DF Tryz.prog TE ⟨n, [], []⟩ tb) c (LD TE fn.results.toList k rcs) (lay (zy 0 A))) (hsh : sh = true ∨ gq rcs := by exact .inr ⟨trivial, trivial⟩) (hn : (fn.name == "runtime.NumGoroutine") = false := by kernel_rfl) (hc : fT (ne tb) c = true := by kernel_rfl) (hN : A.length + (fn.ntmps - A.length) = n := by rfl) : ah Tryz.prog f sh A k rcs := N8 hf hn hb hc hN hsh hp
theorem fP (n : Nat) {f : Nat} {fn : Func} {c : Code} {sh : Bool} {A : List RA} {k : Kd} {rcs : List C} (mo : List (Nat × List Nat)) (tb : List (Nat × Nat × List Nat)) (hf : Tryz.prog.funcs[f]? = some fn) (hb : fn.body = some c) (hp : aw Tryz.prog TE ⟨n, [], mo⟩ (DF Tryz.prog TE ⟨n, [], mo⟩ tb) c (LD TE fn.results.toList k rcs) (lay (zy 0 A))) (hsh : sh = true ∨ gq rcs := by exact .inr ⟨trivial, trivial⟩) (hn : (fn.name == "runtime.NumGoroutine") = false := by kernel_rfl) (hc : fT (ne tb) c = true := by kernel_rfl) (hN : A.length + (fn.ntmps - A.length) = n := by rfl) : ah Tryz.prog f sh A k rcs := N8 hf hn hb hc hN hsh hp
theorem fM (n : Nat) {f : Nat} {fn : Func} {c : Code} {sh : Bool} {A B : List MA} {k : Kd} {rcs : List C} (mo : List (Nat × List Nat)) (tb : List (Nat × Nat × List Nat)) (pl : List (Nat × Nat)) (hf : Tryz.prog.funcs[f]? = some fn) (hb : fn.body = some c) (hp : ∀ (u : Nat → Nat → Value) (p : Nat → Value), aw Tryz.prog TE ⟨n, GI p 0 A, mo⟩ (DF Tryz.prog TE ⟨n, GI p 0 A, mo⟩ tb) c (MI TE fn.results.toList k rcs u A B pl) (lay (vq u 0 A))) (hsh : sh = true ∨ gq rcs := by exact .inr ⟨trivial, trivial⟩) (hn : (fn.name == "runtime.NumGoroutine") = false := by kernel_rfl) (hc : fT (ne tb) c = true := by kernel_rfl) (hN : A.length + (fn.ntmps - A.length) = n := by rfl) (hok : Fu (DV 0 A pl) = true := by rfl) : aV Tryz.prog f sh A B k rcs := NL pl hf hn hb hc hN hok hsh hp
end Go.Proofs.YtplcalfnngkffaaGreat.Ab
/- When the parts of a heap are valid, as plain functions over its data. No condition. -/
namespace Go.Proofs.YtplcalfnngkffaaGreat.Ab
section
variable {α:Type} {l:List α} {p:α→Bool} {i:Nat} {x:α}
theorem cD (h:l[i]? = some x) (ha:(l.take i).all p=true) (hx:p x=true):(l.take (i+1)).all p=true:=by
 rw[List.take_add_one,h,List.all_append,ha];simp[hx]
theorem eE (h:l[i]? = some x) (hx:p x=false):l.all p=false:=by
 rw[List.all_eq_false];exact⟨x,List.mem_of_getElem? h,by simp[hx]⟩
theorem gt (hi:l.length≤i) (ha:(l.take i).all p=true):l.all p=true:=by
 rwa [List.take_of_length_le hi]at ha
end
theorem uo {α β:Type} {a:List α} {b:List β} {i:Nat} {x:α} {y:β} (h1:a[i]? = some x) (h2:b[i]? = some y):(a.zip b)[i]? = some (x,y):=by
 rw[List.getElem?_zip_eq_some];exact⟨h1,h2⟩
def nth {α:Type} [Inhabited α] (xs:List α) (i:Nat):α:=xs.getD i default
theorem ao {α:Type} [Inhabited α] {xs:List α} {i:Nat} (h:i<xs.length):xs[i]? = some (nth xs i):=by
 unfold nth;rw[List.getD_eq_getElem?_getD,List.getElem?_eq_getElem h];rfl
theorem bL {α:Type} [Inhabited α] {xs:List α} {i:Nat} {y:α} (h:xs[i]? = some y):nth xs i=y:=by
 unfold nth;rw[List.getD_eq_getElem?_getD,h];rfl
theorem aC {α:Type} [Inhabited α] {xs:List α} {i:Nat} (h:i<xs.length):nth xs i∈xs:=List.mem_of_getElem? (ao h)
def cM (n:Nat) (p:Nat→Bool):Bool:=(List.range n).all p
theorem ch {n:Nat} {p:Nat→Bool} : cM n p=true↔∀ j,j<n→p j=true:=by
 unfold cM;simp
theorem bD {n:Nat} {p:Nat→Bool} (h:cM n p=true) (hp:p n=true):cM (n+1) p=true:=by
 rw[ch]at *;grind
theorem cf {n i:Nat} {p:Nat→Bool} (hi:i<n) (hp:p i=false):cM n p=false:=by
 by_cases h:cM n p=true
 ·rw[ch]at h;grind
 ·simpa using h
theorem en {n i:Nat} {p:Nat→Bool} (h:cM n p=true) (hi:i<n):p i=true:=ch.1 h i hi
def jd (u:Bool) (v:Int):Bool:=decide (0≤v∧v≤999)&&(u || decide (v=0))
def i6 (r:List Int) (u:Bool):Bool:=decide (r.length=16)&&r.all (jd u)
def cI (f:aD):Bool:=decide (1≤f.Cells.length∧f.Cells.length≤32)&&(decide (f.Used.length=f.Cells.length)&&(f.Cells.zip f.Used).all fun q=>i6 q.1 q.2)
theorem ic {f:aD} {i:Nat} {r:List Int} {u:Bool} (h1:f.Cells[i]? = some r) (h2:f.Used[i]? = some u) (h3:i6 r u=false):cI f=false:=by
 unfold cI;rw[eE (p:=fun q=>i6 q.1 q.2) (uo h1 h2) h3];simp
theorem rA {r:List Int} {u:Bool} {k:Nat} {v:Int} (h1:r[k]? = some v) (h2:jd u v=false):i6 r u=false:=by
 unfold i6;rw[eE h1 h2];simp
theorem zw {f:aD} (h:cI f=true):1≤f.Cells.length∧f.Cells.length≤32∧f.Used.length=f.Cells.length:=by
 unfold cI at h;simp only[Bool.and_eq_true,decide_eq_true_eq]at h;exact⟨h.1.1,h.1.2,h.2.1⟩
def nr (fr:Int) (e:aG):Bool:=decide (0≤e.Mode∧e.Mode≤2∧(e.Mode=0→e.Frame=0)∧(e.Mode≠0→0≤e.Frame∧e.Frame<fr))
def fX (t:aB) (fr:Int):Bool:=cM t.Entries.length (fun i=>nr fr (nth t.Entries i))&&decide (1≤t.Entries.length∧t.Entries.length≤32)
def JM (t:aB) (f:Int) (i:Nat):Bool:=decide ((nth t.Entries i).Mode≠0∧(nth t.Entries i).Frame=f)
def jJ (t:aB) (f:Int) (n:Nat):List Int:=((List.range n).filter (JM t f)).map fun(i:Nat)=>(i:Int)
def pagesOn (t:aB) (f:Int):List Int:=jJ t f t.Entries.length
theorem y2 {t:aB} {f:Int} {n:Nat} (h:JM t f n=true):jJ t f (n+1)=jJ t f n++[(n:Int)]:=by
 unfold jJ;rw[List.range_succ,List.filter_append,List.map_append];simp[h]
theorem D7 {t:aB} {f:Int} {n:Nat} (h:JM t f n=false):jJ t f (n+1)=jJ t f n:=by
 unfold jJ;rw[List.range_succ,List.filter_append,List.map_append];simp[h]
theorem rP (t:aB) (f:Int) (n:Nat):(jJ t f n).length≤n:=by
 unfold jJ;rw[List.length_map];exact Nat.le_trans (List.length_filter_le ..) (by simp)
def ax (t:aB) (p:Int):aG:=if 0≤p∧p<t.Entries.length then nth t.Entries p.toNat else⟨0,0⟩
def oz (m:aA) (i:Nat):Bool:=nth m.Frames.Used i == decide (0<(pagesOn m.Table (i:Int)).length)
def cR (m:aA):Bool:=(cI m.Frames&&fX m.Table m.Frames.Used.length)&&cM m.Frames.Used.length (oz m)
def aH (k:af):Bool:=(cM k.Refuse.length (fun i=>decide (0≤nth k.Refuse i))&&cR k.Machine)&&decide (0≤k.Calls∧k.Calls≤100000∧k.Refuse.length≤40)
def rangeIn (pages:Int) (r:ar):Bool:=decide (1≤r.Len∧r.Len≤pages∧0≤r.At∧r.At≤pages - r.Len)
def fV (pages:Int) (xs:List ar) (i:Nat):Bool:=rangeIn pages (nth xs i)&&decide (i=0∨(nth xs (i - 1)).At+(nth xs (i - 1)).Len<(nth xs i).At)
def bC (pages:Int) (xs:List ar):Bool:=cM xs.length (fV pages xs)&&decide (1≤pages∧pages≤32)
def qq (page:Int) (r:ar):Bool:=decide (r.At≤page)&&decide (page<IntKind.i64.wrap (r.At+r.Len))
def lim (k:Int):Int:=if k=0 then 65535 else if k=1 then 255 else if k=2 then 15 else if k=3 then 3 else 0
def slots (k:Int):Int:=if k=0 then 16 else if k=1 then 8 else if k=2 then 4 else if k=3 then 2 else 0
def bq (s:am):Bool:=decide (0≤s.Page∧s.Page≤31∧0≤s.Class∧s.Class≤3∧0≤s.Bits∧s.Bits≤lim s.Class)
def iy (n:Int):Int:=if 9≤n∧n≤1000 then(n+15) / 16 else 0
def dl (l:au):Bool:=decide (9≤l.Size∧l.Size≤1000∧l.Pages=(l.Size+15) / 16∧0≤l.Page∧l.Page≤32 - l.Pages)
def lpgs (l:au) (n:Nat):List Int:=(List.range n).map fun(i:Nat)=>l.Page+i
def pgs (sp:List am) (la:List au):List Int:=sp.map (·.Page)++la.flatMap fun l=>lpgs l l.Pages.toNat
def bu (sp:List am) (la:List au):Bool:=(sp.all bq&&la.all dl)&&decide (pgs sp la).Nodup
def cF (s:am) (a:Int):Bool:=bq s&&decide (16*s.Page≤a∧a≤16*s.Page+15)
def bF (b i:Int):Bool:=decide (0≤b∧0≤i∧i≤15∧b / 2 ^ i.toNat % 2=1)
def bt (l:au) (a:Int):Bool:=dl l&&decide (16*l.Page≤a∧a≤16*l.Page+l.Size - 1)
def csz (k:Int):Int:=if 0≤k∧k≤3 then 2 ^ k.toNat else 0
def iB (s:am) (a:Int):Int × Int:=if cF s a then((a - 16*s.Page) / csz s.Class,(a - 16*s.Page) % csz s.Class) else(-1,-1)
def nE (i:Nat) (s:am) (a:Int):cJ:=⟨if bF s.Bits ((a - 16*s.Page) / csz s.Class) then 1 else 2,i,(a - 16*s.Page) / csz s.Class,(a - 16*s.Page) % csz s.Class⟩
def denotes (sp:List am) (la:List au) (a:Int):cJ:=
 match sp.findIdx? (cF · a) with
 | some i=>nE i (nth sp i) a
 | none=>match la.findIdx? (bt · a) with
  | some i=>⟨3,i,0,a - 16*(nth la i).Page⟩
  | none=>⟨0,0,0,0⟩
theorem zu {α:Type} {pr:α→Bool} {xs:List α} {i:Nat} {y:α} (hy:xs[i]? = some y) (hp:pr y=true) (ha:∀ (j:Nat) (z:α),j<i→xs[j]? = some z→pr z=false):xs.findIdx? pr=some i:=by
 obtain⟨hi,rfl⟩:=List.getElem?_eq_some_iff.1 hy
 exact List.findIdx?_eq_some_iff_getElem.2 ⟨hi,hp,fun j hj=>by
   have:=ha j _ hj (List.getElem?_eq_getElem (by omega))
   simp[this]⟩
theorem zt {α:Type} {pr:α→Bool} {xs:List α} {i:Nat} (hi:xs.length≤i) (ha:∀ (j:Nat) (z:α),j<i→xs[j]? = some z→pr z=false):xs.findIdx? pr=none:=
 List.findIdx?_eq_none_iff.2 fun z hz=>by
  obtain⟨j,hj⟩:=List.mem_iff_getElem?.1 hz
  exact ha j z (by have:=(List.getElem?_eq_some_iff.1 hj).1;omega) hj
theorem gE {α:Type} {pr:α→Bool} {xs:List α} {i:Nat} {y:α} (hy:xs[i]? = some y) (hp:pr y=false) (ha:∀ (j:Nat) (z:α),j<i→xs[j]? = some z→pr z=false):∀ (j:Nat) (z:α),j<i+1→xs[j]? = some z→pr z=false:=by
 intro j z hj hz
 rcases Nat.lt_or_ge j i with h1|h1
 ·exact ha j z h1 hz
 ·obtain rfl:j=i:=by omega
  rw[hy]at hz;cases hz;exact hp
def gF {α:Type} (pr:α→Bool) (xs:List α):Int:=match xs.findIdx? pr with|some i=>(i:Nat)|none=>-1
theorem gu {α:Type} {pr:α→Bool} {xs:List α} {i:Nat} {y:α} (hy:xs[i]? = some y) (hp:pr y=true) (ha:∀ (j:Nat) (z:α),j<i→xs[j]? = some z→pr z=false):gF pr xs=(i:Nat):=by
 unfold gF;rw[zu hy hp ha]
theorem k7 {α:Type} {pr:α→Bool} {xs:List α} {i:Nat} (hi:xs.length≤i) (ha:∀ (j:Nat) (z:α),j<i→xs[j]? = some z→pr z=false):gF pr xs = -1:=by
 unfold gF;rw[zt hi ha]
theorem ke {α:Type} (pr:α→Bool) (xs:List α):decide (gF pr xs≥0)=xs.any pr:=by
 unfold gF
 cases h:xs.findIdx? pr with
 | none=>
  have:=List.findIdx?_eq_none_iff.1 h
  have h2:xs.any pr=false:=by rw[List.any_eq_false];intro y hy;simp[this y hy]
  rw[h2];rfl
 | some i=>
  obtain⟨hi,hp,-⟩:=List.findIdx?_eq_some_iff_getElem.1 h
  have h2:xs.any pr=true:=List.any_eq_true.2 ⟨_,List.getElem_mem hi,hp⟩
  rw[h2];simp
def meshable (s t:am):Bool:=(bq s&&bq t)&&decide (s.Class=t.Class∧s.Page≠t.Page∧s.Bits.toNat &&& t.Bits.toNat=0)
def oA (n:Int) (p:aM):Bool:=decide (0≤p.To∧p.To≤n - 1∧0≤p.Addr)
def M8 (z:Int):Bool:=decide (0≤z)
def gN (m:aK) (i:Nat):Bool:=(nth m.Buffers i).all (oA m.Buffers.length)&&(nth m.Inbox i).all M8
def bP (m:aK):Nat→Int
 | 0=>0
 | i+1=>bP m i+((nth m.Buffers i).length+(nth m.Inbox i).length)
def dZ (m:aK):Bool:=(decide (1≤m.Buffers.length∧m.Buffers.length≤4∧m.Inbox.length=m.Buffers.length)&&cM m.Buffers.length (gN m))&&decide (bP m m.Buffers.length≤30)
def bh (m:aK):List Int:=if dZ m then(m.Buffers.flatMap fun l=>l.map (·.Addr))++m.Inbox.flatten else []
def fj (a:Int) (y:aE):Bool:=decide (y.Addr=a)
def jR (xs:List aE) (i:Nat):Bool:=decide (0≤(nth xs i).Class∧(nth xs i).Class≤3∧0≤(nth xs i).Addr∧0≤(nth xs i).Since∧(i=0∨(nth xs (i - 1)).Since≤(nth xs i).Since))&&!(xs.take i).any (fj (nth xs i).Addr)
def quarCells (xs:List aE):Nat→Int
 | 0=>0
 | i+1=>quarCells xs i+csz (nth xs i).Class
def gZ (q:aQ):Bool:=cM q.Lst.length (jR q.Lst)&&decide (0≤q.Room∧q.Room≤500∧quarCells q.Lst q.Lst.length≤q.Room)
def mH (xs:List Int) (i:Nat):Bool:=decide (0≤nth xs i∧nth xs i≤15∧(i=0∨nth xs (i - 1)<nth xs i))
def eR (p:aN):Bool:=cM p.Cells.length (mH p.Cells)&&decide (0≤p.Keep∧p.Keep≤31∧0≤p.Move∧p.Move≤31∧p.Keep≠p.Move)
def jb (j:aZ):Bool:=eR j.Plan&&decide (0≤j.Phase∧j.Phase≤5∧0≤j.Next∧j.Next≤j.Plan.Cells.length)
def q7 (j:aZ):Bool:=decide (j.Plan.Keep=0∧j.Plan.Move=0∧j.Plan.Cells.length=0∧j.Phase=0∧j.Next=0)
def bi (h:ac) (p:Int):List Int:=if(ax h.Kernel.Machine.Table p).Mode=0 then [] else pagesOn h.Kernel.Machine.Table (ax h.Kernel.Machine.Table p).Frame
def jq (p:Int) (s:am):Bool:=decide (s.Page=p)
def ge (h:ac) (p:Int):Int:=gF (jq p) h.Spans
def cq (n:Int):Int:=if n<1 then -1 else if n≤1 then 0 else if n≤2 then 1 else if n≤4 then 2 else if n≤8 then 3 else -1
end Go.Proofs.YtplcalfnngkffaaGreat.Ab
/- Contracts of small functions on caches: classes, membership, CacheOk. No condition. -/
namespace Go.Proofs.YtplcalfnngkffaaGreat.Ab
open Go.RowKit
set_option maxRecDepth 20000
set_option maxHeartbeats 2000000
theorem aO (n lo hi:Int):ah Tryz.prog 84 false [.val none [I n],.val none [I lo],.val none [I hi]] .one [B (decide (lo≤n∧n≤hi))]:=by
 refine fO 15 [] Tryz.func84 rfl ?_
 repeat'(first|refine gO ?_|(conv=>whnf);first|with_reducible refine Bf.D (fun hq=>?_) (fun hq=>?_))
 all_goals exact congrArg (fun z=>[B z]) (by simp;try omega)
theorem aL (n lo hi:Int):ah Tryz.prog 33 false [.val none [I n],.val none [I lo],.val none [I hi]] .one [B (decide (lo≤n∧n≤hi))]:=by
 refine fO 15 [] Tryz.func33 rfl ?_
 repeat'(first|refine gO ?_|(conv=>whnf);first|with_reducible refine Bf.D (fun hq=>?_) (fun hq=>?_))
 all_goals exact congrArg (fun z=>[B z]) (by simp;try omega)
theorem eY (k:Int):ah Tryz.prog 139 false [.val none [I k]] .one [B (decide (0≤k∧k≤3))]:=by
 refine fO 5 [] Tryz.func139 rfl ?_
 repeat'(first|refine gO ?_|(conv=>whnf);first|refine Cl.mk (aL k 0 3) ?_)
 rfl
theorem dR (k:Int):ah Tryz.prog 66 false [.val none [I k]] .one [I (csz k)]:=by
 by_cases hk:0≤k∧k≤3
 ·obtain rfl|rfl|rfl|rfl:k=0∨k=1∨k=2∨k=3:=by omega
  all_goals
   refine fO 8 [] Tryz.func66 rfl ?_
   repeat'(first|refine gD ?_|(conv=>whnf);first|with_reducible refine Bf.D (fun hq=>?_) (fun hq=>?_)|refine Cl.mk (eY _) ?_|refine Cd.mk (by decide) ?_|refine Wr.mk rfl ?_)
   exact congrArg (fun z=>[I z]) (by decide)
 ·refine fO 8 [] Tryz.func66 rfl ?_
  repeat'(first|refine gD ?_|(conv=>whnf);first|with_reducible refine Bf.D (fun hq=>?_) (fun hq=>?_)|refine Cl.mk (eY _) ?_)
  exact congrArg (fun z=>[I z]) (by unfold csz;rw[if_neg hk])
theorem gl (k:Int):ah Tryz.prog 269 false [.val none [I k]] .one [I (csz k)]:=by
 by_cases hk:0≤k∧k≤3
 ·obtain rfl|rfl|rfl|rfl:k=0∨k=1∨k=2∨k=3:=by omega
  all_goals
   refine fO 9 [] Tryz.func269 rfl ?_
   repeat'(first|refine gD ?_|(conv=>whnf);first|with_reducible refine Bf.D (fun hq=>?_) (fun hq=>?_)|refine Cl.mk (aO _ 0 3) ?_|refine Cd.mk (by decide) ?_|refine Wr.mk rfl ?_)
   exact congrArg (fun z=>[I z]) (by decide)
 ·refine fO 9 [] Tryz.func269 rfl ?_
  repeat'(first|refine gD ?_|(conv=>whnf);first|with_reducible refine Bf.D (fun hq=>?_) (fun hq=>?_)|refine Cl.mk (aO _ 0 3) ?_)
  exact congrArg (fun z=>[I z]) (by unfold csz;rw[if_neg hk])
theorem m0 (xs:List Int) (a:Int) (hl:xs.length≤9223372036854775807):ah Tryz.prog 261 false [.val none (aI .imm xs),.val none [I a]] .one [B (decide (a∈xs))]:=by
 refine fO 18 [] Tryz.func261 rfl ?_
 repeat'(first|refine gO ?_|fail)
 (conv=>whnf)
 refine Lp.mk (ι:=Nat) (fun i=>[(0,.hold .one (aI .imm xs)),(1,.hold .one [I a]),(5,.hold .one [I (i:Nat)])]) (fun i=>i≤xs.length∧a∉xs.take i) (fun i=>xs.length - i) 0 ?_ ⟨Nat.zero_le _,by simp⟩ fun i hi=>?_
 ·exact wA
 ·obtain⟨hi,hn⟩:=hi
  by_cases hlt:i<xs.length
  ·obtain⟨y,hy⟩ : ∃ y,xs[i]? = some y:=⟨_,List.getElem?_eq_getElem hlt⟩
   repeat'(first|refine gD ?_|(conv=>whnf);first|with_reducible (first|refine Ix.nat (aa hy) ?_|refine Bf.E (fun hq=>?_) (fun hq=>?_)))
   ·exact congrArg (fun z=>[B z]) (by symm;simp;rw[←‹y=a›];exact List.mem_of_getElem? hy)
   ·(conv=>whnf)
    refine Nx.mk (i+1) ⟨by omega,?_⟩ (by omega) ?_
    ·rw[List.take_add_one,hy]
     simp only[Option.toList_some,List.mem_append,List.mem_singleton,not_or]
     exact⟨hn,fun e=>‹y≠a› e.symm⟩
    ·exact wA
  ·repeat'(first|refine gD ?_|fail)
   rw[List.take_of_length_le (by omega)]at hn
   exact congrArg (fun z=>[B z]) (by symm;simpa using hn)
end Go.Proofs.YtplcalfnngkffaaGreat.Ab
/- Contracts of CacheOk and CacheCells, the reference's and the program's. No condition. -/
namespace Go.Proofs.YtplcalfnngkffaaGreat.Ab
open Go.RowKit
set_option maxRecDepth 20000
set_option maxHeartbeats 4000000
def good (k:Int) (s:List Int) (a:Int):Prop:=0≤a∧a≤511∧a.tmod (csz k)=0∧a∉s
instance (k:Int) (s:List Int) (a:Int):Decidable (good k s a):=by unfold good;exact inferInstance
def ur (k:Int):List Int→List Int→Option (List Int)
 | s,[]=>some s
 | s,a::l=>if good k s a then ur k (s++[a]) l else none
def fq (k:Nat) (s l:List Int):Option (List Int):=if l.length≤8∧k≤3 then ur k s l else none
def ij:Nat→List Int→List (List Int)→Option (List Int)
 | _,s,[]=>some s
 | k,s,l::ls=>(fq k s l).bind fun s'=>ij (k+1) s' ls
def b9 (c:ay):Bool:=decide (c.Lists.length=4)&&(ij 0 [] c.Lists).isSome
theorem pV (k:Int):∀ (a s b:List Int),ur k s (a++b)=(ur k s a).bind fun s'=>ur k s' b
 | [],s,b=>rfl
 | x::a,s,b=>by
  simp only[List.cons_append,ur]
  split
  ·exact pV k a _ b
  ·rfl
theorem nK:∀ (a:List (List Int)) (k:Nat) (s:List Int) (b:List (List Int)),ij k s (a++b)=(ij k s a).bind fun s'=>ij (k+a.length) s' b
 | [],k,s,b=>rfl
 | l::a,k,s,b=>by
  simp only[List.cons_append,ij,Option.bind_assoc,List.length_cons]
  congr 1;funext s'
  rw[nK a (k+1) s' b,show k+1+a.length=k+(a.length+1) by omega]
theorem GJ {k:Int} {l s0 s:List Int} {j:Nat} {a:Int} (hj:l[j]? = some a) (h:ur k s0 (l.take j)=some s) (hg:good k s a):ur k s0 (l.take (j+1))=some (s++[a]):=by
 rw[List.take_add_one,hj,Option.toList_some,pV,h]
 simp[ur,hg]
theorem Ky {k:Nat} {l s0 s:List Int} {j:Nat} {a:Int} (hj:l[j]? = some a) (h:ur k s0 (l.take j)=some s) (hg:¬good k s a):fq k s0 l=none:=by
 unfold fq
 split
 ·have:l=l.take j++(a::l.drop (j+1)):=by
   obtain⟨hjl,rfl⟩:=List.getElem?_eq_some_iff.1 hj
   rw[←List.drop_eq_getElem_cons hjl,List.take_append_drop]
  rw[this,pV,h]
  simp[ur,hg]
 ·rfl
theorem A6 {k:Int} : ∀ {l s s':List Int},ur k s l=some s'→s'.length=s.length+l.length
 | [],s,s',h=>by simp only[ur,Option.some.injEq]at h;subst h;simp
 | a::l,s,s',h=>by
  simp only[ur]at h
  split at h
  ·have:=A6 h;simp at this ⊢;omega
  ·cases h
theorem rR {ls:List (List Int)} {i:Nat} {l s:List Int} (hi:ls[i]? = some l) (h:ij 0 [] (ls.take i)=some s):ij 0 [] (ls.take (i+1))=fq i s l:=by
 have hl:=(List.getElem?_eq_some_iff.1 hi).1
 rw[List.take_add_one,hi,Option.toList_some,nK,h]
 simp only[Option.bind_some,ij,Nat.zero_add,List.length_take,Nat.min_eq_left (Nat.le_of_lt hl)]
 cases fq i s l<;>rfl
theorem k4 {c:ay} {i:Nat} {l s:List Int} (hi:c.Lists[i]? = some l) (h:ij 0 [] (c.Lists.take i)=some s) (hn:fq i s l=none):b9 c=false:=by
 have h1:=rR hi h
 rw[hn]at h1
 have h2:ij 0 [] c.Lists=none:=by
  rw[←List.take_append_drop (i+1) c.Lists,nK,h1];rfl
 unfold b9;rw[h2];simp
theorem DS:∀ {ls:List (List Int)} {k:Nat} {s s':List Int},ij k s ls=some s'→s'.length≤s.length+8*ls.length
 | [],k,s,s',h=>by simp only[ij,Option.some.injEq]at h;subst h;simp
 | l::ls,k,s,s',h=>by
  simp only[ij]at h
  unfold fq at h
  split at h
  ·cases ho:ur k s l with
   | none=>rw[ho]at h;cases h
   | some s2=>
    rw[ho]at h
    have h1:=A6 ho
    have h2:=DS (show ij (k+1) s2 ls=some s' from h)
    simp only[List.length_cons];omega
  ·cases h
theorem KJ {i:Nat} (h:i≤3):csz (i:Int)≠0:=by
 obtain rfl|rfl|rfl|rfl:i=0∨i=1∨i=2∨i=3:=by omega
 all_goals decide
theorem di {l:List Int} : ∀ r∈l.map (rI .own),r.length=1:=by
 intro r hr;obtain⟨z,-,rfl⟩:=List.mem_map.1 hr;rfl
theorem qA (c:ay) (hs:ay.sml c):ah Tryz.prog 184 false [.val (some 1) (ay.enc .imm c)] .one [B (b9 c)]:=by
 have hl:=hs.1
 refine fO 60 [] Tryz.func184 rfl ?_
 repeat'(first|refine gO ?_|(conv=>whnf);first|with_reducible refine Bf.N (fun hq=>?_) (fun hq=>?_))
 ·exact congrArg (fun z=>[B z]) (by symm;unfold b9;rw[decide_eq_false (by omega)];rfl)
 have h4:c.Lists.length=4:=by omega
 (conv=>whnf)
 refine Lp.mk (ι:=Nat × List Int) (fun i=>[(1,.hold .box (ay.enc .imm c)),(3,.hold .one (aI .own i.2)),(4,.hold .one [I (i.1:Nat)])]) (fun i=>i.1≤4∧ij 0 [] (c.Lists.take i.1)=some i.2) (fun i=>4 - i.1) (0,[]) ?_ ⟨Nat.zero_le _,rfl⟩ fun i hi=>?_
 ·exact wA
 ·obtain⟨i,s⟩:=i
  obtain⟨hi,hok⟩:=hi
  simp only at hi hok ⊢
  have hsl:=DS hok
  rw[List.length_take]at hsl
  simp only[List.length_nil]at hsl
  by_cases hlt:i<4
  ·obtain⟨l,hli⟩ : ∃ l,c.Lists[i]? = some l:=⟨_,List.getElem?_eq_getElem (by omega)⟩
   have hll:l.length≤1048576:=hs.2 l (List.mem_of_getElem? hli)
   repeat'(first|refine gD ?_|(conv=>whnf);first|with_reducible (first|refine Ix.nat (aa hli) ?_|refine Bf.D (fun hq=>?_) (fun hq=>?_)))
   ·exact congrArg (fun z=>[B z]) (k4 hli hok (by unfold fq;rw[if_neg (by omega)])).symm
   have hl8:l.length≤8:=by omega
   (conv=>whnf)
   refine Lp.mk (ι:=Nat × List Int) (fun j=>[(1,.hold .box (ay.enc .imm c)),(3,.hold .one (aI .own j.2)),(4,.hold .one [I (i:Nat)]),(5,.hold .one [I (j.1:Nat)])]) (fun j=>j.1≤l.length∧ur i s (l.take j.1)=some j.2) (fun j=>l.length - j.1) (0,s) ?_ ⟨Nat.zero_le _,rfl⟩ fun j hj=>?_
   ·exact wA
   ·obtain⟨j,s2⟩:=j
    obtain⟨hj,hok2⟩:=hj
    simp only at hj hok2 ⊢
    have hsl2:=A6 hok2
    rw[List.length_take]at hsl2
    by_cases hjl:j<l.length
    ·obtain⟨y,hy⟩ : ∃ y,l[j]? = some y:=⟨_,List.getElem?_eq_getElem hjl⟩
     repeat'(first|refine gD ?_|(conv=>whnf);first|with_reducible (first|refine Ix.nat (aa hli) ?_|refine Ix.nat (aa hy) ?_|refine Bf.D (fun hq=>?_) (fun hq=>?_)|refine Bf.N (fun hq=>?_) (fun hq=>?_))|refine Cl.mk (aO y 0 511) ?_|refine Cl.mk (gl (i:Nat)) ?_|refine Cd.mk (KJ (by omega)) ?_|refine Ev.mk rfl ?_|refine Cl.eq (m0 s2 y (by omega)) ⟨⟨rfl,dO _⟩,⟨rfl,rfl⟩,trivial⟩ ?_|refine Ap.mk di (fun r hr=>by rw[List.mem_singleton.1 hr];rfl) (by simp[aW,eB]) (by simp;omega) (by simp only[List.length_map];exact ul (by simp;omega) (by decide)) rfl ?_)
     all_goals first
      | exact congrArg (fun z=>[B z]) (k4 hli hok (Ky hy hok2 fun⟨g1,g2,g3,g4⟩=>by first|contradiction|omega)).symm
      | ((conv=>whnf)
         refine Nx.mk (j+1,s2++[y]) ⟨(by simp only;omega),GJ hy hok2 ⟨(by omega),(by omega),(by assumption),(by assumption)⟩⟩ (by simp only;omega) ?_
         (repeat'(first|exact trivial|rfl|exact And.intro rfl (And.intro (congrArg (C.s dE.own) (by simp[rI])) trivial)|refine And.intro ?_ ?_)))
    ·repeat'(first|refine gD ?_|(conv=>whnf);first|with_reducible refine Ix.nat (aa hli) ?_)
     (conv=>whnf)
     rw[List.take_of_length_le (by omega)]at hok2
     refine Nx.mk (i+1,s2) ⟨(by simp only;omega),(by rw[rR hli hok];unfold fq;rw[if_pos ⟨hl8,by omega⟩];exact hok2)⟩ (by simp only;omega) ?_
     exact wA
  ·repeat'(first|refine gD ?_|fail)
   rw[List.take_of_length_le (by omega)]at hok
   exact congrArg (fun z=>[B z]) (by symm;unfold b9;rw[hok,decide_eq_true h4];rfl)
def fm (s:List Int):List (Int × Value):=s.map fun a=>(a,.bool true)
theorem ng (a:Int):∀ (s:List Int),mlook (fm s) a (.bool false)=.bool (decide (a∈s))
 | []=>by simp[fm,mlook]
 | x::s=>by
  have ih:=ng a s
  simp only[fm,List.map_cons,mlook]at ih ⊢
  by_cases h:x=a
  ·rw[if_pos h];simp[h]
  ·rw[if_neg h,ih]
   congr 1
   simp[show ¬a=x from fun e=>h e.symm]
theorem sJ {a:Int} : ∀ {s:List Int},a∉s→fm (s++[a])=mput (fm s) a (.bool true)
 | [],_=>rfl
 | x::s,h=>by
  simp only[List.mem_cons,not_or]at h
  have ih:=sJ h.2
  simp only[fm,List.cons_append,List.map_cons,mput]at ih ⊢
  rw[if_neg fun e=>h.1 e.symm,ih]
theorem rp (c:ay) (hs:ay.sml c):ah Tryz.prog 49 false [.val (some 1) (ay.enc .imm c)] .one [B (b9 c)]:=by
 have hl:=hs.1
 refine fO 54 [] Tryz.func49 rfl ?_
 repeat'(first|refine gO ?_|fail)
 (conv=>whnf)
 refine Lp.mk (ι:=Nat × List Int) (fun i=>[(1,.hold .box (ay.enc .imm c)),(3,.hold .one [.m (fm i.2)]),(10,.hold .one (ed .imm c.Lists)),(11,.hold .one [I c.Lists.length]),(12,.hold .one [I (i.1:Nat)])]) (fun i=>i.1≤c.Lists.length∧ij 0 [] (c.Lists.take i.1)=some i.2) (fun i=>c.Lists.length - i.1) (0,[]) ?_ ⟨Nat.zero_le _,rfl⟩ fun i hi=>?_
 ·exact wA
 ·obtain⟨i,s⟩:=i
  obtain⟨hi,hok⟩:=hi
  simp only at hi hok ⊢
  by_cases hlt:i<c.Lists.length
  ·obtain⟨l,hli⟩ : ∃ l,c.Lists[i]? = some l:=⟨_,List.getElem?_eq_getElem hlt⟩
   have hll:l.length≤1048576:=hs.2 l (List.mem_of_getElem? hli)
   repeat'(first|refine gD ?_|(conv=>whnf);first|with_reducible (first|refine Ix.nat (aa hli) ?_|refine Bf.D (fun hq=>?_) (fun hq=>?_))|refine Cl.mk (eY (i:Nat)) ?_)
   ·exact congrArg (fun z=>[B z]) (k4 hli hok (by unfold fq;rw[if_neg (by omega)])).symm
   rotate_left
   ·exact congrArg (fun z=>[B z]) (k4 hli hok (by unfold fq;rw[if_neg (by omega)])).symm
   have hl8:l.length≤8:=by omega
   have hi3:i≤3:=by omega
   (conv=>whnf)
   refine Lp.mk (ι:=Nat × List Int) (fun j=>[(1,.hold .box (ay.enc .imm c)),(3,.hold .one [.m (fm j.2)]),(4,.hold .one [I (i:Nat)]),(10,.hold .one (ed .imm c.Lists)),(11,.hold .one [I c.Lists.length]),(12,.hold .one [I (i:Nat)]),(25,.hold .one (aI .imm l)),(26,.hold .one [I l.length]),(27,.hold .one [I (j.1:Nat)])]) (fun j=>j.1≤l.length∧ur i s (l.take j.1)=some j.2) (fun j=>l.length - j.1) (0,s) ?_ ⟨Nat.zero_le _,rfl⟩ fun j hj=>?_
   ·exact wA
   ·obtain⟨j,s2⟩:=j
    obtain⟨hj,hok2⟩:=hj
    simp only at hj hok2 ⊢
    by_cases hjl:j<l.length
    ·obtain⟨y,hy⟩ : ∃ y,l[j]? = some y:=⟨_,List.getElem?_eq_getElem hjl⟩
     repeat'(first|refine gD ?_|(conv=>whnf);first|with_reducible (first|refine Ix.nat (aa hli) ?_|refine Ix.nat (aa hy) ?_|refine Bf.D (fun hq=>?_) (fun hq=>?_)|refine Bf.N (fun hq=>?_) (fun hq=>?_))|refine Cl.mk (aL y 0 511) ?_|refine Cl.mk (dR (i:Nat)) ?_|refine Cd.mk (KJ (by omega)) ?_|refine Ev.mk rfl ?_|refine Ml.mk (ng y s2) ?_|refine Mu.mk (sJ (by assumption)) ?_)
     all_goals first
      | exact congrArg (fun z=>[B z]) (k4 hli hok (Ky hy hok2 fun⟨g1,g2,g3,g4⟩=>by first|contradiction|omega)).symm
      | ((conv=>whnf)
         refine Nx.mk (j+1,s2++[y]) ⟨(by simp only;omega),GJ hy hok2 ⟨(by omega),(by omega),(by assumption),(by assumption)⟩⟩ (by simp only;omega) ?_
         (exact wA))
    ·repeat'(first|refine gD ?_|fail)
     (conv=>whnf)
     rw[List.take_of_length_le (by omega)]at hok2
     refine Nx.mk (i+1,s2) ⟨(by simp only;omega),(by rw[rR hli hok];unfold fq;rw[if_pos ⟨hl8,hi3⟩];exact hok2)⟩ (by simp only;omega) ?_
     exact wA
  ·repeat'(first|refine gD ?_|fail)
   rw[List.take_of_length_le (by omega)]at hok
   have h4:((c.Lists.length:Int) == 4)=decide (c.Lists.length=4):=by
    by_cases h4:c.Lists.length=4
    ·simp[h4]
    ·rw[decide_eq_false h4];simp;omega
   exact congrArg (fun z=>[B z]) (h4.trans (by unfold b9;rw[hok];simp))
theorem Hd:∀ {ls:List (List Int)} {k:Nat} {s s':List Int},ij k s ls=some s'→∀ l∈ls,l.length≤8
 | [],k,s,s',h,l,hm=>by simp at hm
 | x::ls,k,s,s',h,l,hm=>by
  simp only[ij]at h
  unfold fq at h
  split at h
  ·rename_i hc
   rcases List.mem_cons.1 hm with rfl|hm
   ·exact hc.1
   ·cases ho:ur k s x with
    | none=>rw[ho]at h;cases h
    | some s2=>rw[ho]at h;exact Hd (show ij (k+1) s2 ls=some s' from h) l hm
  ·cases h
theorem tt {c:ay} (h:b9 c=true):c.Lists.length=4∧∀ l∈c.Lists,l.length≤8:=by
 unfold b9 at h
 simp only[Bool.and_eq_true,decide_eq_true_eq]at h
 obtain⟨s,hs⟩:=Option.isSome_iff_exists.1 h.2
 exact⟨h.1,Hd hs⟩
end Go.Proofs.YtplcalfnngkffaaGreat.Ab
