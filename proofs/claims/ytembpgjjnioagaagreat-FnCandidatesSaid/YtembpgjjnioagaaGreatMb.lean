/- Calls that only read what they are handed, on abstract frames; all slot-only operations together. No condition. -/
import Derived.Test.YtembpgjjnioagaaGreatMa
import Derived.Deep.LoopGhost
set_option linter.unusedVariables false
set_option linter.unusedSimpArgs false
set_option linter.constructorNameAsVariable false
namespace Go.Proofs.YtembpgjjnioagaaGreat.Ab
open Go.RowKit
inductive RA where
 |val (ag:Option Nat) (cs:List C)
 |ptr (cs:List C)
 |fn (Ok:ac->World->Value->Prop)
def ny (w:World) (S:ac):RA->Value->Prop
 | .val ag cs,v=>bN w S NO ag cs v
 | .ptr cs,v=>∃ g b u,v=.pointer (some ⟨g,b,none⟩)/\(∀ d,d<cs.length->S g (b+d)/\cel w g (b+d)=some (u d))/\cF w S NO cs u
 | .fn Ok,v=>∃ (S1:ac) (w1:World),(∀ b o,S1 b o->S b o)/\bi S1 w1 w/\Ok S1 w1 v
def w7 (w:World) (S:ac):List RA->List Value->Prop
 | [],[]=>True
 | A::As,v::vs=>ny w S A v/\w7 w S As vs
 | _,_=>False
def Ht (P : Program) (f : Nat) : Prop := ∃ fn, P.funcs[f]? = some fn /\ (fn.name == "runtime.NumGoroutine") = false /\ fn.body.isSome = true
structure ao (P:Program) (f:Nat) (sh:Bool) (A:List RA) (k:Kd) (rcs:List C):Prop where
 has:Ht P f
 run:∀ (w:World) (S:ac) (vs:List Value),(∀ b o,S b o->b<w.heap.size)->w7 w S A vs->
  Calls P f vs.toArray w fun e w1=>∃ v,e=.returned v/\bH NO w w1/\∃ X S1:ac,(∀ b o,X b o->b<w1.heap.size/\w.heap.size<=b)/\
   (∀ b o,S1 b o->(sh=true/\S b o)\/(b<w1.heap.size/\w.heap.size<=b))/\(∀ b o,X b o->¬S1 b o)/\f7 w1 NO k rcs.length v/\cF w1 S1 X rcs (bS w1 k v)
structure pB (P:Program) (f:Nat) (sh:Bool) (A:List RA) (k:Kd) (rcs:List C):Prop where
 has:Ht P f
 run:∀ (w:World) (S:ac) (vs:List Value),(∀ b o,S b o->b<w.heap.size)->w7 w S A vs->
  Calls P f vs.toArray w fun e w1=>∃ v,e=.returned v/\bH NO w w1/\∃ X S1:ac,(∀ b o,X b o->b<w1.heap.size/\w.heap.size<=b)/\
   (∀ b o,S1 b o->(sh=true/\S b o)\/(b<w1.heap.size/\w.heap.size<=b))/\(∀ b o,X b o->¬S1 b o)/\∃ X1 Y:ac,(∀ b o,X1 b o->X b o)/\(∀ b o,Y b o->X b o)/\(∀ b o,X1 b o->¬Y b o)/\f7 w1 X1 k rcs.length v/\cF w1 S1 Y rcs (bS w1 k v)
theorem ao.toG {P:Program} {f:Nat} {sh:Bool} {A:List RA} {k:Kd} {rcs:List C} (h:ao P f sh A k rcs):pB P f sh A k rcs:=
 ⟨h.has,fun w S vs hS hA=>(h.run w S vs hS hA).mono fun _ _ ⟨v,he,hk,X,S1,h1,h2,h3,h4,h5⟩=>⟨v,he,hk,X,S1,h1,h2,h3,NO,X,fun _ _ h=>h.elim,fun _ _ h=>h,fun _ _ h=>h.elim,h4,h5⟩⟩
def tt (K:Bool->RA->Prop) (ag:Option Nat) (cs:List C):Prop:=bif aV cs then K true (.val ag cs) else K false (.val ag (d3 cs))
def argV (F:Nat->AV) (x:Operand) (K:Bool->RA->Prop):Prop:=
 match lA F x with
 | .hold .box cs=>K false (.ptr (d3 cs))
 | .hold .one cs=>tt K none cs
 | .hold .agg cs=>tt K (some cs.length) cs
 | .hold (.tup _) _=>False
 | .bor t off st ag=>gE F (.bor t off st ag) (tt K)
 | .ref t off st=>(match off,st,F t with|0,[],.hold .box cs=>K false (.ptr (d3 cs))|_,_,_=>False)
 | .iref r off=>bif Nat.beq off 0 then K true (.ptr r) else False
 | .fv Ok=>K true (.fn Ok)
 | .fn _ _=>False
 | .dead=>False
def lz (F:Nat->AV):List Nat->(List RA->Prop)->Prop
 | [],K=>K []
 | c::cs,K=>(match F c with
   | .hold .box xs=>lz F cs fun D=>K (.ptr (d3 xs)::D)
   | .hold .one xs=>lz F cs fun D=>K (.val none (d3 xs)::D)
   | .hold .agg xs=>lz F cs fun D=>K (.val (some xs.length) (d3 xs)::D)
   | _=>False)
def mA (P:Program) (Q:List (Option Nat × List C)->Kd->List C->Prop) (S1:ac) (w1:World) (v:Value):Prop:=
 ∃ (f:Nat) (caps:List Value),v=.func (.func f) #[] caps.toArray/\Ht P f/\∀ L k rcs,Q L k rcs->∀ (w:World) (S:ac) (vs:List Value),(∀ b o,S1 b o->S b o)->bi S1 w1 w->(∀ b o,S b o->b<w.heap.size)->w7 w S (L.map fun p=>.val p.1 p.2) vs->
  Calls P f (vs++caps).toArray w fun e w1=>∃ v,e=.returned v/\bH NO w w1/\∃ X S1:ac,(∀ b o,X b o->b<w1.heap.size/\w.heap.size<=b)/\
   (∀ b o,S1 b o->(false=true/\S b o)\/(b<w1.heap.size/\w.heap.size<=b))/\(∀ b o,X b o->¬S1 b o)/\f7 w1 NO k rcs.length v/\cF w1 S1 X rcs (bS w1 k v)
inductive Cq (P:Program) (f:Nat) (D:List RA) (K:(ac->World->Value->Prop)->Prop):Prop
 | mk_ (h:∃ Q:List (Option Nat × List C)->Kd->List C->Prop,Ht P f/\(∀ L k rcs,Q L k rcs->ao P f false (L.map (fun p=>RA.val p.1 p.2)++D) k rcs)/\K (mA P Q))
theorem Cq.mk {P:Program} {f:Nat} {D:List RA} {K:(ac->World->Value->Prop)->Prop} (Q:List (Option Nat × List C)->Kd->List C->Prop) (h1:Ht P f) (h2:∀ L k rcs,Q L k rcs->ao P f false (L.map (fun p=>RA.val p.1 p.2)++D) k rcs) (hK:K (mA P Q)):Cq P f D K:=.mk_ ⟨Q,h1,h2,hK⟩
inductive Fv (P:Program) (Ok:ac->World->Value->Prop) (L:List (Option Nat × List C)) (K:AV->Prop):Prop
 |mk_ (h:∃ (Q:List (Option Nat × List C)->Kd->List C->Prop) (k:Kd) (rcs:List C),Ok=mA P Q/\Q L k rcs/\K (.hold k rcs))
theorem Fv.mk {P:Program} {Q:List (Option Nat × List C)->Kd->List C->Prop} {L:List (Option Nat × List C)} {K:AV->Prop} {k:Kd} {rcs:List C} (h:Q L k rcs) (hK:K (.hold k rcs)):Fv P (mA P Q) L K:=.mk_ ⟨Q,k,rcs,rfl,h,hK⟩
def argA (P:Program) (F:Nat->AV) (x:Operand) (K:Bool->RA->Prop):Prop:=
 match lA F x with
 | .fn f caps=>lz F caps fun D=>Cq P f D fun Ok=>K false (.fn Ok)
 | _=>argV F x K
def yg (P:Program) (F:Nat->AV):List Operand->(Bool->List RA->Prop)->Prop
 | [],K=>K true []
 | x::xs,K=>argA P F x fun b1 A=>yg P F xs fun b As=>K (bif b1 then b else false) (A::As)
def argsV (F:Nat->AV):List Operand->(List (Option Nat × List C)->Prop)->Prop
 | [],K=>K []
 | x::xs,K=>gE F (lA F x) fun ag cs=>argsV F xs fun L=>K ((ag,bif aV cs then cs else d3 cs)::L)
inductive Cl (P:Program) (f:Nat) (b:Bool) (A:List RA) (K:AV->Prop):Prop
 |mk_ (h:∃ sh k rcs,pB P f sh A k rcs/\(sh=false\/b=true)/\K (.hold k rcs))
theorem Cl.mk {P:Program} {f:Nat} {b:Bool} {A:List RA} {K:AV->Prop} {k:Kd} {rcs:List C} (h:ao P f false A k rcs) (hK:K (.hold k rcs)):Cl P f b A K:=by refine .mk_ ?_;exact⟨false,k,rcs,h.toG,.inl rfl,hK⟩
theorem Cl.sh {P:Program} {f:Nat} {b:Bool} {A:List RA} {K:AV->Prop} {k:Kd} {rcs:List C} (h:ao P f true A k rcs) (hb:b=true) (hK:K (.hold k rcs)):Cl P f b A K:=by refine .mk_ ?_;exact⟨true,k,rcs,h.toG,.inr hb,hK⟩
theorem Cl.g {P:Program} {f:Nat} {b sh:Bool} {A:List RA} {K:AV->Prop} {k:Kd} {rcs:List C} (h:pB P f sh A k rcs) (hb:sh=false\/b=true) (hK:K (.hold k rcs)):Cl P f b A K:=by refine .mk_ ?_;exact⟨sh,k,rcs,h,hb,hK⟩
theorem Cl.out {P:Program} {f:Nat} {b:Bool} {A:List RA} {K:AV->Prop} (h:Cl P f b A K):∃ sh k rcs,pB P f sh A k rcs/\(sh=false\/b=true)/\K (.hold k rcs):=by obtain⟨h⟩:=h;exact h
def Fj (P:Program) (F:Nat->AV) (f:Nat) (args:List Operand) (K:AV->Prop):Prop:=
 yg P F args fun b A=>Cl P f b A K
def kI (P:Program) (F:Nat->AV) (t:Nat) (args:List Operand) (K:AV->Prop):Prop:=
 match F t with
 | .fn f caps=>yg P F args fun _ A=>lz F caps fun D=>Cl P f false (A++D) K
 | .fv Ok=>argsV F args fun L=>Fv P Ok L K
 | _=>False
section
variable {P:Program} {w0 w w1:World} {M S0 S:ac} {N:eL} {φ:Nat->ac} {F:Nat->AV} {a:Act}
theorem bN.mono {S S' Y Y':ac} {ag:Option Nat} {cs:List C} {v:Value} (h:bN w S Y ag cs v) (hS:∀ b o,S b o->S' b o) (hY:∀ b o,Y b o->Y' b o):bN w S' Y' ag cs v:=
 ⟨h.1,h.2.choose,h.2.choose_spec.1,h.2.choose_spec.2.mono hS hY⟩
theorem bN.freeze {Y:ac} {ag:Option Nat} {cs:List C} {v:Value} (h:bN w S Y ag cs v):bN w (fun b o=>S b o\/Y b o) NO ag (d3 cs) v:=
 ⟨by rw[bT,U0];exact h.1,h.2.choose,h.2.choose_spec.1,h.2.choose_spec.2.freeze⟩
def lV (S:ac) (φ:Nat->ac):ac:=fun b o=>S b o\/∃ t,φ t b o
theorem bN.keepS {S':ac} {ag:Option Nat} {cs:List C} {v:Value} (h:bN w S NO ag cs v) (hS:bi S w w1) (hm:∀ b o,S b o->S' b o):bN w1 S' NO ag cs v:=by
 obtain⟨h1,u,h2,h3⟩:=h;exact⟨h1,u,h2,(h3.keep hS (fun _ _ h=>h.elim)).mono hm (fun _ _ h=>h)⟩
theorem ny.keep {S':ac} {A:RA} {v:Value} (h:ny w S A v) (hS:bi S w w1) (hm:∀ b o,S b o->S' b o):ny w1 S' A v:=by
 cases A with
 | val ag cs=>exact bN.keepS h hS hm
 | ptr cs=>
  obtain⟨g,b,u,h1,h2,h3⟩:=h;exact⟨g,b,u,h1,fun d hd=>⟨hm _ _ (h2 d hd).1,(hS _ _ (h2 d hd).1).1.trans (h2 d hd).2⟩,(h3.keep hS (fun _ _ h=>h.elim)).mono hm (fun _ _ h=>h)⟩
 | fn Ok=>
  obtain⟨S1,w2,h1,h2,h3⟩:=h;exact⟨S1,w2,fun b o hb=>hm _ _ (h1 b o hb),fun b o hb=>⟨(hS b o (h1 b o hb)).1.trans (h2 b o hb).1,(hS b o (h1 b o hb)).2.trans (h2 b o hb).2⟩,h3⟩
theorem w7.keep {S':ac} (hS:bi S w w1) (hm:∀ b o,S b o->S' b o):∀ {A:List RA} {vs:List Value},w7 w S A vs->w7 w1 S' A vs
 | [],[],_=>trivial
 | _::_,_::_,h=>⟨h.1.keep hS hm,w7.keep hS hm h.2⟩
 | [],_::_,h=>h.elim
 | _::_,[],h=>h.elim
theorem w7.append:∀ {A B:List RA} {vs us:List Value},w7 w S A vs->w7 w S B us->w7 w S (A++B) (vs++us)
 | [],_,[],_,_,h=>h
 | _::_,_,_::_,_,h,h'=>⟨h.1,w7.append h.2 h'⟩
 | [],_,_::_,_,h,_=>h.elim
 | _::_,_,[],_,h,_=>h.elim
theorem bi.rfl' (X:ac) (w:World):bi X w w:=fun _ _ _=>⟨rfl,rfl⟩
theorem yI {cs:List C} {v:Value} {X:ac} {tv:Nat->Value} (h:cn w S F tv X (.hold .box cs) v) {T:ac} (hT:∀ b o,S b o\/X b o->T b o):ny w T (.ptr (d3 cs)) v:=by
 obtain⟨X1,Y,h1,h2,h3,⟨g,o,hv,hb⟩,h5⟩:=h;refine⟨g,o,bS w .box v,hv,fun d hd=>?_,h5.freeze.mono (fun b o hb=>hT b o (hb.imp id (h2 b o))) (fun _ _ h=>h)⟩;rw[bT,U0]at hd;obtain⟨e1,⟨z,hz⟩,-⟩:=hb d hd;exact⟨hT _ _ (.inr (h1 _ _ e1)),by rw[hv];simp only[bS,hz,Option.getD_some]⟩
theorem bh.argVal (h:bh w0 M S0 N S φ F a w) {av:AV} {v:Value} {X:ac} (hX:∀ b o,X b o->lV S φ b o) (hs:cn w S F (tvs a) X av v) {K:Bool->RA->Prop} (hp:gE F av (tt K)) :
  ∃ b A,K b A/\ny w (lV S φ) A v/\(b=true->ny w S A v):=by
 obtain⟨ag,cs,Y,hK,hv,hY⟩:=h.val hs hp;have hY':∀ b o,Y b o->lV S φ b o:=fun b o hb=>(hY b o hb).elim (hX b o) .inr
 unfold tt at hK;cases hn:aV cs with
 | true=>
  rw[hn]at hK;exact⟨true,_,hK,(hv.bare hn).mono (fun _ _ h=>.inl h) (fun _ _ h=>h),fun _=>hv.bare hn⟩
 | false=>
  rw[hn]at hK;exact⟨false,_,hK,hv.freeze.mono (fun b o h=>h.elim .inl (hY' b o)) (fun _ _ h=>h),fun hb=>by cases hb⟩
theorem bh.argV (h:bh w0 M S0 N S φ F a w) {x:Operand} {K:Bool->RA->Prop} (hp:Ab.argV F x K):∃ b A,K b A/\ny w (lV S φ) A (a.eval x)/\(b=true->ny w S A (a.eval x)):=by
 have hs:=h.ev x;have hX:∀ b o,NP φ x b o->lV S φ b o:=fun b o hb=>by
  cases x with
  | tmp t=>exact .inr ⟨t,hb⟩
  | _=>exact hb.elim
 unfold Ab.argV at hp;cases hav:lA F x with
 | hold k cs=>
  rw[hav]at hp hs;cases k with
  | box=>exact⟨false,_,hp,yI hs fun b o hb=>hb.elim .inl (hX b o),fun hb=>by cases hb⟩
  | one=>exact h.argVal hX hs (show gE F (.hold .one cs) (tt K) from hp)
  | agg=>exact h.argVal hX hs (show gE F (.hold .agg cs) (tt K) from hp)
  | tup sh=>exact hp.elim
 | bor t off st ag=>rw[hav]at hp hs;exact h.argVal hX hs hp
 | ref t off st=>
  rw[hav]at hp hs;simp only at hp;split at hp
  ·rename_i cs hF
   have ht:=h.slot t;rw[hF]at ht;obtain⟨k,cs',r,j,g,o,e1,e2,e3,e4⟩:=hs;rw[hF]at e1;cases e1;have hv:a.eval x=tvs a t:=by
    obtain⟨X1,Y,-,-,-,⟨g',o',hv,-⟩,-⟩:=ht;rw[hv]at e3 |-;simp only[plc,mX,Y3,T0,Prod.mk.injEq,Nat.add_zero]at e3;obtain⟨rfl,rfl⟩:=e3;exact e4
   rw[hv];exact⟨false,_,hp,yI ht fun b o hb=>hb.elim .inl (fun hb=>.inr ⟨t,hb⟩),fun hb=>by cases hb⟩
  ·exact hp.elim
 | iref r off=>
  rw[hav]at hp hs;simp only at hp;cases hb:Nat.beq off 0 with
  | false=>rw[hb]at hp;exact hp.elim
  | true=>
   rw[hb]at hp;have:=P1 hb;subst this;have hr:ny w S (.ptr r) (a.eval x):=by
    obtain⟨g,b,u,e1,e2,e3⟩:=hs;exact⟨g,b,u,by rw[e1,Nat.add_zero],e2,e3⟩
   exact⟨true,_,hp,hr.keep (bi.rfl' _ _) (fun _ _ h=>.inl h),fun _=>hr⟩
 | fv Ok=>
  rw[hav]at hp hs;have hr:ny w S (.fn Ok) (a.eval x):=hs;exact⟨true,_,hp,hr.keep (bi.rfl' _ _) (fun _ _ h=>.inl h),fun _=>hr⟩
 | fn f caps=>rw[hav]at hp;exact hp.elim
 | dead=>rw[hav]at hp;exact hp.elim
theorem bh.caps (h:bh w0 M S0 N S φ F a w):∀ {cs:List Nat} {K:List RA->Prop},lz F cs K->∃ D,K D/\w7 w (lV S φ) D (cs.map (tvs a))
 | [],K,hp=>⟨[],hp,trivial⟩
 | c::cs,K,hp=>by
  have hs:=h.slot c;have hval:∀ (k:Kd) (xs:List C) (ag:Option Nat),F c=.hold k xs->gE F (.hold k xs) (fun ag' cs'=>ag'=ag/\cs'=xs)->ny w (lV S φ) (.val ag (d3 xs)) (tvs a c):=fun k xs ag hF hv=>by
   rw[hF]at hs;obtain⟨ag',cs',Y,⟨rfl,rfl⟩,hv,hY⟩:=h.val hs hv;exact hv.freeze.mono (fun b o hb=>hb.elim .inl (fun hb=>(hY b o hb).elim (fun hb=>.inr ⟨c,hb⟩) .inr)) (fun _ _ h=>h)
  simp only[lz]at hp;split at hp
  ·rename_i xs hF
   obtain⟨D,hK,hD⟩:=bh.caps h hp;rw[hF]at hs;exact⟨_,hK,yI hs (fun b o hb=>hb.elim .inl fun hb=>.inr ⟨c,hb⟩),hD⟩
  ·rename_i xs hF
   obtain⟨D,hK,hD⟩:=bh.caps h hp;exact⟨_,hK,hval _ _ _ hF ⟨rfl,rfl⟩,hD⟩
  ·rename_i xs hF
   obtain⟨D,hK,hD⟩:=bh.caps h hp;exact⟨_,hK,hval _ _ _ hF ⟨rfl,rfl⟩,hD⟩
  ·exact hp.elim
theorem bh.argA (h:bh w0 M S0 N S φ F a w) {x:Operand} {K:Bool->RA->Prop} (hp:Ab.argA P F x K):∃ b A,K b A/\ny w (lV S φ) A (a.eval x)/\(b=true->ny w S A (a.eval x)):=by
 unfold Ab.argA at hp;split at hp
 ·rename_i f caps hav
  have hs:=h.ev x;rw[hav]at hs;obtain⟨D,hK,hD⟩:=h.caps hp;obtain⟨Q,q1,q2,q3⟩:=hK;refine⟨false,_,q3,⟨lV S φ,w,fun _ _ h=>h,bi.rfl' _ _,f,caps.map (tvs a),hs,q1,fun L k rcs hQ w' S' vs hsub hsame hlt hvs=>?_⟩,fun hb=>by cases hb⟩;exact(q2 L k rcs hQ).run w' S' _ hlt (w7.append hvs (w7.keep hsame hsub hD))
 ·exact h.argV hp
theorem bh.args (h:bh w0 M S0 N S φ F a w):∀ {xs:List Operand} {K:Bool->List RA->Prop},yg P F xs K->∃ b A,K b A/\w7 w (lV S φ) A (xs.map a.eval)/\(b=true->w7 w S A (xs.map a.eval))
 | [],K,hp=>⟨true,[],hp,trivial,fun _=>trivial⟩
 | x::xs,K,hp=>by
  obtain⟨b1,A,hK,h1,h2⟩:=h.argA hp;obtain⟨b,As,hK,h3,h4⟩:=bh.args h hK;refine⟨_,_,hK,⟨h1,h3⟩,fun hb=>?_⟩;cases b1 with
  | false=>cases hb
  | true=>exact⟨h2 rfl,h4 hb⟩
theorem bh.argsV (h:bh w0 M S0 N S φ F a w):∀ {xs:List Operand} {K:List (Option Nat × List C)->Prop},Ab.argsV F xs K->∃ L,K L/\w7 w (lV S φ) (L.map fun p=>.val p.1 p.2) (xs.map a.eval)
 | [],K,hp=>⟨[],hp,trivial⟩
 | x::xs,K,hp=>by
  obtain⟨ag,cs,Y,hK,hv,hY⟩:=h.val (h.ev x) hp;obtain⟨L,hK,h1⟩:=bh.argsV h hK;have hY':∀ b o,Y b o->lV S φ b o:=fun b o hb=>by
   rcases hY b o hb with hb|hb
   ·cases x with
    | tmp t=>exact .inr ⟨t,hb⟩
    | _=>exact hb.elim
   ·exact .inr hb
  refine⟨_,hK,?_,h1⟩;cases hn:aV cs with
  | true=>exact(hv.bare hn).mono (fun _ _ h=>.inl h) (fun _ _ h=>h)
  | false=>exact hv.freeze.mono (fun b o h=>h.elim .inl (hY' b o)) (fun _ _ h=>h)
theorem AZ {o:Oper} {f:Nat} {args:Array Operand} {ts:Array TypeId} (ho:o.op=.call ⟨.value (.func f),args,ts⟩) (hf:Ht P f) :
  (execOp a.eval o).run P w=.ok (.enter f (args.map a.eval)) w:=by
 obtain⟨fn,h1,h2,h3⟩:=hf;have h2' : ¬ fn.name = "runtime.NumGoroutine" := by simpa using h2
 simp[execOp,ho,resolve,Act.eval,Deferred.ofValue,invoke,callFunc,h1,h2'];intro e;rw[e]at h3;cases h3
theorem rE {o:Oper} {t f:Nat} {args:Array Operand} {ts:Array TypeId} {caps:List Value} (ho:o.op=.call ⟨.value (.tmp t),args,ts⟩) (hf:Ht P f) (hv:tvs a t=.func (.func f) #[] caps.toArray) :
  (execOp a.eval o).run P w=.ok (.enter f (args.toList.map a.eval++caps).toArray) w:=by
 obtain⟨fn,h1,h2,h3⟩:=hf;have h2' : ¬ fn.name = "runtime.NumGoroutine" := by simpa using h2
 have hv':a.tmps.getD t undef=.func (.func f) #[] caps.toArray:=hv;have he:args.map a.eval++caps.toArray=(args.toList.map a.eval++caps).toArray:=by
  apply Array.ext';simp
 rw[<-he];simp[execOp,ho,resolve,Act.eval,hv',Deferred.ofValue,invoke,callFunc,h1,h2'];intro e;rw[e]at h3;cases h3
theorem bh.enterG (h:bh w0 M S0 N S φ F a w) {o:Oper} {f:Nat} {vs:List Value} {k:Kd} {rcs:List C} {sh:Bool} (hrun:(execOp a.eval o).run P w=.ok (.enter f vs.toArray) w) {S2:ac} (hle:sh=true->∀ b o,S2 b o->S b o)
  (hc:Calls P f vs.toArray w fun e w1=>∃ v,e=.returned v/\bH NO w w1/\∃ X S1:ac,(∀ b o,X b o->b<w1.heap.size/\w.heap.size<=b)/\
    (∀ b o,S1 b o->(sh=true/\S2 b o)\/(b<w1.heap.size/\w.heap.size<=b))/\(∀ b o,X b o->¬S1 b o)/\∃ X1 Y:ac,(∀ b o,X1 b o->X b o)/\(∀ b o,Y b o->X b o)/\(∀ b o,X1 b o->¬Y b o)/\f7 w1 X1 k rcs.length v/\cF w1 S1 Y rcs (bS w1 k v)):wS P o a w (kM w S F a (.hold k rcs)):=by
 refine wS.enter hrun ?_;refine hc.mono fun e w1 ⟨v,he,hk,X,S1,hX,hS1,hd,X1,Y,hX1,hY,hXY,hh,hr⟩=>⟨v,he,hk,X,fun b o=>S b o\/S1 b o,hX,fun _ _ h=>.inl h,fun b o hb=>?_,fun b o hb hS=>?_,?_⟩
 ·rcases hb with hb|hb
  ·exact .inl hb
  ·rcases hS1 b o hb with⟨h3,h4⟩|h3
   ·exact .inl (hle h3 b o h4)
   ·exact .inr h3
 ·rcases hS with hS|hS
  ·have:=(h.sup b o hS).1;have:=(hX b o hb).2;omega
  ·exact hd b o hb hS
 ·exact⟨X1,Y,hX1,hY,hXY,hh,hr.mono (fun _ _ h=>.inr h) (fun _ _ h=>h)⟩
theorem bh.enter (h:bh w0 M S0 N S φ F a w) {o:Oper} {f:Nat} {vs:List Value} {k:Kd} {rcs:List C} {sh:Bool} (hrun:(execOp a.eval o).run P w=.ok (.enter f vs.toArray) w) {S2:ac} (hle:sh=true->∀ b o,S2 b o->S b o)
  (hc:Calls P f vs.toArray w fun e w1=>∃ v,e=.returned v/\bH NO w w1/\∃ X S1:ac,(∀ b o,X b o->b<w1.heap.size/\w.heap.size<=b)/\
    (∀ b o,S1 b o->(sh=true/\S2 b o)\/(b<w1.heap.size/\w.heap.size<=b))/\(∀ b o,X b o->¬S1 b o)/\f7 w1 NO k rcs.length v/\cF w1 S1 X rcs (bS w1 k v)):wS P o a w (kM w S F a (.hold k rcs)):=
 h.enterG hrun hle (hc.mono fun _ _ ⟨v,he,hk,X,S1,h1,h2,h3,h4,h5⟩=>⟨v,he,hk,X,S1,h1,h2,h3,NO,X,fun _ _ h=>h.elim,fun _ _ h=>h,fun _ _ h=>h.elim,h4,h5⟩)
theorem bh.all_lt (h:bh w0 M S0 N S φ F a w):∀ b o,lV S φ b o->b<w.heap.size:=fun b o hb=>hb.elim (fun h'=>(h.sup b o h').1) (fun⟨t,h'⟩=>(h.ex t b o h').1)
theorem bh.call (h:bh w0 M S0 N S φ F a w) {o:Oper} {f:Nat} {args:Array Operand} {ts:Array TypeId} (ho:o.op=.call ⟨.value (.func f),args,ts⟩) {K:AV->Prop} (hp:Fj P F f args.toList K) :
  ∃ av,K av/\wS P o a w (kM w S F a av):=by
 obtain⟨b,A,hcl,h1,h2⟩:=h.args hp;obtain⟨sh,k,rcs,hc,hsh,hK⟩:=hcl.out;have hargs:args.map a.eval=(args.toList.map a.eval).toArray:=by apply Array.ext';rw[Array.toList_map]
 have hrun:=AZ (a:=a) (w:=w) ho hc.1;rw[hargs]at hrun;refine⟨_,hK,?_⟩;rcases hsh with rfl|hb
 ·exact h.enterG hrun (S2:=lV S φ) (fun h=>by cases h) (hc.2 w _ _ h.all_lt h1)
 ·exact h.enterG hrun (S2:=S) (fun _ _ _ h=>h) (hc.2 w S _ (fun b o hb=>(h.sup b o hb).1) (h2 hb))
theorem bh.callT (h:bh w0 M S0 N S φ F a w) {o:Oper} {t:Nat} {args:Array Operand} {ts:Array TypeId} (ho:o.op=.call ⟨.value (.tmp t),args,ts⟩) {K:AV->Prop} (hp:kI P F t args.toList K) :
  ∃ av,K av/\wS P o a w (kM w S F a av):=by
 have hs:=h.slot t;unfold kI at hp;split at hp
 ·rename_i f caps hF
  rw[hF]at hs;obtain⟨b,A,hp,h1,-⟩:=h.args hp;obtain⟨D,hcl,hD⟩:=h.caps hp;obtain⟨sh,k,rcs,hc,hsh,hK⟩:=hcl.out;have hsf:sh=false:=hsh.elim id (fun h=>by cases h);subst hsf;exact⟨_,hK,h.enterG (rE ho hc.1 hs) (S2:=lV S φ) (fun h=>by cases h) (hc.2 w _ _ h.all_lt (w7.append h1 hD))⟩
 ·rename_i Ok hF
  rw[hF]at hs;obtain⟨L,hq,h1⟩:=h.argsV hp;obtain⟨Q,k,rcs,rfl,hQ,hK⟩:=hq;obtain⟨S1,w1,e1,e2,f,caps,e3,e4,e5⟩:=hs;exact⟨_,hK,h.enter (rE ho e4 e3) (S2:=lV S φ) (sh:=false) (fun h=>by cases h) (e5 L k rcs hQ w _ _ (fun b o hb=>.inl (e1 b o hb)) e2 h.all_lt h1)⟩
 ·exact hp.elim
def zP:List (Option Nat)->Nat->Option (Nat × Option Nat)
 | [],_=>none
 | ag::_,0=>some (0,ag)
 | ag::sh,i+1=>(zP sh i).map fun p=>(ag.getD 1+p.1,p.2)
def iM (F:Nat->AV) (x:Operand) (i:Nat) (K:AV->Prop):Prop:=
 match x with
 | .tmp t=>match F t with
  | .hold (.tup sh) cs=>match zP sh i with
   | some (s,ag)=>bif aV (bq cs s (ag.getD 1)) then K (.hold (jY ag) (bq cs s (ag.getD 1))) else K (.bor t s [] ag)
   | none=>False
  | _=>False
 | _=>False
theorem oR (ag:Option Nat) (sh:List (Option Nat)):oN (ag::sh)=ag.getD 1+oN sh:=by cases ag<;>rfl
theorem EH {ag:Option Nat} {sh:List (Option Nat)} {v:Value} {vs:List Value} (h:vC (ag::sh) (v::vs)):v.cells.toList.length=ag.getD 1/\(v=mkv ag fun j=>v.cells.toList.getD j undef)/\vC sh vs:=by
 cases ag with
 | none=>
  have h1:v.cells = #[v]:=h.1;exact⟨by rw[h1];rfl,by rw[h1];rfl,h.2⟩
 | some n=>
  obtain⟨⟨arr,rfl,hs⟩,h2⟩:=h;exact⟨by simp[Value.cells,hs],by have:=oq arr;rw[hs]at this;exact this,h2⟩
theorem HY:∀ {sh:List (Option Nat)} {vs:List Value} {i s:Nat} {ag:Option Nat},vC sh vs->zP sh i=some (s,ag)->
  ∃ v,vs[i]? = some v/\s+ag.getD 1<=oN sh/\v=mkv ag fun j=>(vs.flatMap fun v=>v.cells.toList).getD (s+j) undef
 | [],_,i,s,ag,_,hs=>by cases hs
 | ag0::sh,[],i,s,ag,h,_=>by cases ag0<;>exact h.elim
 | ag0::sh,v0::vs,i,s,ag,h,hs=>by
  obtain⟨h1,h2,h3⟩:=EH h;cases i with
  | zero=>
   simp only[zP,T0,Prod.mk.injEq]at hs;obtain⟨rfl,rfl⟩:=hs;refine⟨v0,rfl,by rw[oR];omega,h2.trans (gH fun j hj=>?_)⟩;simp only[W4,Y4,List.getD];rw[Q3 (by omega)]
  | succ i=>
   simp only[zP]at hs;cases hsh:zP sh i with
   | none=>rw[hsh]at hs;cases hs
   | some p=>
    rw[hsh]at hs;simp only[Y3,T0,Prod.mk.injEq]at hs;obtain⟨rfl,rfl⟩:=hs;obtain⟨v,e1,e2,e3⟩:=HY h3 (show zP sh i=some (p.1,p.2) from hsh);refine⟨v,by simpa using e1,by rw[oR];omega,e3.trans (gH fun j _=>?_)⟩;simp only[W4,List.getD];rw[R3 (by omega)]
    congr 2
    omega
theorem bh.extract (h:bh w0 M S0 N S φ F a w) {x:Operand} {i:Nat} {K:AV->Prop} (hp:iM F x i K) :
  ∃ av v,K av/\(Instr.extract (a.eval x) i).run P w=.ok v w/\cn w S F (tvs a) NO av v:=by
 cases x with
 | tmp t=>
  have hs:=h.slot t;show ∃ av v,K av/\(Instr.extract (tvs a t) i).run P w=.ok v w/\_
  simp only[iM]at hp;cases hF:F t with
  | hold k cs=>
   rw[hF]at hp hs;cases k with
   | tup sh=>
    simp only at hp;obtain⟨X1,Y,h1,h2,h3,⟨vs,hv,hT,hL⟩,h5⟩:=hs;cases hsh:zP sh i with
    | none=>rw[hsh]at hp;exact hp.elim
    | some p=>
     obtain⟨s,ag⟩:=p;rw[hsh]at hp;simp only at hp;obtain⟨v,hvi,hle,hve⟩:=HY hT hsh;have hrun:(Instr.extract (tvs a t) i).run P w=.ok v w:=by
      have:vs[i]? = some v:=by rw[<-Array.getElem?_toList];exact hvi
      simp[hv,Instr.extract,this]
     have hu:v=mkv ag fun j=>bS w (.tup sh) (tvs a t) (s+j):=by rw[hve,hv];rfl
     cases hn:aV (bq cs s (ag.getD 1)) with
     | true=>
      rw[hn]at hp;refine⟨_,v,hp,hrun,bN.slot ⟨by simp[bq];omega,_,hu,?_⟩⟩;exact(h5.part s (ag.getD 1)).bare hn
     | false=>
      rw[hn]at hp;exact⟨_,v,hp,hrun,.tup sh,cs,cs,s,hF,rfl,by omega,hu⟩
   | _=>exact hp.elim
  | _=>rw[hF]at hp;exact hp.elim
 | _=>exact hp.elim
inductive Es (x:ByteArray) (K:ByteArray->Prop):Prop
 |mk_ (h:∃ z,x=z/\K z)
theorem Es.mk {x z:ByteArray} {K:ByteArray->Prop} (h:x=z) (hK:K z):Es x K:=by refine .mk_ ?_;exact⟨z,h,hK⟩
theorem Es.out {x:ByteArray} {K:ByteArray->Prop} (h:Es x K):∃ z,x=z/\K z:=by obtain⟨h⟩:=h;exact h
def AB (TE:Nat->Option TI) (op:BinOp) (T:Nat) (vx vy:Value) (K:Value->Prop):Prop:=
 match vx,vy with
 | .bool a,.bool b=>(match TE T with
   | some ⟨_,_,_,.sc .bool⟩=>(match op with
     | .eql=>K (.bool (a == b))
     | .neq=>K (.bool (a != b))
     | _=>False)
   | _=>False)
 | .string a,.string b=>(match op with
   | .eql=>K (.bool (a.toList == b.toList))
   | .neq=>K (.bool (!(a.toList == b.toList)))
   | .add=>Cd (((a.size+b.size:Nat):Int)<=9223372036854775807) (Es (a++b) fun z=>K (.string z))
   | _=>False)
 | vx,vy=>Ag op vx vy K
theorem Ku {TE:Nat->Option TI} (hTE:∀ t i,TE t=some i->bY P t i) {op:BinOp} {T:Nat} {vx vy:Value} {K:Value->Prop} {x y:Operand} (hp:AB TE op T vx vy K):∃ v,K v/\v.oneCell'=true/\(do eqGuard op T x y vx vy;binOp op T vx vy:Sem Value).run P w=.ok v w:=by
 unfold AB at hp;split at hp
 ·rename_i a b
  split at hp
  case h_2=>exact hp.elim
  rename_i hT;have hu:P.underlying T=some .bool:=(hTE _ _ hT).2.2.1;have hg:(eqGuard op T x y (.bool a) (.bool b)).run P w=.ok () w:=by
   unfold eqGuard;split<;>rfl
  rw[Sem.run_bind,hg];have he:(Op.equal T (.bool a) (.bool b)).run P w=.ok (a == b) w:=by
   unfold Op.equal;rw[show Op.maxDepth=(Op.maxDepth - 1)+1 from rfl,Op.equalIn];rw[Sem.run_bind,run_underlying hu]
   rfl
  cases op<;>simp only at hp<;>try exact hp.elim
  case eql=>exact⟨_,hp,rfl,by simp only[Result.andThen_ok,binOp,Sem.run_bind,he,Sem.run_pure]⟩
  case neq=>exact⟨_,hp,rfl,by simp only[Result.andThen_ok,binOp,Sem.run_bind,he,Sem.run_pure];rfl⟩
 ·rename_i a b
  have hg:(eqGuard op T x y (.string a) (.string b)).run P w=.ok () w:=by
   unfold eqGuard;split<;>rfl
  rw[Sem.run_bind,hg];cases op<;>simp only at hp<;>try exact hp.elim
  case eql=>exact⟨_,hp,rfl,by simp[binOp,Op.stringOp]⟩
  case neq=>exact⟨_,hp,rfl,by simp[binOp,Op.stringOp]⟩
  case add=>
   obtain⟨h1,h2⟩:=hp.out;obtain⟨z,rfl,h2⟩:=h2.out;refine⟨_,h2,rfl,?_⟩;have:¬((a.size+b.size:Nat):Int) > IntKind.i64.max:=by
    have:IntKind.i64.max=9223372036854775807:=by decide
    omega
   simp only[Result.andThen_ok,binOp,Op.stringOp];rw[if_neg this]
   rfl
 ·exact HI hp
inductive Nn (rows:List (List C)) (K:Prop):Prop
 |mk_ (h:rows≠[]/\K)
theorem Nn.mk {rows:List (List C)} {K:Prop} (h:rows≠[]) (hK:K):Nn rows K:=by refine .mk_ ?_;exact⟨h,hK⟩
theorem Nn.out {rows:List (List C)} {K:Prop} (h:Nn rows K):rows≠[]/\K:=by obtain⟨h⟩:=h;exact h
def Mc:Operand->Bool
 | .const (.slice none 0 0)=>true
 | _=>false
def uX (op:BinOp) (y:Operand):Bool:=
 match op with
 | .eql=>Mc y
 | _=>false
def E6 (TE:Nat->Option TI) (F:Nat->AV) (T:Nat) (x:Operand) (K:AV->Prop):Prop:=
 match TE T with
 | some ⟨_,_,_,.sl _⟩=>gE F (lA F x) fun ag cs=>match ag,cs with
  | none,[.s _ rows]=>Nn rows (K (.hold .one [.v (.bool false)]))
  | _,_=>False
 | _=>False
theorem G1 {op:BinOp} {y:Operand} (h:uX op y=true):op=.eql/\y=.const (.slice none 0 0):=by
 unfold uX at h;split at h
 ·refine⟨rfl,?_⟩
  unfold Mc at h;split at h
  ·rfl
  ·cases h
 ·cases h
theorem dP.slice_some {w:World} {S F:ac} {o:dz} {rows:List (List C)} {v:Value} (h:dP w S F (.s o rows) v) (hne:rows≠[]):∃ ad cap,v=.slice (some ad) rows.length cap:=by
 generalize hc:C.s o rows=c at h;cases h with
 | v=>cases hc
 | x=>cases hc
 | z=>cases hc
 | m=>cases hc
 | it=>cases hc
 | nil=>cases hc;exact absurd rfl hne
 | own=>cases hc;subst_vars;exact⟨_,_,rfl⟩
 | imm=>cases hc;subst_vars;exact⟨_,_,rfl⟩
theorem bh.nilq (h:bh w0 M S0 N S φ F a w) {TE:Nat->Option TI} (hTE:∀ t i,TE t=some i->bY P t i) {T:Nat} {x:Operand} {K:AV->Prop} (hp:E6 TE F T x K) :
  K (.hold .one [.v (.bool false)])/\(do eqGuard .eql T x (.const (.slice none 0 0)) (a.eval x) (.slice none 0 0);binOp .eql T (a.eval x) (.slice none 0 0):Sem Value).run P w=.ok (.bool false) w:=by
 unfold E6 at hp;split at hp
 ·rename_i hT
  have hu:=(hTE _ _ hT).2.2;obtain⟨ag,cs,Y,hK,⟨hl,u,hv,f,h1,-⟩,-⟩:=h.val (h.ev x) hp
  match ag,cs,hK with
  | none,[.s o rows],hK=>
   obtain⟨hne,hK⟩:=hK.out;obtain⟨ad,cap,hs⟩:=(h1 0 _ rfl).slice_some hne;have:a.eval x=.slice (some ad) rows.length cap:=hv.trans hs;rw[this];refine⟨hK,?_⟩;have hg:(eqGuard .eql T x (.const (.slice none 0 0)) (.slice (some ad) rows.length cap) (.slice none 0 0)).run P w=.ok () w:=by
    unfold eqGuard;split<;>rfl
   rw[Sem.run_bind,hg];have he:(Op.equal T (.slice (some ad) rows.length cap) (.slice none 0 0)).run P w=.ok false w:=by
    unfold Op.equal;rw[show Op.maxDepth=(Op.maxDepth - 1)+1 from rfl,Op.equalIn];rw[Sem.run_bind,run_underlying hu]
    rfl
   simp only[Result.andThen_ok,binOp,Sem.run_bind,he,Sem.run_pure]
 ·exact hp.elim
structure N9 (P:Program) (op:BinOp) (T:Nat) (vs us:List Value) (r:Bool):Prop where
 run:∀ (x y:Operand) (w:World),(do eqGuard op T x y (.agg vs.toArray) (.agg us.toArray);binOp op T (.agg vs.toArray) (.agg us.toArray):Sem Value).run P w=.ok (.bool r) w
inductive ML (P:Program) (op:BinOp) (T:Nat) (vs us:List Value) (K:Bool->Prop):Prop
 |mk_ (h:∃ r,N9 P op T vs us r/\K r)
theorem ML.mk {P:Program} {op:BinOp} {T:Nat} {vs us:List Value} {K:Bool->Prop} {r:Bool} (h:N9 P op T vs us r) (hK:K r):ML P op T vs us K:=by refine .mk_ ?_;exact⟨r,h,hK⟩
theorem ML.out {P:Program} {op:BinOp} {T:Nat} {vs us:List Value} {K:Bool->Prop} (h:ML P op T vs us K):∃ r,N9 P op T vs us r/\K r:=by obtain⟨h⟩:=h;exact h
def Nj:List C->(List Value->Prop)->Prop
 | [],K=>K []
 | .v x::cs,K=>Nj cs fun l=>K (x::l)
 | _,_=>False
theorem EE:∀ (l:List Value) {K:List Value->Prop},K l->Nj (l.map C.v) K
 | [],_,h=>h
 | x::l,K,h=>EE l (K:=fun l=>K (x::l)) h
theorem nD:∀ {cs:List C} {K:List Value->Prop},Nj cs K->∃ l,K l/\cs=l.map C.v
 | [],K,h=>⟨[],h,rfl⟩
 | .v x::cs,K,h=>by
  obtain⟨l,h1,h2⟩:=nD (cs:=cs) h;exact⟨_,h1,by rw[h2];rfl⟩
 | .s _ _::_,_,h=>h.elim
 | .x::_,_,h=>h.elim
 | .z::_,_,h=>h.elim
 | .m _::_,_,h=>h.elim
 | .it _ _::_,_,h=>h.elim
def isAgg (F:Nat->AV) (x:Operand):Bool:=
 match x with
 | .tmp t=>(match F t with|.hold .agg _=>true|_=>false)
 | _=>false
def Em (P:Program) (F:Nat->AV) (op:BinOp) (T:Nat) (x y:Operand) (K:AV->Prop):Prop:=
 gE F (lA F x) fun ag cs=>gE F (lA F y) fun ag2 ds=>match ag,ag2 with
  | some _,some _=>Nj cs fun vs=>Nj ds fun us=>ML P op T vs us fun r=>K (.hold .one [.v (.bool r)])
  | _,_=>False
theorem JA {S Y:ac} {n:Nat} {l:List Value} {v:Value} (h:bN w S Y (some n) (l.map C.v) v):v=.agg l.toArray:=by
 obtain⟨hl,u,hv,f,h1,-⟩:=h;have hn:l.length=n:=by simpa using hl
 rw[hv];show Value.agg ((List.range n).map u).toArray=_
 congr 2
 apply List.ext_getElem?;intro j;rw[O2];by_cases hj:j<n
 ·have hj':j<l.length:=by omega
  have hr:=h1 j (.v l[j]) (by rw[O2,Q1 hj'];rfl);rw[X4 hj,Q1 hj'];have key:∀ (Z:ac) (y z:Value),dP w S Z (.v y) z->z=y:=fun Z y z h=>by cases h;rfl
  have:u j=l[j]:=key _ _ _ hr;simp[this]
 ·rw[U1 (by simp;omega),U1 (by omega)];rfl
theorem bh.eqs (h:bh w0 M S0 N S φ F a w) {op:BinOp} {T:Nat} {x y:Operand} {K:AV->Prop} (hp:Em P F op T x y K) :
  ∃ r,K (.hold .one [.v (.bool r)])/\(do eqGuard op T x y (a.eval x) (a.eval y);binOp op T (a.eval x) (a.eval y):Sem Value).run P w=.ok (.bool r) w:=by
 unfold Em at hp;obtain⟨ag,cs,Y,hq,hx,-⟩:=h.val (h.ev x) hp;obtain⟨ag2,ds,Y2,hq2,hy,-⟩:=h.val (h.ev y) hq
 match ag,ag2,hq2 with
 | some n,some m,hq3=>
  obtain⟨vs,k1,e1⟩:=nD hq3;obtain⟨us,k2,e2⟩:=nD k1;obtain⟨r,hr,hK⟩:=k2.out;rw[e1]at hx;rw[e2]at hy;refine⟨r,hK,?_⟩;rw[JA hx,JA hy];exact hr.run x y w
def FG:List Operand->(List Nat->Prop)->Prop
 | [],K=>K []
 | .tmp t::xs,K=>FG xs fun l=>K (t::l)
 | _,_=>False
theorem Da:∀ (l:List Nat) {K:List Nat->Prop},K l->FG (l.map .tmp) K
 | [],_,h=>h
 | t::l,K,h=>Da l (K:=fun l=>K (t::l)) h
theorem pb:∀ {xs:List Operand} {K:List Nat->Prop},FG xs K->∃ l,K l/\xs=l.map .tmp
 | [],K,h=>⟨[],h,rfl⟩
 | .tmp t::xs,K,h=>by
  obtain⟨l,h1,h2⟩:=pb (xs:=xs) h;exact⟨_,h1,by rw[h2];rfl⟩
 | .const _::_,_,h=>h.elim
 | .global _::_,_,h=>h.elim
 | .func _::_,_,h=>h.elim
def cX (P:Program) (TE:Nat->Option TI) (F:Nat->AV) (o:Op) (K:AV->Prop):Prop:=
 match o with
 | .move x=>bm F x K
 | .assign x=>bm F x K
 | .nilCheck x=>(match x with|.tmp t=>(match F t with|.ref ..=>bm F x K|.iref ..=>bm F x K|.hold .box _=>bm F x K|_=>False)|_=>False)
 | .load T x=>sB TE F T x K
 | .fieldAddr T x f=>gC TE F T x f K
 | .indexAddr T x y=>gF TE F T x y K
 | .binOp op T x y _=>bif uX op y then E6 TE F T x K else bif isAgg F x then Em P F op T x y K else DL F x fun vx=>DL F y fun vy=>AB TE op T vx vy fun v=>K (.hold .one [.v v])
 | .unOp op _ x=>DL F x fun vx=>Lc op vx fun v=>K (.hold .one [.v v])
 | .pick c x y=>Fi F c x y K
 | .alloc T=>v7 TE T K
 | .box _ x=>LL F x K
 | .extract x i=>iM F x i K
 | .build T ps=>pd TE F T ps.toList K
 | .buildSlice T n ps=>tK TE F T n ps.toList K
 | .makeSlice T x y=>FT TE F T x y K
 | .makeFunc fn fs cs=>(match fn,fs.toList with|.func f,[]=>FG cs.toList fun l=>K (.fn f l)|_,_=>False)
 | .makeMap T r=>pZ TE T r K
 | .lookup T x y ok=>up TE F T x y ok K
 | .slice T x lo hi mx=>(match mx with|none=>yP TE F T x lo hi K|some m=>(match lo,hi with|none,some y=>L1 TE F T x y m K|_,_=>False))
 | .field T x f=>oV TE F T x f K
 | .convert T1 T2 x=>v8 TE F T1 T2 x K
 | .call c=>match c.callee with
  | .value (.func f)=>Fj P F f c.args.toList K
  | .value (.tmp t)=>kI P F t c.args.toList K
  | .builtin .len=>(match c.args.toList,c.argTypes.toList with|[x],[T]=>ED TE F T x K|_,_=>False)
  | .builtin .append=>(match c.args.toList,c.argTypes.toList with|[x,y],[T,T2]=>bif Nat.beq T T2 then Fs TE F T x y K else False|_,_=>False)
  | .builtin .min=>(match c.args.toList with|[x,y]=>Ng false F x y K|_=>False)
  | .builtin .max=>(match c.args.toList with|[x,y]=>Ng true F x y K|_=>False)
  | _=>False
 | _=>False
theorem bh.pure_ (h:bh w0 M S0 N S φ F a w) {TE:Nat->Option TI} (hTE:∀ t i,TE t=some i->bY P t i) {o:Oper} {K:AV->Prop} (hp:cX P TE F o.op K):∃ av,K av/\wS P o a w (kM w S F a av):=by
 cases ho:o.op with
 | move x=>rw[ho]at hp;obtain⟨av,hK,hs⟩:=h.move hp;exact⟨av,hK,.same (by simp[execOp,ho]) hs⟩
 | assign x=>rw[ho]at hp;obtain⟨av,hK,hs⟩:=h.move hp;exact⟨av,hK,.same (by simp[execOp,ho]) hs⟩
 | nilCheck x=>
  rw[ho]at hp;cases x with
  | tmp t=>
   have hs0:=h.slot t;simp only[cX]at hp;have hptr:bm F (.tmp t) K/\∃ ad,a.eval (.tmp t)=.pointer (some ad):=by
    show _/\∃ ad,tvs a t=_
    cases hF:F t with
    | hold k cs=>
     rw[hF]at hp hs0;cases k with
     | box=>obtain⟨X1,Y,-,-,-,⟨g,b,hv,-⟩,-⟩:=hs0;exact⟨hp,_,hv⟩
     | _=>exact hp.elim
    | ref=>rw[hF]at hp hs0;obtain⟨k,cs,r,j,g,b,-,-,-,hv⟩:=hs0;exact⟨hp,_,hv⟩
    | iref=>rw[hF]at hp hs0;obtain⟨g,b,u,hv,-⟩:=hs0;exact⟨hp,_,hv⟩
    | _=>rw[hF]at hp;exact hp.elim
   obtain⟨hm,ad,had⟩:=hptr;obtain⟨av,hK,hs⟩:=h.move hm;exact⟨av,hK,.same (v:=a.eval (.tmp t)) (by simp[execOp,ho,had]) hs⟩
  | _=>exact hp.elim
 | load T x=>rw[ho]at hp;obtain⟨av,v,hK,hr,hs⟩:=h.load hTE hp;exact⟨av,hK,.same (by simp[execOp,ho,hr]) hs⟩
 | fieldAddr T x f=>rw[ho]at hp;obtain⟨av,v,hK,hr,hs⟩:=h.fieldAddr hTE hp;exact⟨av,hK,.same (by simp[execOp,ho,hr]) hs⟩
 | indexAddr T x y=>rw[ho]at hp;obtain⟨av,v,hK,hr,hs⟩:=h.indexAddr hTE hp;exact⟨av,hK,.same (by simp[execOp,ho,hr]) hs⟩
 | binOp op T x y yT=>
  rw[ho]at hp;simp only[cX]at hp;cases hb:uX op y with
  | true=>
   rw[hb]at hp;obtain⟨rfl,rfl⟩:=G1 hb;obtain⟨hK,hr⟩:=h.nilq hTE hp;refine⟨_,hK,.same (v:=.bool false) ?_ (jn rfl)⟩;simp only[execOp,ho];rw[Sem.run_bind];have e1:a.eval (.const (.slice none 0 0))=.slice none 0 0:=rfl;rw[e1,hr]
   rfl
  | false=>
   rw[hb]at hp;cases hg:isAgg F x with
   | true=>
    rw[hg]at hp;obtain⟨r,hK,hr⟩:=h.eqs hp;refine⟨_,hK,.same (v:=.bool r) ?_ (jn rfl)⟩;simp only[execOp,ho];rw[Sem.run_bind,hr]
    rfl
   | false=>
   rw[hg]at hp;obtain⟨hx,-⟩:=h.scalar hp;obtain⟨hy,-⟩:=h.scalar hx;obtain⟨v,hK,h1,hr⟩:=Ku (P:=P) (w:=w) hTE (T:=T) (x:=x) (y:=y) hy;refine⟨_,hK,.same (v:=v) ?_ (jn h1)⟩;simp only[execOp,ho];rw[Sem.run_bind,hr]
   rfl
 | unOp op T x=>
  rw[ho]at hp;obtain⟨hx,-⟩:=h.scalar hp;obtain⟨v,hK,h1,hr⟩:=LT (P:=P) (w:=w) hx;exact⟨_,hK,.same (v:=v) (by simp[execOp,ho,hr]) (jn h1)⟩
 | pick c x y=>
  rw[ho]at hp;obtain⟨av,b,hK,hb,hs⟩:=h.pick hp;exact⟨av,hK,.same (v:=if b then a.eval x else a.eval y) (by simp[execOp,ho,hb,asBool]) hs⟩
 | alloc T=>rw[ho]at hp;obtain⟨av,v,w1,hK,hr,hs⟩:=h.alloc hTE hp;exact⟨av,hK,.value (by simp[execOp,ho,hr]) hs⟩
 | box T x=>rw[ho]at hp;obtain⟨av,v,w1,hK,hr,hs⟩:=h.box (P:=P) (T:=T) hp;exact⟨av,hK,.value (by simp[execOp,ho,hr]) hs⟩
 | extract x i=>rw[ho]at hp;obtain⟨av,v,hK,hr,hs⟩:=h.extract (P:=P) hp;exact⟨av,hK,.same (by simp[execOp,ho,hr]) hs⟩
 | build T ps=>rw[ho]at hp;obtain⟨av,v,hK,hr,hs⟩:=h.build hTE hp;exact⟨av,hK,.same (by simp only[execOp,ho];rw[Sem.run_bind,hr];rfl) hs⟩
 | buildSlice T n ps=>rw[ho]at hp;obtain⟨av,v,w1,hK,hr,hs⟩:=h.buildS hTE hp;exact⟨av,hK,.value (by simp only[execOp,ho];rw[Sem.run_bind,hr];rfl) hs⟩
 | makeMap T r=>rw[ho]at hp;obtain⟨av,v,w1,hK,hr,hs⟩:=h.makeMap hTE hp;exact⟨av,hK,.value (by simp[execOp,ho,hr]) hs⟩
 | lookup T x y ok=>rw[ho]at hp;obtain⟨v,hK,h1,hr⟩:=h.look hTE hp;exact⟨_,hK,.same (v:=v) (by simp[execOp,ho,hr]) (jn h1)⟩
 | makeSlice T x y=>rw[ho]at hp;obtain⟨av,v,w1,hK,hr,hs⟩:=h.make hTE hp;exact⟨av,hK,.value (by simp[execOp,ho,hr]) hs⟩
 | slice T x lo hi mx=>
  rw[ho]at hp;cases mx with
  | none=>obtain⟨av,v,hK,hr,hs⟩:=h.slice hTE hp;exact⟨av,hK,.same (by simp only[execOp,ho];rw[Sem.run_bind,Option.map_none,hr];rfl) hs⟩
  | some m=>
   cases lo with
   | some _=>exact hp.elim
   | none=>
    cases hi with
    | none=>exact hp.elim
    | some y=>obtain⟨v,hK,hr,hs⟩:=h.slice0 hTE hp;exact⟨_,hK,.same (by simp only[execOp,ho];rw[Sem.run_bind,Option.map_none,Y3,Y3,hr];rfl) hs⟩
 | field T x f=>rw[ho]at hp;obtain⟨av,v,hK,hr,hs⟩:=h.field hTE hp;exact⟨av,hK,.same (by simp[execOp,ho,hr]) hs⟩
 | convert T1 T2 x=>rw[ho]at hp;obtain⟨v,hK,h1,hr⟩:=h.conv hTE hp;exact⟨_,hK,.same (v:=v) (by simp[execOp,ho,hr]) (jn h1)⟩
 | makeFunc fn fs cs=>
  rw[ho]at hp;simp only[cX]at hp;split at hp
  ·rename_i f hfs
   obtain⟨l,hK,hl⟩:=pb hp;have e1:fs = #[]:=by apply Array.ext';simpa using hfs
   have e2:cs.map a.eval=(l.map (tvs a)).toArray:=by
    apply Array.ext';rw[Array.toList_map,hl,List.map_map]
    rfl
   subst e1;exact⟨_,hK,.same (v:=.func (.func f) #[] (l.map (tvs a)).toArray) (by simp[execOp,ho,Instr.makeFunc,e2]) rfl⟩
  ·exact hp.elim
 | call c=>
  rw[ho]at hp;obtain⟨callee,args,ts⟩:=c;simp only[cX]at hp;split at hp
  ·exact h.call ho hp
  ·exact h.callT ho hp
  ·split at hp
   ·rename_i x T hx hT
    obtain⟨v,hK,h1,hr⟩:=h.len (ty:=o.type) hTE hp;have e1:args = #[x]:=by apply Array.ext';simpa using hx
    have e2:ts = #[T]:=by apply Array.ext';simpa using hT
    subst e1 e2;refine⟨_,hK,.same (v:=v) ?_ (jn h1)⟩;simp[execOp,ho,resolve,invoke,builtin,hr]
   ·exact hp.elim
  ·split at hp
   ·rename_i x y T T2 hx hT
    cases hb:Nat.beq T T2 with
    | false=>rw[hb]at hp;exact hp.elim
    | true=>
     rw[hb]at hp;have:=P1 hb;subst this;obtain⟨av,v,w1,hK,hr,hs⟩:=h.appP (ty:=o.type) hTE hp;have e1:args = #[x,y]:=by apply Array.ext';simpa using hx
     have e2:ts = #[T,T]:=by apply Array.ext';simpa using hT
     subst e1 e2;exact⟨av,hK,.value (by simp[execOp,ho,resolve,invoke,builtin,hr]) hs⟩
   ·exact hp.elim
  ·split at hp
   ·rename_i x y hx
    obtain⟨v,hK,h1,hr⟩:=h.mm (P:=P) (ts:=ts) (ty:=o.type) hp;have e1:args = #[x,y]:=by apply Array.ext';simpa using hx
    subst e1;refine⟨_,hK,.same (v:=v) ?_ (jn h1)⟩;simp only[Bool.false_eq_true,if_false]at hr;simp[execOp,ho,resolve,invoke,builtin,hr]
   ·exact hp.elim
  ·split at hp
   ·rename_i x y hx
    obtain⟨v,hK,h1,hr⟩:=h.mm (P:=P) (ts:=ts) (ty:=o.type) hp;have e1:args = #[x,y]:=by apply Array.ext';simpa using hx
    subst e1;refine⟨_,hK,.same (v:=v) ?_ (jn h1)⟩;simp only[if_true]at hr;simp[execOp,ho,resolve,invoke,builtin,hr]
   ·exact hp.elim
  ·exact hp.elim
 | _=>rw[ho]at hp;exact hp.elim
end
inductive Lq (bs:List C) (off:Nat) (st:cm) (n:Nat) (K:List C->List C->Prop):Prop
 |mk_ (h:∃ r j cs bs',bQ bs off st=some (r,j)/\jd bs off st/\j+n<=r.length/\cs=bq r j n/\bs'=fe bs off st (splice r j (List.replicate n .x))/\K cs bs')
theorem Lq.one {bs cs bs':List C} {off i k j n:Nat} {K:List C->List C->Prop} {o:dz} {rows:List (List C)} {r:List C} (h1:bs[off]? = some (.s o rows)) (ho:o.mine=true) (h2:rows[i]? = some r) (h3:r.length=k) (h4:j+n<=k)
  (h5:cs=bq r j n) (h6:bs'=bs.set off (.s o (rows.set i (splice r j (List.replicate n .x))))) (hK:K cs bs'):Lq bs off [(i,k,j)] n K:=by
 have hoi:o≠.imm:=fun e=>by subst e;cases ho
 refine .mk_ ?_;exact⟨r,j,cs,bs',by simp[bQ,h1,h2,h3],by simp[jd,h1,h2,hoi],by omega,h5,by rw[h6];simp[fe,h1,h2],hK⟩
theorem Lq.out {bs:List C} {off:Nat} {st:cm} {n:Nat} {K:List C->List C->Prop} (h:Lq bs off st n K):∃ r j,bQ bs off st=some (r,j)/\jd bs off st/\j+n<=r.length/\K (bq r j n) (fe bs off st (splice r j (List.replicate n .x))):=by
 obtain⟨h⟩:=h;obtain⟨r,j,cs,bs',h1,h2,h3,rfl,rfl,h4⟩:=h;exact⟨r,j,h1,h2,h3,h4⟩
def KA (t:Nat):AV->AV
 | .bor t' off (s::st) ag=>bif Nat.beq t' t then .dead else .bor t' off (s::st) ag
 | .bor t' off [] ag=>.bor t' off [] ag
 | .ref t' off (s::st)=>bif Nat.beq t' t then .dead else .ref t' off (s::st)
 | .ref t' off []=>.ref t' off []
 | .hold k cs=>.hold k cs
 | .iref r off=>.iref r off
 | .fn f caps=>.fn f caps
 | .fv Ok=>.fv Ok
 | .dead=>.dead
def updN (F:Nat->AV) (t:Nat) (k:Kd) (cs:List C):Nat->AV:=fun s=>bif Nat.beq s t then .hold k cs else KA t (F s)
theorem rH (F:Nat->AV) (t:Nat) (k:Kd) (cs:List C):updN F t k cs t=.hold k cs:=by simp[updN]
theorem uq (F:Nat->AV) {t s:Nat} (k:Kd) (cs:List C) (h:s≠t):updN F t k cs s=KA t (F s):=by
 unfold updN;rw[show Nat.beq s t=false by rw[<-t4,Nat.beq_eq];exact h];rfl
def L2 (F:Nat->AV) (t:Nat) (k:Kd) (cs:List C):Nat->AV:=match k with
 | .box=>updH F t .box cs
 | .one=>updN F t .one cs
 | .agg=>updN F t .agg cs
 | .tup l=>updN F t (.tup l) cs
theorem oc {F:Nat->AV} {t:Nat} {k:Kd} {cs:List C} {t':Nat} {k2:Kd} {cs2:List C} (h:updH F t k cs t'=.hold k2 cs2):updN F t k cs t'=.hold k2 cs2:=by
 by_cases e:t'=t
 ·subst e;rw[gd]at h;rw[rH];exact h
 ·rw[eA _ _ _ e]at h
  rw[uq _ _ _ e];cases hF:F t' with
  | hold k3 cs3=>rw[hF]at h;exact h
  | bor t1 off st ag=>rw[hF]at h;simp only[qh]at h;cases hb:Nat.beq t1 t<;>rw[hb]at h<;>cases h
  | ref t1 off st=>
   rw[hF]at h;cases st with
   | nil=>cases h
   | cons s st=>simp only[qh]at h;cases hb:Nat.beq t1 t<;>rw[hb]at h<;>cases h
  | _=>rw[hF]at h;cases h
theorem yC (cs:List C) (off:Nat) (s:Nat × Nat × Nat) (st:cm) (r:List C):(fe cs off (s::st) r).length=cs.length:=by
 obtain⟨i,k,j⟩:=s;simp only[fe]
 (repeat' split)<;>simp
def gh (F:Nat->AV) (y:Operand) (K:(Nat->AV)->Option Nat->List C->Prop):Prop:=
 match y with
 | .tmp t=>match F t with
  | .hold .one cs=>K (updH F t .one (splice cs 0 (List.replicate cs.length .x))) none cs
  | .hold .agg cs=>K (updH F t .agg (splice cs 0 (List.replicate cs.length .x))) (some cs.length) cs
  | .bor t2 off [] ag=>(match F t2 with
    | .hold k cs=>bif Nat.ble (off+ag.getD 1) cs.length then K (updN F t2 k (splice cs off (List.replicate (ag.getD 1) .x))) ag (bq cs off (ag.getD 1)) else False
    | _=>False)
  | .bor t2 off (s::st) ag=>(match F t2 with
    | .hold k cs=>Lq cs off (s::st) (ag.getD 1) fun xs bs'=>K (updN F t2 k bs') ag xs
    | _=>False)
  | _=>False
 | _=>False
def bL (N:eL) (F:Nat->AV) (d:Nat) (av:AV) (K:(Nat->AV)->Prop):Prop:=bif N.free d&&!av.uses d then K (put F d av) else False
def eL.al (N:eL) (d:Nat):Bool:=N.mo.any fun p=>Nat.beq p.1 (1000000+d)
def jj (N:eL) (F:Nat->AV) (d:Nat) (x:Operand) (K:(Nat->AV)->Prop):Prop:=
 match x with
 | .tmp t=>match F t with
  | .bor ..=>bif N.al d then bm F x fun av=>bL N F d av K else gh F x fun F' ag cs=>bL N F' d (.hold (jY ag) cs) K
  | .hold .one cs=>bif aV cs then bm F x fun av=>bL N F d av K else gh F x fun F' ag cs=>bL N F' d (.hold (jY ag) cs) K
  | .hold .agg cs=>bif aV cs then bm F x fun av=>bL N F d av K else gh F x fun F' ag cs=>bL N F' d (.hold (jY ag) cs) K
  | _=>bm F x fun av=>bL N F d av K
 | x=>bm F x fun av=>bL N F d av K
inductive Pu (bs:List C) (off:Nat) (st:cm) (xs:List C) (K:List C->Prop):Prop
 |mk_ (h:∃ r j bs',bQ bs off st=some (r,j)/\jd bs off st/\j+xs.length<=r.length/\bs'=fe bs off st (splice r j xs)/\K bs')
theorem Pu.mk {bs bs':List C} {off:Nat} {st:cm} {xs:List C} {K:List C->Prop} {r:List C} {j:Nat} (h1:bQ bs off st=some (r,j)) (h2:jd bs off st) (h3:j+xs.length<=r.length) (h4:bs'=fe bs off st (splice r j xs)) (hK:K bs'):Pu bs off st xs K:=by
 refine .mk_ ?_;exact⟨r,j,bs',h1,h2,h3,h4,hK⟩
theorem Pu.one {bs bs':List C} {off i k j:Nat} {xs:List C} {K:List C->Prop} {o:dz} {rows:List (List C)} {r:List C} (h1:bs[off]? = some (.s o rows)) (ho:o.mine=true) (h2:rows[i]? = some r) (h3:r.length=k) (h4:j+xs.length<=k)
  (h5:bs'=bs.set off (.s o (rows.set i (splice r j xs)))) (hK:K bs'):Pu bs off [(i,k,j)] xs K:=by
 have hoi:o≠.imm:=fun e=>by subst e;cases ho
 refine Pu.mk (r:=r) (j:=j) (by simp[bQ,h1,h2,h3]) (by simp[jd,h1,h2,hoi]) (by omega) (by rw[h5];simp[fe,h1,h2]) hK
theorem Pu.out {bs:List C} {off:Nat} {st:cm} {xs:List C} {K:List C->Prop} (h:Pu bs off st xs K):∃ r j,bQ bs off st=some (r,j)/\jd bs off st/\j+xs.length<=r.length/\K (fe bs off st (splice r j xs)):=by
 obtain⟨h⟩:=h;obtain⟨r,j,bs',h1,h2,h3,rfl,h4⟩:=h;exact⟨r,j,h1,h2,h3,h4⟩
def oJ (F:Nat->AV) (x:Operand) (cs:List C) (K:(Nat->AV)->Prop):Prop:=
 match x with
 | .tmp tx=>match F tx with
  | .hold .box bs=>bif Nat.ble cs.length bs.length then fc (splice bs 0 cs) fun bs'=>K (updH F tx .box bs') else False
  | .ref t off []=>(match F t with
    | .hold .box bs=>bif Nat.ble (off+cs.length) bs.length then fc (splice bs off cs) fun bs'=>K (updH F t .box bs') else False
    | _=>False)
  | .ref t off (s::st)=>(match F t with
    | .hold k bs=>Pu bs off (s::st) cs fun bs'=>K (L2 F t k bs')
    | _=>False)
  | _=>False
 | _=>False
def lR (TE:Nat->Option TI) (F:Nat->AV) (T:Nat) (x y:Operand) (K:(Nat->AV)->Prop):Prop:=
 match TE T with
 | some i=>gE F (lA F y) fun _ cs=>bif Nat.beq cs.length i.size then(bif aV cs then oJ F x cs K else gh F y fun F' _ cs=>bif Nat.beq cs.length i.size then oJ F' x cs K else False) else False
 | none=>False
section
variable {P:Program} {w0 w w1:World} {M S0 S:ac} {N:eL} {φ:Nat->ac} {F:Nat->AV} {a:Act} {TE:Nat->Option TI}
theorem bh.toN {S1:ac} {φ1:Nat->ac} {t:Nat} {k:Kd} {cs cs':List C} {w':World} (h:bh w0 M S0 N S1 φ1 (updH F t k cs') a w') (h0:bh w0 M S0 N S φ F a w) (hw:∀ v,bS w' k v=bS w k v) (hF:F t=.hold k cs) (hl:cs'.length=cs.length):bh w0 M S0 N S1 φ1 (updN F t k cs') a w':=by
 refine⟨fun s=>?_,h.dis,h.disS,h.ex,h.sub,h.sup,h.old,h.size,h.defers,h.par⟩;have hs:=h.slot s;by_cases e:s=t
 ·subst e;rw[gd]at hs;rw[rH];exact hs
 ·rw[eA _ _ _ e]at hs
  rw[uq _ _ _ e];cases hFs:F s with
  | dead=>trivial
  | hold k3 cs3=>rw[hFs]at hs;exact hs
  | iref r off=>rw[hFs]at hs;exact hs
  | fn f caps=>rw[hFs]at hs;exact hs
  | fv Ok=>rw[hFs]at hs;exact hs
  | ref t1 off st=>
   rw[hFs]at hs;cases st with
   | nil=>
    obtain⟨k2,cs2,r,j,g,o,h1,h2⟩:=hs;exact⟨k2,cs2,r,j,g,o,oc h1,h2⟩
   | cons s2 st=>
    simp only[qh]at hs;simp only[KA];cases hb:Nat.beq t1 t with
    | true=>trivial
    | false=>
     rw[hb]at hs;obtain⟨k2,cs2,r,j,g,o,h1,h2⟩:=hs;exact⟨k2,cs2,r,j,g,o,oc h1,h2⟩
  | bor t1 off st ag=>
   rw[hFs]at hs;simp only[qh]at hs;cases st with
   | nil=>
    simp only[KA];cases hb:Nat.beq t1 t with
    | true=>
     have:=P1 hb;subst this;have h1:=h0.slot s;rw[hFs]at h1;obtain⟨k2,cs2,r,j,g1,g2,g3,g4⟩:=h1;rw[hF]at g1;cases g1;simp only[bQ,T0,Prod.mk.injEq]at g2;obtain⟨rfl,rfl⟩:=g2;exact⟨_,_,_,_,rH ..,rfl,by omega,by rw[hw];exact g4⟩
    | false=>
     rw[hb]at hs;obtain⟨k2,cs2,r,j,h1,h2⟩:=hs;exact⟨k2,cs2,r,j,oc h1,h2⟩
   | cons s2 st=>
    simp only[KA];cases hb:Nat.beq t1 t with
    | true=>trivial
    | false=>
     rw[hb]at hs;obtain⟨k2,cs2,r,j,h1,h2⟩:=hs;exact⟨k2,cs2,r,j,oc h1,h2⟩
theorem bh.toP {S1:ac} {φ1:Nat->ac} {t:Nat} {k:Kd} {cs cs':List C} {w':World} (h:bh w0 M S0 N S1 φ1 (updH F t k cs') a w') (h0:bh w0 M S0 N S φ F a w) (hF:F t=.hold k cs) (hl:cs'.length=cs.length):bh w0 M S0 N S1 φ1 (L2 F t k cs') a w':=by
 cases k with
 | box=>exact h
 | _=>exact h.toN h0 (fun _=>rfl) hF hl
theorem bh.taken (h:bh w0 M S0 N S φ F a w) {y:Operand} {K:(Nat->AV)->Option Nat->List C->Prop} (hp:gh F y K) :
  ∃ F' ag cs V φ',K F' ag cs/\bh w0 M S0 N S φ' F' a w/\bN w S V ag cs (a.eval y)/\(∀ b o,V b o->(∀ t,¬φ' t b o)/\¬S b o/\b<w.heap.size/\(w0.heap.size<=b\/M b o))/\(∀ t b o,φ' t b o->φ t b o)/\(∀ b o,V b o->∃ t,φ t b o):=by
 cases y with
 | tmp t=>
  have hs:=h.slot t;simp only[gh]at hp;have fin:∀ (t2 off n:Nat) (k:Kd) (cs:List C),F t2=.hold k cs->off+n<=cs.length->∀ (ag:Option Nat),ag.getD 1=n->(a.eval (.tmp t)=mkv ag fun j=>bS w k (tvs a t2) (off+j))->
    K (updH F t2 k (splice cs off (List.replicate n .x))) ag (bq cs off n)->
    ∃ F' ag cs V φ',K F' ag cs/\bh w0 M S0 N S φ' F' a w/\bN w S V ag cs (a.eval (.tmp t))/\(∀ b o,V b o->(∀ t,¬φ' t b o)/\¬S b o/\b<w.heap.size/\(w0.heap.size<=b\/M b o))/\(∀ t b o,φ' t b o->φ t b o)/\(∀ b o,V b o->∃ t,φ t b o):=by
   intro t2 off n k cs hF hl ag hag hv hK;obtain⟨V,X,h1,h2,hX,h3,h4⟩:=h.take hF hl;refine⟨_,ag,_,V,_,hK,h4,⟨by simp[bq];omega,_,hv,h3⟩,fun b o hb=>⟨fun t' hb'=>?_,h.disS t2 b o (h1 b o hb),h.ex t2 b o (h1 b o hb)⟩,fun t' b o hb=>?_,fun b o hb=>⟨t2,h1 b o hb⟩⟩
   ·by_cases ht:t'=t2
    ·rw[if_pos ht]at hb';exact h2 b o hb hb'
    ·rw[if_neg ht]at hb';exact h.dis t' t2 ht b o hb' (h1 b o hb)
   ·by_cases ht:t'=t2
    ·subst ht;rw[if_pos rfl]at hb;exact hX b o hb
    ·rw[if_neg ht]at hb;exact hb
  have te:∀ (t2 off n:Nat) (k:Kd) (cs:List C),F t2=.hold k cs->off+n<=cs.length->∀ (ag:Option Nat),ag.getD 1=n->(a.eval (.tmp t)=mkv ag fun j=>bS w k (tvs a t2) (off+j))->
    K (updN F t2 k (splice cs off (List.replicate n .x))) ag (bq cs off n)->
    ∃ F' ag cs V φ',K F' ag cs/\bh w0 M S0 N S φ' F' a w/\bN w S V ag cs (a.eval (.tmp t))/\(∀ b o,V b o->(∀ t,¬φ' t b o)/\¬S b o/\b<w.heap.size/\(w0.heap.size<=b\/M b o))/\(∀ t b o,φ' t b o->φ t b o)/\(∀ b o,V b o->∃ t,φ t b o):=by
   intro t2 off n k cs hF hl ag hag hv hK;obtain⟨V,X,h1,h2,hX,h3,h4⟩:=h.take hF hl;refine⟨_,ag,_,V,_,hK,h4.toN h (fun _=>rfl) hF (by simp[splice];omega),⟨by simp[bq];omega,_,hv,h3⟩,fun b o hb=>⟨fun t' hb'=>?_,h.disS t2 b o (h1 b o hb),h.ex t2 b o (h1 b o hb)⟩,fun t' b o hb=>?_,fun b o hb=>⟨t2,h1 b o hb⟩⟩
   ·by_cases ht:t'=t2
    ·rw[if_pos ht]at hb';exact h2 b o hb hb'
    ·rw[if_neg ht]at hb';exact h.dis t' t2 ht b o hb' (h1 b o hb)
   ·by_cases ht:t'=t2
    ·subst ht;rw[if_pos rfl]at hb;exact hX b o hb
    ·rw[if_neg ht]at hb;exact hb
  cases hF:F t with
  | hold k cs=>
   rw[hF]at hp hs;obtain⟨X1,Y,-,-,-,h4,-⟩:=hs;cases k with
   | one=>
    have hl:cs.length=1:=h4;refine fin t 0 cs.length .one cs hF (by omega) none (by simp[hl]) rfl ?_;rw[show bq cs 0 cs.length=cs by simp[bq]];exact hp
   | agg=>
    obtain⟨arr,hv,hsz⟩:=h4;refine fin t 0 cs.length .agg cs hF (by omega) (some cs.length) rfl ?_ ?_
    ·show tvs a t=_
     rw[hv];have:=oq arr;rw[hsz]at this;exact this.trans (gH fun j _=>by simp[bS,Value.cells])
    ·rw[show bq cs 0 cs.length=cs by simp[bq]];exact hp
   | _=>exact hp.elim
  | bor t2 off st ag=>
   rw[hF]at hp hs;cases st with
   | cons s st=>
    simp only at hp;obtain⟨k,cs,r,j,h1,h2,h3,h4⟩:=hs;rw[h1]at hp;simp only at hp;obtain⟨r',j',e1,e2,e3,hK⟩:=Lq.out hp;obtain⟨V,φ',g1,g2,g3,g4,g5⟩:=h.lend h1 e1 e2 e3;exact⟨_,ag,_,V,φ',hK,g2.toN h (fun _=>rfl) h1 (yC ..),⟨by simp[bq];omega,_,h4,g1⟩,g3,g4,fun b o hb=>⟨t2,g5 b o hb⟩⟩
   | nil=>
    simp only at hp;obtain⟨k,cs,r,j,h1,h2,h3,h4⟩:=hs;rw[h1]at hp;simp only[bQ,T0,Prod.mk.injEq]at h2;obtain⟨rfl,rfl⟩:=h2;simp only at hp;cases hb:Nat.ble (off+ag.getD 1) cs.length with
    | false=>rw[hb]at hp;exact hp.elim
    | true=>
     rw[hb]at hp;exact te t2 off (ag.getD 1) k cs h1 h3 ag rfl (h4.trans rfl) hp
  | _=>rw[hF]at hp;exact hp.elim
 | _=>exact hp.elim
theorem bh.putD_new (h:bh w0 M S0 N S φ F a w) {d:Nat} {av:AV} {v:Value} {K:(Nat->AV)->Prop} (hv:kM w S F a av v w1) (hp:bL N F d av K):∃ F',K F'/\St w0 M S0 N F' (a.put (some d) v) w1:=by
 unfold bL at hp;cases hc:(N.free d&&!av.uses d) with
 | false=>rw[hc]at hp;exact hp.elim
 | true=>
  rw[hc]at hp;simp only[I0,Bool.not_eq_true']at hc;exact⟨_,hp,h.put_newR hc.1 hv hc.2⟩
theorem bh.putD_taken {φ':Nat->ac} {F':Nat->AV} (h:bh w0 M S0 N S φ' F' a w) {d:Nat} {ag:Option Nat} {cs:List C} {v:Value} {V:ac} {K:(Nat->AV)->Prop} (hv:bN w S V ag cs v)
  (hV:∀ b o,V b o->(∀ t,¬φ' t b o)/\¬S b o/\b<w.heap.size/\(w0.heap.size<=b\/M b o)) (hp:bL N F' d (.hold (jY ag) cs) K):∃ F2,K F2/\St w0 M S0 N F2 (a.put (some d) v) w:=by
 unfold bL at hp;cases hc:(N.free d&&!(AV.hold (jY ag) cs).uses d) with
 | false=>rw[hc]at hp;exact hp.elim
 | true=>
  rw[hc]at hp;simp only[I0,Bool.not_eq_true']at hc;exact⟨_,hp,S,_,h.put_gen (bH.refl _ _) hc.1 hv.slot hc.2 (fun b o hb=>(hV b o hb).2.2) (fun t _ b o hb=>(hV b o hb).1 t) (fun b o hb=>(hV b o hb).2.1)⟩
theorem bh.assign (h:bh w0 M S0 N S φ F a w) {d:Nat} {x:Operand} {K:(Nat->AV)->Prop} (hp:jj N F d x K):∃ F',K F'/\St w0 M S0 N F' (a.put (some d) (a.eval x)) w:=by
 have mv:bm F x (fun av=>bL N F d av K)->∃ F',K F'/\St w0 M S0 N F' (a.put (some d) (a.eval x)) w:=fun hm=>by
  obtain⟨av,hK,hs⟩:=h.move hm;exact h.putD_new (kM.same hs) hK
 have tk:gh F x (fun F' ag cs=>bL N F' d (.hold (jY ag) cs) K)->∃ F',K F'/\St w0 M S0 N F' (a.put (some d) (a.eval x)) w:=fun hm=>by
  obtain⟨F',ag,cs,V,φ',hK,h',hv,hV,-⟩:=h.taken hm;exact h'.putD_taken hv hV hK
 cases x with
 | tmp t=>
  simp only[jj]at hp;split at hp
  ·cases hn:N.al d with
   | true=>rw[hn]at hp;exact mv hp
   | false=>rw[hn]at hp;exact tk hp
  ·rename_i cs _
   cases hn:aV cs with
   | true=>rw[hn]at hp;exact mv hp
   | false=>rw[hn]at hp;exact tk hp
  ·rename_i cs _
   cases hn:aV cs with
   | true=>rw[hn]at hp;exact mv hp
   | false=>rw[hn]at hp;exact tk hp
  ·exact mv hp
 | const v=>exact mv hp
 | global g=>exact mv hp
 | func f=>exact mv hp
theorem bh.storeSt (h:bh w0 M S0 N S φ F a w) {t:Nat} {k:Kd} {bs cs r:List C} {off j:Nat} {st:cm} (hF:F t=.hold k bs) (hst:st≠[]) (hr:bQ bs off st=some (r,j)) (ho:jd bs off st) (hl:j+cs.length<=r.length) {V:ac} {u:Nat->Value} (hrow:cF w S V cs u)
  (hV:Free w0 M S φ w V) {T:Nat} (hsz:(P.info? T).map (·.size)=some cs.length) {v:Value} (hv:v.cells.toList=(List.range cs.length).map u) {g o:Nat} (hp:plc w (bS w k (tvs a t)) (mX k (tvs a t)) off st=some (g,o)) :
  ∃ w1,(Instr.storeAt T (.pointer (some ⟨g,o,none⟩)) v).run P w=.ok () w1/\St w0 M S0 N (updH F t k (fe bs off st (splice r j cs))) a w1:=by
 obtain⟨g',b,u',Y,e1,e2,e3,e4,e5,e6⟩:=h.focus hF hst hr ho;rw[e4]at hp;simp only[T0,Prod.mk.injEq]at hp;obtain⟨rfl,rfl⟩:=hp;have hvl:v.cells.toList.length=cs.length:=by rw[hv];simp
 have hvs:v.cells.size=cs.length:=by simpa using hvl
 have hin:∀ d,d<cs.length->(∃ z,cel w g' (b+j+d)=some z)/\fro w g' (b+j+d)=NF:=fun d hd=>by
  obtain⟨-,-,a3,a4⟩:=e5 (j+d) (by omega);rw[Nat.add_assoc];exact⟨⟨_,a3⟩,a4⟩
 have hone:∀ x∈v.cells.toList,x.oneCell'=true:=fun x hx=>by
  rw[hv]at hx;obtain⟨d,hd,rfl⟩:=O3.1 hx;exact hrow.one (List.mem_range.1 hd)
 have hrun:=run_storeCells_cells (P:=P) g' (b+j) v.cells.toList 0 w (fun d hd=>by obtain⟨z,hz⟩:=(hin d (by omega)).1;simp only[Nat.add_zero];show(cel w g' (b+j+d)).isSome=true;rw[hz];rfl)
  (fun d hd=>by simp only[Nat.add_zero];exact R0 Prod.fst (hin d (by omega)).2) hone
 simp only[Nat.add_zero]at hrun;have hk:bH (fun x o=>x=g'/\b+j<=o/\o<b+j+cs.length) w (w.setCells g' (b+j) v.cells.toList):=n9 _ _ _ fun d hd=>⟨rfl,by omega,by omega⟩
 have hgv:∀ d,d<cs.length->v.cells.toList[d]? = some (u d):=fun d hd=>by rw[hv,O2,X4 hd];rfl
 have hSS:bi S w (w.setCells g' (b+j) v.cells.toList):=fun x o hx=>⟨hk.cel x o (h.sup x o hx).1 (fun hc=>by
   have:=(e5 (o - b) (by omega)).1;rw[show b+(o - b)=o by omega,<-hc.1]at this;exact h.disS t x o this hx),eg _ _ _ _ _ _⟩
 have hYY:bi Y w (w.setCells g' (b+j) v.cells.toList):=fun x o hx=>⟨hk.cel x o (h.ex t x o (e1 x o hx)).1 (fun hc=>by
   have:=(e5 (o - b) (by omega)).2.1;rw[show b+(o - b)=o by omega,<-hc.1]at this;exact this hx),eg _ _ _ _ _ _⟩
 have hVV:bi V w (w.setCells g' (b+j) v.cells.toList):=fun x o hx=>⟨hk.cel x o (hV x o hx).2.2.1 (fun hc=>by
   have:=(e5 (o - b) (by omega)).1;rw[show b+(o - b)=o by omega,<-hc.1]at this;exact(hV x o hx).1 t this),eg _ _ _ _ _ _⟩
 refine⟨_,by simp[Instr.storeAt,Instr.sureAddr,storeVar,iR hsz,hvs,hrun],S,_,e6 _ (splice r j cs) (fun d=>if j<=d/\d<j+cs.length then u (d - j) else u' d) (fun x o=>Y x o\/V x o) _ hk (fun x o hx=>.inr ⟨hx.1,by omega,by omega⟩) (fun d hd=>⟨?_,by rw[eg];exact(e5 d hd).2.2.2⟩) (bU hl) ((e2.keep hSS hYY).join (hrow.keep hSS hVV) hl (fun x o hx hx'=>(hV x o hx').1 t (e1 x o hx))) (fun x o hx=>hx.imp id (hV x o))⟩;by_cases hq:j<=d/\d<j+cs.length
 ·rw[if_pos hq]
  have:=iV (w:=w) (g:=g') (o:=b+j) (vs:=v.cells.toList) (fun d hd=>(hin d (by omega)).1) (hgv (d - j) (by omega));rw[show b+j+(d - j)=b+d by omega]at this;exact this
 ·rw[if_neg hq,ge (by omega)]
  exact(e5 d hd).2.2.1
theorem bh.putB (h:bh w0 M S0 N S φ F a w) {T:Nat} {x:Operand} {cs:List C} {v:Value} {V:ac} {ag:Option Nat} {K:(Nat->AV)->Prop} (hv:bN w S V ag cs v)
  (hV:∀ b o,V b o->(∀ t,¬φ t b o)/\¬S b o/\b<w.heap.size/\(w0.heap.size<=b\/M b o)) (hsz:(P.info? T).map (·.size)=some cs.length) (hp:oJ F x cs K) :
  ∃ F' w1,K F'/\(Instr.storeAt T (a.eval x) v).run P w=.ok () w1/\St w0 M S0 N F' a w1:=by
 obtain⟨u,hu,hr⟩:=hv.cells;cases x with
 | tmp tx=>
  have hs:=h.slot tx;show ∃ F' w1,K F'/\(Instr.storeAt T (tvs a tx) v).run P w=.ok () w1/\_
  simp only[oJ]at hp;cases hF:F tx with
  | hold k bs=>
   rw[hF]at hp hs;cases k with
   | box=>
    simp only at hp;cases hb:Nat.ble cs.length bs.length with
    | false=>rw[hb]at hp;exact hp.elim
    | true=>
     rw[hb]at hp;simp only[cond_true,di]at hp;obtain⟨X1,Y,-,-,-,⟨g,o,hpt,-⟩,-⟩:=hs;obtain⟨w1,hrun,hst⟩:=h.store (P:=P) hF (off:=0) (by simpa using W0 hb) hr hV hsz hu (g:=g) (o:=o) (by rw[hpt];rfl);exact⟨_,w1,hp,by rw[hpt];exact hrun,hst⟩
   | _=>exact hp.elim
  | ref t off st=>
   rw[hF]at hp hs;cases st with
   | cons s st=>
    simp only at hp;obtain⟨k,cs',r,j,g,o,h1,h2,h3,h4⟩:=hs;rw[h1]at hp;obtain⟨r',j',e1,e2,e3,hK⟩:=hp.out;obtain⟨w1,hrun,S1,φ1,hst⟩:=h.storeSt (P:=P) h1 (by simp) e1 e2 e3 hr hV hsz hu h3;exact⟨_,w1,hK,by rw[h4];exact hrun,S1,φ1,hst.toP h h1 (yC ..)⟩
   | nil=>
    simp only at hp;obtain⟨k,cs',r,j,g,o,h1,h2,h3,h4⟩:=hs;rw[h1]at hp;cases k with
    | box=>
     simp only at hp;cases hb:Nat.ble (off+cs.length) cs'.length with
     | false=>rw[hb]at hp;exact hp.elim
     | true=>
      rw[hb]at hp;simp only[cond_true,di]at hp;obtain⟨w1,hrun,hst⟩:=h.store (P:=P) h1 (W0 hb) hr hV hsz hu h3;exact⟨_,w1,hp,by rw[h4];exact hrun,hst⟩
    | _=>exact hp.elim
  | _=>rw[hF]at hp;exact hp.elim
 | _=>exact hp.elim
theorem bh.storeOp (h:bh w0 M S0 N S φ F a w) (hTE:∀ t i,TE t=some i->bY P t i) {T:Nat} {x y:Operand} {K:(Nat->AV)->Prop} (hp:lR TE F T x y K) :
  ∃ F' w1,K F'/\(Instr.storeAt T (a.eval x) (a.eval y)).run P w=.ok () w1/\St w0 M S0 N F' a w1:=by
 unfold lR at hp;split at hp
 case h_2=>exact hp.elim
 rename_i i hT;have hsz:=(hTE _ _ hT).size;obtain⟨ag,cs,Y,hK,hv,-⟩:=h.val (h.ev y) hp;cases hl:Nat.beq cs.length i.size with
 | false=>rw[hl]at hK;exact hK.elim
 | true=>
  rw[hl]at hK;simp only[cond_true]at hK;cases hn:aV cs with
  | true=>
   rw[hn]at hK;exact h.putB (V:=NO) (hv.bare hn) (fun _ _ h=>h.elim) (by rw[hsz,P1 hl]) hK
  | false=>
   rw[hn]at hK;simp only[cond_false]at hK;obtain⟨F',ag',cs',V,φ',hK',h',hv',hV,-⟩:=h.taken hK;cases hl':Nat.beq cs'.length i.size with
   | false=>rw[hl']at hK';exact hK'.elim
   | true=>
    rw[hl']at hK';exact h'.putB hv' hV (by rw[hsz,P1 hl']) hK'
end
def sZ (F:Nat->AV) (x:Operand) (K:(Nat->AV)->Option Nat->List C->Prop):Prop:=gE F (lA F x) fun ag cs=>bif aV cs then K F ag cs else gh F x K
def fillW (pl:Nat->Option (Nat × Nat)):List (Nat × Operand)->List C->((Nat->AV)->List C->Prop)->(Nat->AV)->Prop
 | [],cs,K,F=>K F cs
 | p::rest,cs,K,F=>match pl p.1 with
  | some q=>sZ F p.2 fun F' _ xs=>bif Nat.beq xs.length q.2&&Nat.ble (q.1+q.2) cs.length then fc (splice cs q.1 xs) fun cs'=>fillW pl rest cs' K F' else False
  | none=>False
def jw (TE:Nat->Option TI) (N:eL) (F:Nat->AV) (d T:Nat) (parts:List (Nat × Operand)) (K:(Nat->AV)->Prop):Prop:=
 match TE T with
 | some ⟨_,_,zero,.st flds⟩=>bif vu TE flds then fillW (MF TE flds) parts zero (fun F' cs=>bL N F' d (.hold .agg cs) K) F else False
 | _=>False
def eY (TE:Nat->Option TI) (N:eL) (F:Nat->AV) (d T n:Nat) (parts:List (Nat × Operand)) (K:(Nat->AV)->Prop):Prop:=
 FY TE T fun _ ie=>bif Nat.ble (n*ie.size) 16777216 then(match n,parts with
   | 0,[]=>bL N F d (.hold .one [.z]) K
   | n+1,parts=>fc (rep ie.zero (n+1)) fun cs=>fillW (NJ ie.size) parts cs (fun F' cs'=>N4 ie.size (n+1) cs' fun rows=>bL N F' d (.hold .one [.s .own rows]) K) F
   | _,_=>False) else False
def K5 (N:eL) (F:Nat->AV) (d:Nat) (x:Operand) (K:(Nat->AV)->Prop):Prop:=sZ F x fun F' _ cs=>bL N F' d (.hold .box cs) K
inductive Ap (flat:Bool) (rows xr:List (List C)) (sz by_:Nat) (K:List (List C)->Prop):Prop
 |mk_ (h:(∀ r∈rows,r.length=sz)/\(∀ r∈xr,r.length=sz)/\(flat=true->∀ r∈xr,aV r=true)/\rows.length+xr.length<=140737488355328/\(rows.length+xr.length)*by_<=140737488355328/\∃ rs,rs=rows++xr/\K rs)
theorem Ap.mk {flat:Bool} {rows xr rs:List (List C)} {sz by_:Nat} {K:List (List C)->Prop} (h1:∀ r∈rows,r.length=sz) (h2:∀ r∈xr,r.length=sz) (h3:flat=true->∀ r∈xr,aV r=true) (h4:rows.length+xr.length<=140737488355328)
  (h5:(rows.length+xr.length)*by_<=140737488355328) (h6:rs=rows++xr) (hK:K rs):Ap flat rows xr sz by_ K:=by refine .mk_ ?_;exact⟨h1,h2,h3,h4,h5,rs,h6,hK⟩
theorem Ap.out {flat:Bool} {rows xr:List (List C)} {sz by_:Nat} {K:List (List C)->Prop} (h:Ap flat rows xr sz by_ K) :
  (∀ r∈rows,r.length=sz)/\(∀ r∈xr,r.length=sz)/\(flat=true->∀ r∈xr,aV r=true)/\rows.length+xr.length<=140737488355328/\(rows.length+xr.length)*by_<=140737488355328/\K (rows++xr):=by
 obtain⟨h⟩:=h;obtain⟨h1,h2,h3,h4,h5,rs,rfl,h6⟩:=h;exact⟨h1,h2,h3,h4,h5,h6⟩
def zk (F:Nat->AV) (y:Operand) (K:Bool->(Nat->AV)->List (List C)->Prop):Prop:=
 match lA F y with
 | .hold .one [.s .own _]=>gh F y fun F' ag cs=>match ag,cs with|none,[.s .own rows]=>K false F' rows|_,_=>False
 | av=>gE F av fun ag cs=>match ag,cs with
  | none,[.s _ rows]=>K true F rows
  | none,[.z]=>K true F []
  | _,_=>False
def yq (F:Nat->AV) (x:Operand) (K:(Nat->AV)->List (List C)->Prop):Prop:=
 gE F (lA F x) fun ag cs=>match ag,cs with
  | none,[.z]=>K F []
  | none,[.s .own _]=>gh F x fun F' ag cs=>match ag,cs with|none,[.s .own rows]=>K F' rows|_,_=>False
  | _,_=>False
def y1 (TE:Nat->Option TI) (N:eL) (F:Nat->AV) (d T:Nat) (x y:Operand) (K:(Nat->AV)->Prop):Prop:=
 FY TE T fun _ ie=>zk F y fun fl F' xr=>yq F' x fun F'' rows=>Ap fl rows xr ie.size ie.bytes fun rs=>bL N F'' d (.hold .one [.s .own rs]) K
section
variable {P:Program} {w0 w w1:World} {M S0 S:ac} {N:eL} {φ:Nat->ac} {F:Nat->AV} {a:Act} {TE:Nat->Option TI}
theorem bh.give (h:bh w0 M S0 N S φ F a w) {x:Operand} {K:(Nat->AV)->Option Nat->List C->Prop} (hp:sZ F x K) :
  ∃ F' ag cs V φ',K F' ag cs/\bh w0 M S0 N S φ' F' a w/\bN w S V ag cs (a.eval x)/\Free w0 M S φ' w V/\(∀ t b o,φ' t b o->φ t b o)/\(∀ b o,V b o->∃ t,φ t b o):=by
 obtain⟨ag,cs,Y,hK,hv,-⟩:=h.val (h.ev x) hp;cases hn:aV cs with
 | true=>rw[hn]at hK;exact⟨F,ag,cs,NO,φ,hK,h,hv.bare hn,fun _ _ h=>h.elim,fun _ _ _ h=>h,fun _ _ h=>h.elim⟩
 | false=>rw[hn]at hK;exact h.taken hK
theorem bh.fillW {pl:Nat->Option (Nat × Nat)} : ∀ {parts:List (Nat × Operand)} {cs:List C} {K:(Nat->AV)->List C->Prop} {F:Nat->AV} {φ:Nat->ac} {u:Nat->Value} {cells:Array Value} {Y:ac},bh w0 M S0 N S φ F a w->Ab.fillW pl parts cs K F->cF w S Y cs u->Free w0 M S φ w Y->
  cells.toList=(List.range cs.length).map u->
  ∃ F' φ' cs' u' cells' Y',K F' cs'/\bh w0 M S0 N S φ' F' a w/\cs'.length=cs.length/\cF w S Y' cs' u'/\Free w0 M S φ' w Y'/\Instr.fill pl cells (parts.map fun p=>(p.1,a.eval p.2))=some cells'/\cells'.toList=(List.range cs'.length).map u'
 | [],cs,K,F,φ,u,cells,Y,h,hp,hr,hY,hc=>⟨F,φ,cs,u,cells,Y,hp,h,rfl,hr,hY,rfl,hc⟩
 | p::rest,cs,K,F,φ,u,cells,Y,h,hp,hr,hY,hc=>by
  simp only[Ab.fillW]at hp;split at hp
  case h_2=>exact hp.elim
  rename_i q hq;obtain⟨F',ag,xs,V,φ',hK,h',hv,hV,hs,hVt⟩:=h.give hp;cases hb:(Nat.beq xs.length q.2&&Nat.ble (q.1+q.2) cs.length) with
  | false=>rw[hb]at hK;exact hK.elim
  | true=>
   rw[hb]at hK;simp only[I0]at hb;have h1:=P1 hb.1;have h2:=W0 hb.2;simp only[cond_true,di]at hK;obtain⟨u2,hu2,hr2⟩:=hv.cells;obtain⟨cells1,hf,hc1⟩:=yr (rest:=rest.map fun p=>(p.1,a.eval p.2)) hq hc hu2 h1 h2;have hr3:=hr.join hr2 (off:=q.1) (by omega) (fun b o hb hb'=>by obtain⟨t,ht⟩:=hVt b o hb';exact(hY b o hb).1 t ht);obtain⟨F2,φ2,cs',u',cells',Y',e1,e2,e3,e4,e5,e6,e7⟩:=bh.fillW h' hK hr3 ((hY.less hs).or hV) hc1;exact⟨F2,φ2,cs',u',cells',Y',e1,e2,by rw[e3,bU (by omega)],e4,e5,by rw[O4,hf];exact e6,e7⟩
theorem bh.putD_free (h:bh w0 M S0 N S φ F a w) {d:Nat} {k:Kd} {cs:List C} {v:Value} {X:ac} {K:(Nat->AV)->Prop} (hv:cn w S F (tvs a) X (.hold k cs) v) (hX:Free w0 M S φ w X) (hp:bL N F d (.hold k cs) K) :
  ∃ F2,K F2/\St w0 M S0 N F2 (a.put (some d) v) w:=by
 unfold bL at hp;cases hc:(N.free d&&!(AV.hold k cs).uses d) with
 | false=>rw[hc]at hp;exact hp.elim
 | true=>
  rw[hc]at hp;simp only[I0,Bool.not_eq_true']at hc;exact⟨_,hp,S,_,h.put_gen (bH.refl _ _) hc.1 hv hc.2 (fun b o hb=>(hX b o hb).2.2) (fun t _ b o hb=>(hX b o hb).1 t) (fun b o hb=>(hX b o hb).2.1)⟩
theorem EL {zero:List C} {cells:Array Value} (hc:cells.toList=zero.map cval):cells.toList=(List.range zero.length).map (fun j=>(zero.map cval).getD j undef):=by
 rw[hc];apply List.ext_getElem?;intro j;rw[O2,O2];by_cases hj:j<zero.length
 ·rw[X4 hj,Q1 hj];simp[List.getD,hj]
 ·rw[U1 (by omega),U1 (by simp;omega)];rfl
theorem bh.buildW (h:bh w0 M S0 N S φ F a w) (hTE:∀ t i,TE t=some i->bY P t i) {d T:Nat} {parts:Array (Nat × Operand)} {K:(Nat->AV)->Prop} (hp:jw TE N F d T parts.toList K) :
  ∃ v F',K F'/\(Instr.build T (parts.map fun(i,x)=>(i,a.eval x))).run P w=.ok v w/\St w0 M S0 N F' (a.put (some d) v) w:=by
 unfold jw at hp;split at hp
 case h_2=>exact hp.elim
 rename_i size bytes zero flds hT;cases ha:vu TE flds with
 | false=>rw[ha]at hp;exact hp.elim
 | true=>
  rw[ha]at hp;have hzo:=(hTE _ _ hT).2.1;obtain⟨F',φ',cs',u',cells',Y',e1,e2,e3,e4,e5,e6,e7⟩:=bh.fillW h hp (nw hzo S) (fun _ _ h=>h.elim) (EL (cells:=(zero.map cval).toArray) (by simp));have hsz:cells'.size=cs'.length:=by have:=R0 List.length e7;simpa using this
  have hval:bN w S Y' (some cs'.length) cs' (.agg cells'):=⟨rfl,u',by simp only[mkv];congr 1;apply Array.ext';rw[e7],e4⟩
  obtain⟨F2,hK,hst⟩:=e2.putD_free hval.slot e5 e1;refine⟨.agg cells',F2,hK,uS hTE hT ha fun cells hc=>?_,hst⟩;have:cells=(zero.map cval).toArray:=by apply Array.ext';simpa using hc
  rw[this,Array.toList_map];exact e6
theorem bh.buildSW (h:bh w0 M S0 N S φ F a w) (hTE:∀ t i,TE t=some i->bY P t i) {d T n:Nat} {parts:Array (Nat × Operand)} {K:(Nat->AV)->Prop} (hp:eY TE N F d T n parts.toList K) :
  ∃ v w1 F',K F'/\(Instr.buildSlice T n (parts.map fun(i,x)=>(i,a.eval x))).run P w=.ok v w1/\St w0 M S0 N F' (a.put (some d) v) w1:=by
 obtain⟨e,ie,q,z,hK,he,hu,ht,hl,hpos,hi,hz,hzc,hsz,hby,hzs⟩:=jN hTE hp;cases hb:Nat.ble (n*ie.size) 16777216 with
 | false=>rw[hb]at hK;exact hK.elim
 | true=>
  rw[hb]at hK;have hle:=W0 hb;simp only[cond_true]at hK;split at hK
  ·rename_i hparts
   have:parts = #[]:=by apply Array.ext';simpa using hparts
   subst this;have h':=h.world (w1:=w.alloc (.cells #[] e)) (cH w _) (fun _ _ h=>h.elim);obtain⟨F2,hK2,hst⟩:=h'.putD_free (X:=NO) (v:=.slice (some ⟨w.heap.size,0,none⟩) 0 0) (fC (.z _ _)) (fun _ _ h=>h.elim) hK;exact⟨_,_,F2,hK2,by rw[Array.map_empty];exact sG hu hi,hst⟩
  ·rename_i n
   rw[Nat.succ_eq_add_one]at hle;rw[di]at hK;obtain⟨F',φ',cs',u',cells',Y',e1,e2,e3,e4,e5,e6,e7⟩:=bh.fillW h hK (rV ht.2.1 S _) (fun _ _ h=>h.elim) (na hzc (by omega) (rep ie.zero (n+1)).length);rw[nB]at e1;have hcl:cs'.length=(n+1)*ie.size:=by rw[e3,lZ,hl]
   have h':=e2.world (w1:=w.alloc (.cells cells' e)) (cH w _) (fun _ _ h=>h.elim);have hrep:=uk (e:=e) e4 hcl (by omega) e7 (fun b o hb=>(e2.sup b o hb).1) (fun b o hb=>(e5 b o hb).2.2.1);obtain⟨F2,hK2,hst⟩:=h'.putD_free (fC hrep) (fun b o hb=>by
     rcases hb with hb|hb
     · obtain⟨a1,a2,a3,a4⟩:=e5 b o hb
       exact⟨a1,a2,by rw[eQ];omega,a4⟩
     · exact⟨fun t ht=>by have:=(e2.ex t b o ht).1;omega,fun hS=>by have:=(e2.sup b o hS).1;omega,hb.2,.inl (V3 e2.old.size hb.1)⟩) e1
   refine⟨_,_,F2,hK2,run_buildSlice w T e (n+1) _ cells' q z hu hi hz (by rw[hsz];omega) (by rw[hsz];have:0<(n+1)*ie.size:=Nat.mul_pos (by omega) hpos;omega) ?_,hst⟩;rw[hsz,Array.toList_map];rw[lZ,hl]at e6;exact e6
  ·exact hK.elim
theorem bh.boxW (h:bh w0 M S0 N S φ F a w) {d T:Nat} {x:Operand} {K:(Nat->AV)->Prop} (hp:K5 N F d x K) :
  ∃ v w1 F',K F'/\(Instr.box T (a.eval x)).run P w=.ok v w1/\St w0 M S0 N F' (a.put (some d) v) w1:=by
 obtain⟨F1,ag,cs,V,φ',hK,h',hv,hV,hs,hVt⟩:=h.give hp;obtain⟨u,hu,hr⟩:=hv.cells;have hsz:(a.eval x).cells.size=cs.length:=by have:=R0 List.length hu;simpa using this
 have h2:=h'.world (w1:=w.alloc (.cells (a.eval x).cells T)) (cH w _) (fun _ _ h=>h.elim);have hcell:∀ j,j<cs.length->cel (w.alloc (.cells (a.eval x).cells T)) w.heap.size j=some (u j):=fun j hj=>by
  rw[gm,<-Array.getElem?_toList,hu,O2,X4 hj];rfl
 have hVlt:∀ b o,V b o->b<w.heap.size:=fun b o hb=>(hV b o hb).2.2.1
 obtain⟨F2,hK2,hst⟩:=h2.putD_free (X:=fun b o=>V b o\/(b=w.heap.size/\o<cs.length)) (k:=.box) (cs:=cs) (v:=.pointer (some ⟨w.heap.size,0,none⟩)) (F:=F1) ⟨fun b o=>b=w.heap.size/\o<cs.length,V,fun _ _ h=>.inr h,fun _ _ h=>.inl h,fun b o hb hb'=>by have:=hVlt b o hb';omega,
   ⟨_,_,rfl,fun j hj=>⟨⟨rfl,by omega⟩,by rw[Y4];exact⟨_,hcell j hj⟩,by rw[Y4,iC]⟩⟩,(hr.keep (g9 (cH w _) fun b o hb=>(h'.sup b o hb).1) (g9 (cH w _) hVlt)).congr fun j hj=>by simp only[bS,Y4,hcell j hj,Option.getD_some]⟩ (fun b o hb=>by
   rcases hb with hb|hb
   · obtain⟨a1,a2,a3,a4⟩:=hV b o hb
     exact⟨a1,a2,by rw[eQ];omega,a4⟩
   · exact⟨fun t ht=>by have:=(h'.ex t b o ht).1;omega,fun hS=>by have:=(h'.sup b o hS).1;omega,by rw[eQ];omega,.inl (by rw[hb.1];exact h'.old.size)⟩) hK
 exact⟨_,_,F2,hK2,by simp[Instr.box,newVar,newRow],hst⟩
theorem bh.src (h:bh w0 M S0 N S φ F a w) {y:Operand} {sz:Nat} {K:Bool->(Nat->AV)->List (List C)->Prop} (hp:zk F y K) :
  ∃ fl F' xr φ',K fl F' xr/\bh w0 M S0 N S φ' F' a w/\(∀ t b o,φ' t b o->φ t b o)/\((∀ r∈xr,r.length=sz)->(fl=true->∀ r∈xr,aV r=true)->
    ∃ b c u2 f2 V,a.eval y=.slice b xr.length c/\np w b (xr.length*sz) ((List.range (xr.length*sz)).map u2)/\Az w S V xr sz u2 f2/\Free w0 M S φ' w V/\(∀ b o,V b o->∃ t,φ t b o)):=by
 unfold zk at hp;split at hp
 ·obtain⟨F',ag,cs,V,φ',hK,h',hv,hV,hs,hVt⟩:=h.taken hp
  match ag,cs,hK with
  | none,[.s .own rows],hK=>
   refine⟨false,F',rows,φ',hK,h',hs,fun hk _=>?_⟩;rcases hv.rep1.els (by simp) hk with⟨rfl,a0,e⟩|⟨g,cap,u,f,e,hpos,hcap,hcell,hu,hE⟩
   ·exact⟨a0,0,fun _=>undef,fun _=>NO,NO,e,⟨by simp,fun _=>by simp,fun ad j u _ hj=>by simp at hj⟩,⟨fun r hr=>(by cases hr),fun _ _ _ _ h=>h.elim,fun _ _ _ _ _ _ _ h=>h.elim,fun i j r c hi=>(by simp at hi)⟩,fun _ _ h=>h.elim,fun _ _ h=>h.elim⟩
   ·refine⟨_,cap,u,f,_,e,⟨by simp,fun h=>(by cases h),fun ad j y had hj=>?_⟩,hE,fun b o hb=>hV b o hb.1,fun b o hb=>hVt b o hb.1⟩
    cases had;rw[O2]at hj;have hjl:j<rows.length*sz:=by
     rcases Nat.lt_or_ge j (rows.length*sz) with h|h
     ·exact h
     ·rw[U1 (by simpa using h)]at hj;cases hj
    rw[X4 hjl]at hj;simp only[Y3,T0]at hj;subst hj;rw[iO,Y4];exact hu j hjl
 ·obtain⟨ag,cs,Y,hK,hv,-⟩:=h.val (h.ev y) hp
  match ag,cs,hK with
  | none,[.s o rows],hK=>
   refine⟨true,F,rows,φ,hK,h,fun _ _ _ h=>h,fun hk hn=>?_⟩;obtain⟨b,c,u,e1,e2,e3⟩:=hv.rep1.flat (fun r hr=>⟨hk r hr,hn rfl r hr⟩);exact⟨b,c,u,_,NO,e1,e2,e3,fun _ _ h=>h.elim,fun _ _ h=>h.elim⟩
  | none,[.z],hK=>
   obtain⟨b,hb⟩:=uL hv.rep1;exact⟨true,F,[],φ,hK,h,fun _ _ _ h=>h,fun _ _=>⟨b,0,fun _=>undef,fun _=>NO,NO,hb,⟨by simp,fun _=>by simp,fun ad j u _ hj=>by simp at hj⟩,⟨fun r hr=>(by cases hr),fun _ _ _ _ h=>h.elim,fun _ _ _ _ _ _ _ h=>h.elim,fun i j r c hi=>(by simp at hi)⟩,fun _ _ h=>h.elim,fun _ _ h=>h.elim⟩⟩
theorem bh.base (h:bh w0 M S0 N S φ F a w) {x:Operand} {K:(Nat->AV)->List (List C)->Prop} (hp:yq F x K) :
  ∃ F' rows φ' V,K F' rows/\bh w0 M S0 N S φ' F' a w/\(∀ t b o,φ' t b o->φ t b o)/\dP w S V (.s .own rows) (a.eval x)/\Free w0 M S φ' w V/\(∀ b o,V b o->∃ t,φ t b o):=by
 obtain⟨ag,cs,Y,hK,hv,-⟩:=h.val (h.ev x) hp
 match ag,cs,hK with
 | none,[.z],hK=>
  obtain⟨b,hb⟩:=uL hv.rep1;exact⟨F,[],φ,NO,hK,h,fun _ _ _ h=>h,by rw[hb];exact .nil _ _ _ trivial,fun _ _ h=>h.elim,fun _ _ h=>h.elim⟩
 | none,[.s .own _],hK=>
  obtain⟨F',ag,cs,V,φ',hK,h',hv,hV,hs,hVt⟩:=h.taken hK
  match ag,cs,hK with
  | none,[.s .own rows],hK=>exact⟨F',rows,φ',V,hK,h',hs,hv.rep1,hV,hVt⟩
theorem bh.appW (h:bh w0 M S0 N S φ F a w) (hTE:∀ t i,TE t=some i->bY P t i) {d T ty:Nat} {x y:Operand} {K:(Nat->AV)->Prop} (hp:y1 TE N F d T x y K) :
  ∃ v w1 F',K F'/\(Builtin.append_ #[T,T] ty #[a.eval x,a.eval y]).run P w=.ok v w1/\St w0 M S0 N F' (a.put (some d) v) w1:=by
 obtain⟨e,ie,q,z,hK,he,hu,ht,hl,hpos,hi,hz,hzc,hsz,hby,hzs⟩:=jN hTE hp;obtain⟨fl,F1,xr,φ1,hK,s1,hs1,hsrc⟩:=h.src (sz:=ie.size) hK;obtain⟨F2,rows,φ2,V,hK,s2,hs2,hrep,hV,hVt⟩:=s1.base hK;obtain⟨h1,h2,h3,h4,h5,hK⟩:=hK.out;obtain⟨b,c,u2,f2,V2,hy,hR,hE,hV2,hVt2⟩:=hsrc h2 h3;have hz1:∀ x∈z.cells.toList,x.oneCell'=true:=by rw[hzc];exact AW ht.2.1
 rw[<-hsz]at hR hE;obtain⟨v',w',hrun,hkk,hrep'⟩:=uz (P:=P) (ty:=ty) (c:=c) hu hi hz hzs hz1 hrep (by rw[hsz];exact h1) hE hR (fun b o hb hb'=>by obtain⟨t,ht⟩:=hVt b o hb;exact(hV2 b o hb').1 t ht) (fun b o hb=>(hV b o hb).2.1) (fun b o hb=>(hV b o hb).2.2.1)
  (fun b o hb=>(hV2 b o hb).2.2.1) (fun b o hb=>(s2.sup b o hb).1) h4 (by rw[hby];exact h5)
 have s3:=s2.world hkk hV;obtain⟨F3,hK3,hst⟩:=s3.putD_free (fC hrep') (fun b o hb=>by
   rcases hb with hb|hb|hb
   · obtain⟨a1,a2,a3,a4⟩:=hV b o hb
     exact⟨a1,a2,W2 a3 hkk.size,a4⟩
   · obtain⟨a1,a2,a3,a4⟩:=(hV2.less hs2) b o hb
     exact⟨a1,a2,W2 a3 hkk.size,a4⟩
   · exact⟨fun t ht=>by have:=(s2.ex t b o ht).1;omega,fun hS=>by have:=(s2.sup b o hS).1;omega,hb.2,.inl (V3 s2.old.size hb.1)⟩) hK
 exact⟨v',w',F3,hK3,by rw[hy];exact hrun,hst⟩
end
inductive MA where
 |val (ag:Option Nat) (cs:List C)
 |mut (ag:Option Nat) (cs:List C)
 |ptr (cs:List C)
def ou (w:World) (S V:ac):MA->Value->Prop
 | .val ag cs,v=>bN w S NO ag cs v
 | .mut ag cs,v=>bN w S V ag cs v
 | .ptr cs,v=>∃ X1 Y:ac,(∀ b o,X1 b o->V b o)/\(∀ b o,Y b o->V b o)/\(∀ b o,X1 b o->¬Y b o)/\f7 w X1 .box cs.length v/\cF w S Y cs (bS w .box v)
def K9 (w:World) (S:ac):(Nat->ac)->List MA->List Value->Prop
 | _,[],[]=>True
 | V,m::ms,v::vs=>ou w S (V 0) m v/\K9 w S (fun i=>V (i+1)) ms vs
 | _,_,_=>False
def Eb (w:World) (S V:ac):MA->Value->Prop
 | .val _ _,_=>True
 | m,v=>ou w S V m v
def BL (w:World) (S:ac):(Nat->ac)->List MA->List Value->Prop
 | _,[],[]=>True
 | V,m::ms,v::vs=>Eb w S (V 0) m v/\BL w S (fun i=>V (i+1)) ms vs
 | _,_,_=>False
structure aS (P:Program) (f:Nat) (sh:Bool) (A B:List MA) (k:Kd) (rcs:List C):Prop where
 has:Ht P f
 run:∀ (w:World) (S:ac) (V:Nat->ac) (vs:List Value),(∀ b o,S b o->b<w.heap.size)->(∀ i b o,V i b o->b<w.heap.size/\¬S b o)->(∀ i i',i≠i'->∀ b o,V i b o->¬V i' b o)->K9 w S V A vs->
  Calls P f vs.toArray w fun e w1=>∃ v,e=.returned v/\bH (fun b o=>∃ i,V i b o) w w1/\∃ (X:ac) (V':Nat->ac) (S1:ac),
   (∀ b o,X b o->(∃ i,V i b o)\/(b<w1.heap.size/\w.heap.size<=b))/\(∀ i b o,V' i b o->(∃ i,V i b o)\/(b<w1.heap.size/\w.heap.size<=b))/\
   (∀ b o,S1 b o->(sh=true/\S b o)\/(∃ i,V i b o)\/(b<w1.heap.size/\w.heap.size<=b))/\
   (∀ i i',i≠i'->∀ b o,V' i b o->¬V' i' b o)/\(∀ i b o,X b o->¬V' i b o)/\(∀ b o,X b o->¬S1 b o)/\(∀ i b o,V' i b o->¬S1 b o)/\
   f7 w1 NO k rcs.length v/\cF w1 S1 X rcs (bS w1 k v)/\BL w1 (fun b o=>S b o\/S1 b o) V' B vs
inductive w6 where
 |no
 |at_ (t off:Nat) (st:cm)
 |box (t:Nat)
def lendAt (F:Nat->AV) (t off:Nat) (st:cm) (n:Nat) (K:(Nat->AV)->List C->Prop):Prop:=
 match F t with
 | .hold k bs=>(match st with
   | []=>bif Nat.ble (off+n) bs.length then fc (bq bs off n) fun cs=>fc (splice bs off (List.replicate n .x)) fun bs'=>K (updH F t k bs') cs else False
   | s::st=>Lq bs off (s::st) n fun cs bs'=>K (updH F t k bs') cs)
 | _=>False
def lendP:List (Operand × Nat)->((Nat->AV)->List (MA × w6)->Prop)->(Nat->AV)->Prop
 | [],K,F=>K F []
 | (_,0)::xs,K,F=>lendP xs (fun F' l=>K F' ((.val none [],.no)::l)) F
 | (x,1)::xs,K,F=>(match x with
   | .tmp s=>(match F s with
     | .hold .one _=>lendAt F s 0 [] 1 fun F1 cs=>lendP xs (fun F' l=>K F' ((.mut none cs,.at_ s 0 [])::l)) F1
     | .hold .agg cs0=>lendAt F s 0 [] cs0.length fun F1 cs=>lendP xs (fun F' l=>K F' ((.mut (some cs0.length) cs,.at_ s 0 [])::l)) F1
     | .bor t off st ag=>lendAt F t off st (ag.getD 1) fun F1 cs=>lendP xs (fun F' l=>K F' ((.mut ag cs,.at_ t off st)::l)) F1
     | _=>False)
   | _=>False)
 | (x,_+2)::xs,K,F=>(match x with
   | .tmp s=>(match F s with
     | .ref t 0 []=>(match F t with|.hold .box cs=>lendP xs (fun F' l=>K F' ((.ptr cs,.box t)::l)) (kill F t)|_=>False)
     | .hold .box cs=>lendP xs (fun F' l=>K F' ((.ptr cs,.box s)::l)) (kill F s)
     | _=>False)
   | _=>False)
def NG:C->C
 | .s (.tag _) rows=>.s .own rows
 | c=>c
def MT:List C->List C
 | []=>[]
 | c::cs=>NG c::MT cs
def Pi:MA->MA
 | .mut ag cs=>.mut ag (MT cs)
 | m=>m
def NW:C->C->C
 | .s (.tag z) _,.s .own rows=>.s (.tag z) rows
 | _,o=>o
def K8:List C->List C->List C
 | c::cs,o::os=>NW c o::K8 cs os
 | _,os=>os
def Pd:MA->List C
 | .val _ cs=>cs
 | .mut _ cs=>cs
 | .ptr cs=>cs
theorem An:∀ (cs:List C),MT cs=cs.map NG
 | []=>rfl
 | c::cs=>by simp[MT,An cs]
theorem pY:∀ (cs os:List C),(K8 cs os).length=os.length
 | [],os=>by cases os<;>rfl
 | c::cs,[]=>rfl
 | c::cs,o::os=>by simp[K8,pY cs os]
theorem F8:∀ {cs os:List C} {j:Nat} {c':C},(K8 cs os)[j]? = some c'->∃ o,os[j]? = some o/\(c'=o\/∃ z r rows,cs[j]? = some (.s (.tag z) r)/\o=.s .own rows/\c'=.s (.tag z) rows)
 | [],os,j,c',h=>by
  have:K8 [] os=os:=by cases os<;>rfl
  rw[this]at h;exact⟨c',h,.inl rfl⟩
 | c::cs,[],j,c',h=>by simp[K8]at h
 | c::cs,o::os,0,c',h=>by
  simp only[K8,List.getElem?_cons_zero,T0]at h;refine⟨o,rfl,?_⟩;unfold NW at h;split at h
  ·rename_i z r rows
   exact .inr ⟨z,r,rows,rfl,rfl,h.symm⟩
  ·exact .inl h.symm
 | c::cs,o::os,j+1,c',h=>by
  simp only[K8,List.getElem?_cons_succ]at h |-;exact F8 h
theorem dP.ut {w:World} {S Y:ac} {c:C} {v:Value} (h:dP w S Y c v):dP w S Y (NG c) v:=by
 cases c with
 | s o rows=>
  cases o with
  | tag z=>
   cases h with
   | nil _ o a ho=>exact .nil _ _ _ trivial
   | own _ o g k n cap rows u f ho hn hk hcap hpos hF hu hf hd hc=>exact .own _ _ g k n cap rows u f trivial hn hk hcap hpos hF hu hf hd hc
  | _=>exact h
 | _=>exact h
theorem dP.tagOf {w:World} {S Y:ac} {z v:Value} {rows:List (List C)} (h:dP w S Y (.s (.tag z) rows) v):z=v:=by
 cases h with
 | nil _ o a ho=>exact ho
 | own _ o g k n cap rows u f ho hn hk hcap hpos hF hu hf hd hc=>exact ho
theorem dP.rt {w:World} {S Y:ac} {z v:Value} {rows:List (List C)} (h:dP w S Y (.s .own rows) v) (hz:z=v):dP w S Y (.s (.tag z) rows) v:=by
 cases h with
 | nil _ o a ho=>exact .nil _ _ _ hz
 | own _ o g k n cap rows u f ho hn hk hcap hpos hF hu hf hd hc=>exact .own _ _ g k n cap rows u f hz hn hk hcap hpos hF hu hf hd hc
theorem cF.ut {w:World} {S Y:ac} {cs:List C} {u:Nat->Value} (h:cF w S Y cs u):cF w S Y (MT cs) u:=by
 obtain⟨f,h1,h2,h3⟩:=h;rw[An];refine⟨f,fun j c hj=>?_,fun j hj=>h2 j (by simpa using hj),fun j j' hj hj'=>h3 j j' (by simpa using hj) (by simpa using hj')⟩;rw[O2]at hj;cases hc:cs[j]? with
 | none=>rw[hc]at hj;cases hj
 | some c0=>
  rw[hc]at hj;simp only[Y3,T0]at hj;subst hj;exact(h1 j c0 hc).ut
theorem cF.rt {w w1:World} {S S' Y Y':ac} {cs os:List C} {u u':Nat->Value} (h:cF w S Y cs u) (h':cF w1 S' Y' os u') (hu:∀ d,d<os.length->u' d=u d):cF w1 S' Y' (K8 cs os) u':=by
 obtain⟨f,h1,h2,h3⟩:=h;obtain⟨f',h1',h2',h3'⟩:=h';refine⟨f',fun j c hj=>?_,fun j hj=>h2' j (by rwa [pY]at hj),fun j j' hj hj'=>h3' j j' (by rwa [pY]at hj) (by rwa [pY]at hj')⟩;obtain⟨o,ho,h4⟩:=F8 hj;have hjl:=(R1.1 ho).1;rcases h4 with rfl|⟨z,r,rows,e1,rfl,rfl⟩
 ·exact h1' j _ ho
 ·exact(h1' j _ ho).rt ((h1 j _ e1).tagOf.trans (hu j hjl).symm)
def valsP (F:Nat->AV):List (MA × w6)->List Operand->(Bool->List MA->Prop)->Prop
 | [],[],K=>K true []
 | (_,.no)::l,x::xs,K=>gE F (lA F x) fun ag cs=>valsP F l xs fun b A=>bif aV cs then K b (.val ag cs::A) else K false (.val ag (d3 cs)::A)
 | (m,.at_ _ _ _)::l,_::xs,K=>valsP F l xs fun b A=>K b (Pi m::A)
 | (m,.box _)::l,_::xs,K=>valsP F l xs fun b A=>K b (m::A)
 | _,_,_=>False
def setH (F:Nat->AV) (t:Nat) (av:AV):Nat->AV:=fun s=>bif Nat.beq s t then av else F s
def w6.slot:w6->List Nat
 | .no=>[]
 | .at_ t _ _=>[t]
 | .box t=>[t]
def uI:List (MA × w6)->Bool
 | []=>true
 | q::l=>(q.2.slot.all fun t=>l.all fun q'=>!q'.2.slot.any (Nat.beq t))&&uI l
def iq:List (MA × w6)->List MA->((Nat->AV)->Prop)->(Nat->AV)->Prop
 | [],[],K,F=>K F
 | (_,.no)::l,_::B,K,F=>iq l B K F
 | (m,.at_ t off st)::l,.mut _ out::B,K,F=>(match F t with
   | .hold k bs=>(match st with
     | []=>bif Nat.ble (off+out.length) bs.length then fc (splice bs off (K8 (Pd m) out)) fun bs'=>iq l B K (updH F t k bs') else False
     | s::st=>Pu bs off (s::st) out fun bs'=>iq l B K (updH F t k bs'))
   | _=>False)
 | (_,.box t)::l,.ptr out::B,K,F=>(match F t with
   | .dead=>iq l B K (setH F t (.hold .box out))
   | _=>False)
 | _,_,_,_=>False
def Bh:List MA->Prop
 | []=>True
 | .val _ _::B=>Bh B
 | .mut _ cs::B=>gk cs/\Bh B
 | .ptr cs::B=>gk cs/\Bh B
inductive cu (P:Program) (f:Nat) (b:Bool) (A:List MA) (K:Kd->List C->List MA->Prop):Prop
 |mk_ (h:∃ sh B k rcs,aS P f sh A B k rcs/\(b=true\/(sh=false/\Bh B))/\K k rcs B)
theorem cu.mk {P:Program} {f:Nat} {b sh:Bool} {A B:List MA} {k:Kd} {rcs:List C} {K:Kd->List C->List MA->Prop} (h:aS P f sh A B k rcs) (hb:b=true\/(sh=false/\Bh B)) (hK:K k rcs B):cu P f b A K:=by refine .mk_ ?_;exact⟨sh,B,k,rcs,h,hb,hK⟩
theorem cu.out {P:Program} {f:Nat} {b:Bool} {A:List MA} {K:Kd->List C->List MA->Prop} (h:cu P f b A K):∃ sh B k rcs,aS P f sh A B k rcs/\(b=true\/(sh=false/\Bh B))/\K k rcs B:=by obtain⟨h⟩:=h;exact h
def n7 (P:Program) (N:eL) (F:Nat->AV) (d:Option Nat) (f:Nat) (args:List Operand) (modes:List Nat) (K:(Nat->AV)->Prop):Prop:=
 lendP (args.zip modes) (fun F' l=>bif uI l&&Nat.beq args.length modes.length then valsP F' l args fun b A=>cu P f b A fun k rcs B=>iq l B (fun F''=>match d with|some d=>bL N F'' d (.hold k rcs) K|none=>K F'') F' else False) F
def DU (F:Nat->AV) (x:Operand) (K:Nat->Nat->Prop):Prop:=
 match x with
 | .tmp s=>(match F s with
   | .ref t off []=>K t off
   | _=>False)
 | _=>False
def Bk (N:eL) (F:Nat->AV) (d:Option Nat) (t:Nat) (cs:List C) (o0 n0 o1 n1:Nat) (K:(Nat->AV)->Prop) (k:Kd) (rcs:List C):List MA->Prop
 | [.ptr c0',.ptr c1']=>bif Nat.beq c0'.length n0&&Nat.beq c1'.length n1 then fc (splice (splice cs o0 c0') o1 c1') fun cs'=>(match d with|some d=>bL N (setH (kill F t) t (.hold .box cs')) d (.hold k rcs) K|none=>K (setH (kill F t) t (.hold .box cs'))) else False
 | _=>False
def lM (P:Program) (N:eL) (F:Nat->AV) (d:Option Nat) (f:Nat) (args:List Operand) (n0 n1:Nat) (K:(Nat->AV)->Prop):Prop:=
 match args with
 | [x0,x1]=>DU F x0 fun t o0=>DU F x1 fun t' o1=>(match F t with
   | .hold .box cs=>bif Nat.beq t' t&&Nat.ble (o0+n0) o1&&Nat.ble (o1+n1) cs.length then fc (bq cs o0 n0) fun c0=>fc (bq cs o1 n1) fun c1=>cu P f true [.ptr c0,.ptr c1] fun k rcs B=>Bk N F d t cs o0 n0 o1 n1 K k rcs B else False
   | _=>False)
 | _=>False
def N0:List Nat->Option (Nat × Nat)
 | []=>none
 | m::l=>bif Nat.beq m 3 then(match l with
   | []=>none
   | n0::l=>(match l with
     | []=>none
     | n1::_=>some (n0,n1))) else none
def lH (P:Program) (N:eL) (F:Nat->AV) (d:Option Nat) (f:Nat) (args:List Operand) (modes:List Nat) (K:(Nat->AV)->Prop):Prop:=
 match N0 modes with
 | some p=>lM P N F d f args p.1 p.2 K
 | none=>n7 P N F d f args modes K
section
variable {P:Program} {w0 w w1:World} {M S0 S:ac} {N:eL} {φ:Nat->ac} {F:Nat->AV} {a:Act} {TE:Nat->Option TI}
theorem bh.addS (h:bh w0 M S0 N S φ F a w) {V S':ac} (hV:Free w0 M S φ w V) (hSS:∀ b o,S b o->S' b o) (hS':∀ b o,S' b o->S b o\/V b o):bh w0 M S0 N S' φ F a w:=by
 refine⟨fun t=>(h.slot t).keep (φ:=φ) (fun t _ _ _=>h.slot t) (fun t _=>⟨fun _ _ h=>h,rfl,fun _ _ _=>⟨rfl,rfl⟩⟩) (fun _ _ _=>⟨rfl,rfl⟩) (fun _ _ _=>⟨rfl,rfl⟩) (fun _ _ h=>h) hSS,h.dis,fun t b o hb hS=>?_,h.ex,fun b o hb=>hSS b o (h.sub b o hb),fun b o hb=>?_,h.old,h.size,h.defers,h.par⟩
 ·rcases hS' b o hS with hS|hS
  ·exact h.disS t b o hb hS
  ·exact(hV b o hS).1 t hb
 ·rcases hS' b o hb with hb|hb
  ·exact h.sup b o hb
  ·exact⟨(hV b o hb).2.2.1,.inr (hV b o hb).2.2.2⟩
theorem G0 (F:Nat->AV) (t:Nat) (av:AV):setH F t av t=av:=by simp[setH]
theorem pA (F:Nat->AV) {t s:Nat} (av:AV) (h:s≠t):setH F t av s=F s:=by
 have:Nat.beq s t=false:=by rw[<-t4,Nat.beq_eq];exact h
 simp[setH,this]
theorem bh.revive (h:bh w0 M S0 N S φ F a w) {t:Nat} (hF:F t=.dead) {k:Kd} {cs:List C} {X:ac} (hX:Free w0 M S φ w X) (hs:cn w S F (tvs a) X (.hold k cs) (tvs a t)) :
  bh w0 M S0 N S (fun s=>if s=t then X else φ s) (setH F t (.hold k cs)) a w:=by
 have hno:∀ s,(F s).uses t=true->cn w S (setH F t (.hold k cs)) (tvs a) (φ s) (F s) (tvs a s):=fun s hu=>by
  have hsl:=h.slot s;cases hFs:F s with
  | dead=>rw[hFs]at hu;cases hu
  | hold=>rw[hFs]at hu;cases hu
  | iref=>rw[hFs]at hu;cases hu
  | ref t' off st=>
   rw[hFs]at hu hsl;have:t'=t:=by simpa[AV.uses] using hu
   subst this;obtain⟨k,cs,r,j,g,o,h1,-⟩:=hsl;rw[hF]at h1;cases h1
  | bor t' off st ag=>
   rw[hFs]at hu hsl;have:t'=t:=by simpa[AV.uses] using hu
   subst this;obtain⟨k,cs,r,j,h1,-⟩:=hsl;rw[hF]at h1;cases h1
  | fn f caps=>rw[hFs]at hsl;exact hsl
  | fv Ok=>rw[hFs]at hsl;exact hsl
 refine⟨fun s=>?_,fun s s' hne b o hb hb'=>?_,fun s b o hb=>?_,fun s b o hb=>?_,h.sub,h.sup,h.old,h.size,h.defers,h.par⟩
 ·by_cases hst:s=t
  ·subst hst
   rw[G0,if_pos rfl];exact hs
  ·rw[pA _ _ hst,if_neg hst]
   cases hu:(F s).uses t with
   | true=>exact hno s hu
   | false=>
    refine(h.slot s).keep (φ:=φ) (fun t _ _ _=>h.slot t) (fun t' hu'=>?_) (fun _ _ _=>⟨rfl,rfl⟩) (fun _ _ _=>⟨rfl,rfl⟩) (fun _ _ h=>h) (fun _ _ h=>h);have hne:t'≠t:=fun e=>by subst e;rw[hu]at hu';cases hu'
    exact⟨fun k cs he=>by rw[pA _ _ hne];exact he,rfl,fun _ _ _=>⟨rfl,rfl⟩⟩
 ·by_cases e:s=t
  ·rw[if_pos e]at hb
   by_cases e':s'=t
   ·exact hne (e.trans e'.symm)
   ·rw[if_neg e']at hb';exact(hX b o hb).1 s' hb'
  ·rw[if_neg e]at hb
   by_cases e':s'=t
   ·rw[if_pos e']at hb';exact(hX b o hb').1 s hb
   ·rw[if_neg e']at hb';exact h.dis s s' hne b o hb hb'
 ·split at hb
  ·exact(hX b o hb).2.1
  ·exact h.disS s b o hb
 ·split at hb
  ·exact(hX b o hb).2.2
  ·exact h.ex s b o hb
def dK (F F':Nat->AV):Prop:=∀ s k cs,F' s=.hold k cs->∃ cs0,F s=.hold k cs0
theorem dK.trans {F F' F'':Nat->AV} (h:dK F F') (h':dK F' F''):dK F F'':=fun s k cs e=>by obtain⟨c1,e1⟩:=h' s k cs e;exact h s k c1 e1
theorem oF {t:Nat} {k:Kd} {bs bs':List C} (hF:F t=.hold k bs):dK F (updH F t k bs'):=fun s k2 cs e=>by
 by_cases h:s=t
 ·subst h;rw[gd]at e;cases e;exact⟨bs,hF⟩
 ·rw[eA _ _ _ h]at e
  cases hFs:F s with
  | hold k3 cs3=>rw[hFs]at e;simp only[qh]at e;cases e;exact⟨_,rfl⟩
  | dead=>rw[hFs]at e;cases e
  | iref=>rw[hFs]at e;cases e
  | fn=>rw[hFs]at e;cases e
  | fv=>rw[hFs]at e;cases e
  | bor t' off st ag=>rw[hFs]at e;simp only[qh]at e;cases hb:Nat.beq t' t<;>rw[hb]at e<;>cases e
  | ref t' off st=>
   rw[hFs]at e;cases st with
   | nil=>cases e
   | cons s st=>simp only[qh]at e;cases hb:Nat.beq t' t<;>rw[hb]at e<;>cases e
theorem xE (t:Nat):dK F (kill F t):=fun s k2 cs e=>by
 by_cases h:s=t
 ·subst h;rw[l8]at e;cases e
 ·rw[gG _ h]at e
  cases hF:F s with
  | hold k c=>rw[hF]at e;cases e;exact⟨_,rfl⟩
  | ref t' off st=>rw[hF]at e;simp only[KB]at e;cases hb:Nat.beq t' t<;>rw[hb]at e<;>cases e
  | bor t' off st ag=>rw[hF]at e;simp only[KB]at e;cases hb:Nat.beq t' t<;>rw[hb]at e<;>cases e
  | _=>rw[hF]at e;cases e
theorem bh.lendAt (h:bh w0 M S0 N S φ F a w) {t off n:Nat} {st:cm} {K:(Nat->AV)->List C->Prop} (hp:Ab.lendAt F t off st n K) :
  ∃ k bs V φ' F' cs,F t=.hold k bs/\K F' cs/\cs.length=n/\cF w S V cs (fun d=>cellv w (bS w k (tvs a t)) off st d)/\bh w0 M S0 N S φ' F' a w/\Free w0 M S φ' w V/\(∀ s b o,φ' s b o->φ s b o)/\(∀ b o,V b o->φ t b o)/\dK F F':=by
 unfold Ab.lendAt at hp;split at hp
 case h_2=>exact hp.elim
 rename_i k bs hF;split at hp
 ·cases hb:Nat.ble (off+n) bs.length with
  | false=>rw[hb]at hp;exact hp.elim
  | true=>
   rw[hb]at hp;simp only[cond_true,di]at hp;have hle:=W0 hb;obtain⟨V,φ',e1,e2,e3,e4,e5⟩:=h.lend (st:=[]) (off:=off) (j:=off) (n:=n) hF rfl trivial hle;exact⟨k,bs,V,φ',_,_,hF,hp,by simp[bq];omega,e1,e2,e3,e4,e5,oF hF⟩
 ·obtain⟨r,j,h1,h2,h3,hK⟩:=hp.out
  obtain⟨V,φ',e1,e2,e3,e4,e5⟩:=h.lend hF h1 h2 h3;exact⟨k,bs,V,φ',_,_,hF,hK,by simp[bq];omega,e1,e2,e3,e4,e5,oF hF⟩
def Dx (w:World) (S:ac) (a:Act) (F0:Nat->AV) (V:ac) (m:MA) (p:w6) (v:Value):Prop:=
 match p with
 | .no=>∀ b o,¬V b o
 | .at_ t off st=>∃ ag cs,m=.mut ag cs/\bN w S V ag cs v/\∃ k cs0,F0 t=.hold k cs0/\v=mkv ag (cellv w (bS w k (tvs a t)) off st)
 | .box t=>∃ cs,m=.ptr cs/\ou w S V m v/\v=tvs a t
def oC (w:World) (S:ac) (a:Act) (F0:Nat->AV):(Nat->ac)->List (MA × w6)->List Value->Prop
 | _,[],[]=>True
 | V,q::l,v::vs=>Dx w S a F0 (V 0) q.1 q.2 v/\oC w S a F0 (fun i=>V (i+1)) l vs
 | _,_,_=>False
theorem Dx.back {F F1:Nat->AV} {V:ac} {m:MA} {p:w6} {v:Value} (h:Dx w S a F1 V m p v) (hb:dK F F1):Dx w S a F V m p v:=by
 cases p with
 | no=>exact h
 | at_ t off st=>obtain⟨ag,cs,h1,h2,k,cs0,h3,h4⟩:=h;obtain⟨c1,e1⟩:=hb t k cs0 h3;exact⟨ag,cs,h1,h2,k,c1,e1,h4⟩
 | box t=>exact h
theorem oC.back {F F1:Nat->AV} (hb:dK F F1):∀ {l:List (MA × w6)} {V:Nat->ac} {vs:List Value},oC w S a F1 V l vs->oC w S a F V l vs
 | [],_,[],_=>trivial
 | _::_,_,_::_,h=>⟨h.1.back hb,h.2.back hb⟩
 | [],_,_::_,h=>h.elim
 | _::_,_,[],h=>h.elim
def HH (V0:ac) (V:Nat->ac):Nat->ac
 | 0=>V0
 | i+1=>V i
theorem bh.lendP:∀ {xs:List (Operand × Nat)} {K:(Nat->AV)->List (MA × w6)->Prop} {F:Nat->AV} {φ:Nat->ac},bh w0 M S0 N S φ F a w->Ab.lendP xs K F->
  ∃ F' l φ' V,K F' l/\bh w0 M S0 N S φ' F' a w/\(∀ s b o,φ' s b o->φ s b o)/\(∀ i,Free w0 M S φ' w (V i))/\(∀ i b o,V i b o->∃ t,φ t b o)/\(∀ i i',i≠i'->∀ b o,V i b o->¬V i' b o)/\dK F F'/\oC w S a F V l (xs.map fun x=>a.eval x.1)
 | [],K,F,φ,h,hp=>⟨F,[],φ,fun _=>NO,hp,h,fun _ _ _ h=>h,fun _ _ _ h=>h.elim,fun _ _ _ h=>h.elim,fun _ _ _ _ _ h=>h.elim,fun s k cs e=>⟨cs,e⟩,trivial⟩
 | (x,m)::xs,K,F,φ,h,hp=>by
  have fin:∀ (F1:Nat->AV) (φ1:Nat->ac) (V0:ac) (q:MA × w6),Dx w S a F V0 q.1 q.2 (a.eval x)->bh w0 M S0 N S φ1 F1 a w->(∀ s b o,φ1 s b o->φ s b o)->Free w0 M S φ1 w V0->(∀ b o,V0 b o->∃ t,φ t b o)->dK F F1->Ab.lendP xs (fun F' l=>K F' (q::l)) F1->
    ∃ F' l φ' V,K F' l/\bh w0 M S0 N S φ' F' a w/\(∀ s b o,φ' s b o->φ s b o)/\(∀ i,Free w0 M S φ' w (V i))/\(∀ i b o,V i b o->∃ t,φ t b o)/\(∀ i i',i≠i'->∀ b o,V i b o->¬V i' b o)/\dK F F'/\oC w S a F V l (((x,m)::xs).map fun x=>a.eval x.1):=by
   intro F1 φ1 V0 q hq h1 hle hV0 hV0t hb hp;obtain⟨F',l,φ',V,e1,e2,e3,e4,e5,e6,e7,e8⟩:=bh.lendP h1 hp;refine⟨F',q::l,φ',HH V0 V,e1,e2,fun s b o hb=>hle s b o (e3 s b o hb),fun i=>?_,fun i b o hi=>?_,fun i i' hne b o hi hi'=>?_,hb.trans e7,hq,e8.back hb⟩
   ·cases i with
    | zero=>exact hV0.less e3
    | succ i=>exact e4 i
   ·cases i with
    | zero=>exact hV0t b o hi
    | succ i=>obtain⟨t,ht⟩:=e5 i b o hi;exact⟨t,hle t b o ht⟩
   ·cases i with
    | zero=>
     cases i' with
     | zero=>exact hne rfl
     | succ i'=>obtain⟨t,ht⟩:=e5 i' b o hi';exact(hV0 b o hi).1 t ht
    | succ i=>
     cases i' with
     | zero=>obtain⟨t,ht⟩:=e5 i b o hi;exact(hV0 b o hi').1 t ht
     | succ i'=>exact e6 i i' (fun e=>hne (by rw[e])) b o hi hi'
  have box:∀ t cs,F t=.hold .box cs->a.eval x=tvs a t->Ab.lendP xs (fun F' l=>K F' ((.ptr cs,.box t)::l)) (kill F t)->
    ∃ F' l φ' V,K F' l/\bh w0 M S0 N S φ' F' a w/\(∀ s b o,φ' s b o->φ s b o)/\(∀ i,Free w0 M S φ' w (V i))/\(∀ i b o,V i b o->∃ t,φ t b o)/\(∀ i i',i≠i'->∀ b o,V i b o->¬V i' b o)/\dK F F'/\oC w S a F V l (((x,m)::xs).map fun x=>a.eval x.1):=by
   intro t cs hF hv hp;have hs:=h.slot t;rw[hF]at hs;obtain⟨X1,Y,h1,h2,h3,h4,h5⟩:=hs;refine fin _ _ (φ t) (.ptr cs,.box t) ⟨cs,rfl,⟨X1,Y,h1,h2,h3,by rw[hv];exact h4,by rw[hv];exact h5⟩,hv⟩ (h.forget t) (fun s b o hb=>?_) (fun b o hb=>⟨fun s hs=>?_,h.disS t b o hb,h.ex t b o hb⟩) (fun b o hb=>⟨t,hb⟩) (xE t) hp
   ·replace hb:(if s=t then NO else φ s) b o:=hb
    split at hb
    ·exact hb.elim
    ·exact hb
   ·replace hs:(if s=t then NO else φ s) b o:=hs
    split at hs
    ·exact hs.elim
    ·rename_i hne;exact h.dis s t hne b o hs hb
  have at_:∀ t off st ag n (K':(Nat->AV)->List C->Prop),n=ag.getD 1->(∀ k bs,F t=.hold k bs->a.eval x=mkv ag (cellv w (bS w k (tvs a t)) off st))->Ab.lendAt F t off st n (fun F1 cs=>Ab.lendP xs (fun F' l=>K F' ((.mut ag cs,.at_ t off st)::l)) F1)->
    ∃ F' l φ' V,K F' l/\bh w0 M S0 N S φ' F' a w/\(∀ s b o,φ' s b o->φ s b o)/\(∀ i,Free w0 M S φ' w (V i))/\(∀ i b o,V i b o->∃ t,φ t b o)/\(∀ i i',i≠i'->∀ b o,V i b o->¬V i' b o)/\dK F F'/\oC w S a F V l (((x,m)::xs).map fun x=>a.eval x.1):=by
   intro t off st ag n K' hn hv hp;obtain⟨k,bs,V0,φ1,F1,cs,e1,e2,e3,e4,e5,e6,e7,e8,e9⟩:=h.lendAt hp;have hvx:=hv k bs e1;exact fin F1 φ1 V0 (.mut ag cs,.at_ t off st) ⟨ag,cs,rfl,⟨by rw[e3,hn],_,hvx,e4⟩,k,bs,e1,hvx⟩ e5 e7 e6 (fun b o hb=>⟨t,e8 b o hb⟩) e9 e2
  match m,hp with
  | 0,hp=>exact fin F φ NO (.val none [],.no) (fun _ _ h=>h) h (fun _ _ _ h=>h) (fun _ _ h=>h.elim) (fun _ _ h=>h.elim) (fun s k cs e=>⟨cs,e⟩) hp
  | 1,hp=>
   simp only[Ab.lendP]at hp;split at hp
   case h_2=>exact hp.elim
   rename_i s _;have hs:=h.slot s;split at hp
   ·rename_i cs0 hF
    exact at_ s 0 [] none 1 (fun _ _=>True) rfl (fun k bs hk=>by rw[hF]at hk;cases hk;rfl) hp
   ·rename_i cs0 hF
    rw[hF]at hs;obtain⟨X1,Y,-,-,-,⟨arr,hv,hsz⟩,-⟩:=hs;refine at_ s 0 [] (some cs0.length) cs0.length (fun _ _=>True) rfl (fun k bs hk=>?_) hp;rw[hF]at hk;cases hk;show tvs a s=_;rw[hv];have:=oq arr;rw[hsz]at this;exact this.trans (gH fun j _=>by simp[cellv,bS,Value.cells])
   ·rename_i t off st ag hF
    rw[hF]at hs;obtain⟨k,cs,r,j,h1,h2,h3,h4⟩:=hs;refine at_ t off st ag _ (fun _ _=>True) rfl (fun k' bs hk=>?_) hp;rw[h1]at hk;cases hk;exact h4
   ·exact hp.elim
  | n+2,hp=>
   simp only[Ab.lendP]at hp;split at hp
   case h_2=>exact hp.elim
   rename_i s _;have hs:=h.slot s;split at hp
   ·rename_i t hF
    rw[hF]at hs;obtain⟨k,cs,r,j,g,o,h1,h2,h3,h4⟩:=hs;split at hp
    ·rename_i cs2 hF2
     rw[hF2]at h1;simp only[AV.hold.injEq]at h1;obtain⟨rfl,rfl⟩:=h1;have ht:=h.slot t;rw[hF2]at ht;obtain⟨X1,Y,-,-,-,⟨g',o',hv,-⟩,-⟩:=ht;refine box t _ hF2 ?_ hp;show tvs a s=tvs a t;rw[hv]at h3 |-;simp only[plc,mX,Y3,T0,Prod.mk.injEq,Nat.add_zero]at h3;rw[h4,<-h3.1,<-h3.2]
    ·exact hp.elim
   ·rename_i cs2 hF
    exact box s cs2 hF rfl hp
   ·exact hp.elim
theorem ou.mono {S S' V:ac} {m:MA} {v:Value} (h:ou w S V m v) (hS:∀ b o,S b o->S' b o):ou w S' V m v:=by
 cases m with
 | val ag cs=>exact bN.mono h hS (fun _ _ h=>h)
 | «mut» ag cs=>exact bN.mono h hS (fun _ _ h=>h)
 | ptr cs=>obtain⟨X1,Y,h1,h2,h3,h4,h5⟩:=h;exact⟨X1,Y,h1,h2,h3,h4,h5.mono hS (fun _ _ h=>h)⟩
theorem bh.valsP (h:bh w0 M S0 N S φ F a w) {F0:Nat->AV} : ∀ {l:List (MA × w6)} {xs:List Operand} {K:Bool->List MA->Prop} {V:Nat->ac},oC w S a F0 V l (xs.map a.eval)->Ab.valsP F l xs K->
  ∃ b A,K b A/\K9 w (lV S φ) V A (xs.map a.eval)/\(b=true->K9 w S V A (xs.map a.eval))
 | [],[],K,V,_,hp=>⟨true,[],hp,trivial,fun _=>trivial⟩
 | (m,.no)::l,x::xs,K,V,hl,hp=>by
  obtain⟨ag,cs,Y,hK,hv,hY⟩:=h.val (h.ev x) hp;obtain⟨b,A,hK,h1,h2⟩:=bh.valsP h hl.2 hK;have hY':∀ b o,Y b o->lV S φ b o:=fun b o hb=>by
   rcases hY b o hb with hb|hb
   ·cases x with
    | tmp t=>exact .inr ⟨t,hb⟩
    | _=>exact hb.elim
   ·exact .inr hb
  cases hn:aV cs with
  | true=>rw[hn]at hK;exact⟨b,_,hK,⟨(hv.bare hn).mono (fun _ _ h=>.inl h) (fun _ _ h=>h),h1⟩,fun hb=>⟨hv.bare hn,h2 hb⟩⟩
  | false=>rw[hn]at hK;exact⟨false,_,hK,⟨hv.freeze.mono (fun b o h=>h.elim .inl (hY' b o)) (fun _ _ h=>h),h1⟩,fun hb=>by cases hb⟩
 | (m,.at_ t off st)::l,x::xs,K,V,hl,hp=>by
  obtain⟨b,A,hK,h1,h2⟩:=bh.valsP h hl.2 hp;obtain⟨ag,cs,rfl,⟨e1,u,e2,e3⟩,-⟩:=hl.1;have hv:bN w S (V 0) ag (MT cs) (a.eval x):=⟨by rw[An];simpa using e1,u,e2,e3.ut⟩
  exact⟨b,_,hK,⟨hv.mono (fun _ _ h=>.inl h) (fun _ _ h=>h),h1⟩,fun hb=>⟨hv,h2 hb⟩⟩
 | (m,.box t)::l,x::xs,K,V,hl,hp=>by
  obtain⟨b,A,hK,h1,h2⟩:=bh.valsP h hl.2 hp;obtain⟨cs,rfl,hv,-⟩:=hl.1;exact⟨b,_,hK,⟨hv.mono (fun _ _ h=>.inl h),h1⟩,fun hb=>⟨hv,h2 hb⟩⟩
theorem Lz {ag:Option Nat} {u u':Nat->Value} (h:mkv ag u=mkv ag u'):∀ d,d<ag.getD 1->u d=u' d:=by
 cases ag with
 | none=>
  intro d hd;simp only[Option.getD_none]at hd;have:d=0:=by omega
  subst this;exact h
 | some n=>
  intro d hd;simp only[Option.getD_some]at hd;simp only[mkv,Value.agg.injEq]at h;have h2:=R0 Array.toList h;have h3:=R0 (fun l=>l[d]?) h2;simpa[hd] using h3
theorem HF {t:Nat} {v:AV} {k:Kd} {cs:List C} (h:qh t v=.hold k cs):v=.hold k cs:=by
 cases v with
 | hold=>exact h
 | dead=>cases h
 | iref=>cases h
 | fn=>cases h
 | fv=>cases h
 | bor t' off st ag=>simp only[qh]at h;cases hb:Nat.beq t' t<;>rw[hb]at h<;>cases h
 | ref t' off st=>
  cases st with
  | nil=>cases h
  | cons s st=>simp only[qh]at h;cases hb:Nat.beq t' t<;>rw[hb]at h<;>cases h
theorem bh.rest {φ':Nat->ac} {F' F0:Nat->AV} {S':ac} {Vall:ac} (hw:bh w0 M S0 N S φ' F' a w) (hk:bH Vall w w1) (hVall:Free w0 M S φ' w Vall) (hb:dK F0 F') :
  ∀ {l:List (MA × w6)} {B:List MA} {vs:List Value} {V V':Nat->ac} {K:(Nat->AV)->Prop} {F:Nat->AV} {φ:Nat->ac},bh w0 M S0 N S' φ F a w1->oC w S a F0 V l vs->BL w1 S' V' B vs->(∀ q,q∈l->∀ t,t∈q.2.slot->∀ k cs,F t=.hold k cs->F' t=.hold k cs)->
   (∀ i,Free w0 M S' φ w1 (V' i))->(∀ i i',i≠i'->∀ b o,V' i b o->¬V' i' b o)->uI l=true->iq l B K F->∃ F2 φ2,K F2/\bh w0 M S0 N S' φ2 F2 a w1/\∀ s b o,φ2 s b o->φ s b o\/∃ i,V' i b o
 | [],B,vs,V,V',K,F,φ,h,hl,hm,hkeep,hf,hd,hdist,hp=>by
  cases B with
  | nil=>exact⟨F,φ,hp,h,fun _ _ _ h=>.inl h⟩
  | cons _ _=>exact hp.elim
 | (m,p)::l,B,vs,V,V',K,F,φ,h,hl,hm,hkeep,hf,hd,hdist,hp=>by
  cases vs with
  | nil=>exact hl.elim
  | cons v vs=>
   cases B with
   | nil=>exact hm.elim
   | cons m' B=>
    simp only[uI,I0]at hdist;have next:∀ (F1:Nat->AV) (φ1:Nat->ac),bh w0 M S0 N S' φ1 F1 a w1->(∀ s b o,φ1 s b o->φ s b o\/V' 0 b o)->(∀ q,q∈l->∀ t,t∈q.2.slot->∀ k cs,F1 t=.hold k cs->F' t=.hold k cs)->iq l B K F1->
      ∃ F2 φ2,K F2/\bh w0 M S0 N S' φ2 F2 a w1/\∀ s b o,φ2 s b o->φ s b o\/∃ i,V' i b o:=by
     intro F1 φ1 h1 hle hkeep1 hp1;obtain⟨F2,φ2,e1,e2,e3⟩:=bh.rest hw hk hVall hb (V':=fun i=>V' (i+1)) h1 hl.2 hm.2 hkeep1 (fun i b o hi=>⟨fun t ht=>(hle t b o ht).elim ((hf (i+1) b o hi).1 t) (fun h0=>hd 0 (i+1) (by omega) b o h0 hi),(hf (i+1) b o hi).2⟩) (fun i i' hne=>hd (i+1) (i'+1) (by omega)) hdist.2 hp1;exact⟨F2,φ2,e1,e2,fun s b o hs=>(e3 s b o hs).elim (fun h=>(hle s b o h).imp id (fun h=>⟨0,h⟩)) (fun⟨i,h⟩=>.inr ⟨i+1,h⟩)⟩
    have hne:∀ t,t∈p.slot->∀ q,q∈l->∀ t',t'∈q.2.slot->t'≠t:=fun t ht q hq t' ht' e=>by
     have h1:=v3.1 (v3.1 hdist.1 t ht) q hq;have h2:q.2.slot.any (Nat.beq t)=true:=Z2.2 ⟨t',ht',by rw[e];exact Nat.beq_refl t⟩;rw[h2]at h1;cases h1
    cases p with
    | no=>exact next F φ h (fun _ _ _ h=>.inl h) (fun q hq=>hkeep q (Z3 _ hq)) (by cases m'<;>exact hp)
    | at_ t off st=>
     obtain⟨ag,cs,rfl,hv,k0,cs0,hF0,hvv⟩:=hl.1;cases m' with
     | val=>exact hp.elim
     | ptr=>exact hp.elim
     | «mut» ag' out=>
      simp only[iq]at hp;obtain⟨u',hu',hr'⟩:=bN.cells (show bN w1 S' (V' 0) ag' out v from hm.1);have hone:ag=none->(cellv w (bS w k0 (tvs a t)) off st 0).oneCell'=true:=fun e=>by
       subst e;obtain⟨hl1,u1,hv1,hr1⟩:=hv;have:cellv w (bS w k0 (tvs a t)) off st 0=u1 0:=hvv.symm.trans hv1;rw[this];exact hr1.one (by simp at hl1;omega)
      have hcv:=nJ hone;rw[<-hvv,hu']at hcv;have hlen:out.length=ag.getD 1:=by have:=R0 List.length hcv;simpa using this
      have heq:∀ d,d<out.length->u' d=cellv w (bS w k0 (tvs a t)) off st d:=fun d hd=>by
       have:=R0 (fun l=>l[d]?) hcv;simpa[hd,<-hlen] using this
      cases hF:F t with
      | hold k bs=>
       rw[hF]at hp;have hF':=hkeep (.mut ag cs,.at_ t off st) (I1 ..) t (by simp[w6.slot]) k bs hF;have hkk:k0=k:=by
        obtain⟨c1,e1⟩:=hb t k bs hF';rw[hF0]at e1;simp only[AV.hold.injEq]at e1;exact e1.1
       subst hkk;have fin:∀ out',out'.length=out.length->cF w1 S' (V' 0) out' u'->∀ r j,bQ bs off st=some (r,j)->jd bs off st->j+out.length<=r.length->iq l B K (updH F t k0 (fe bs off st (splice r j out')))->∃ F2 φ2,K F2/\bh w0 M S0 N S' φ2 F2 a w1/\∀ s b o,φ2 s b o->φ s b o\/∃ i,V' i b o:=by
        intro out' hol hr' r j h1 h2 h3 hp;have hsame:=hw.cellv_same hF' h1 hk hVall;obtain⟨φ1,e1,e2⟩:=h.back hF h1 h2 (by rw[hol];exact h3) (hf 0) (hr'.congr fun d hd=>(hsame d (by omega)).trans (heq d (by omega)).symm);refine next _ φ1 e1 e2 (fun q hq t' ht' k cs hc=>?_) hp;have:=hne t (by simp[w6.slot]) q hq t' ht';rw[eA _ _ _ this]at hc;exact hkeep q (Z3 _ hq) t' ht' k cs (HF hc)
       cases st with
       | nil=>
        simp only at hp;cases hble:Nat.ble (off+out.length) bs.length with
        | false=>rw[hble]at hp;exact hp.elim
        | true=>
         rw[hble]at hp;simp only[cond_true,di]at hp;obtain⟨-,u0,hv0,hr0⟩:=hv;have hu0:∀ d,d<out.length->u' d=u0 d:=fun d hd=>by
          have e1:=Lz (hv0.symm.trans hvv) d (by omega);rw[e1];exact heq d hd
         exact fin _ (pY _ _) (hr0.rt hr' hu0) bs off rfl trivial (W0 hble) hp
       | cons s st=>
        simp only at hp;obtain⟨r,j,h1,h2,h3,hK⟩:=hp.out;exact fin out rfl hr' r j h1 h2 h3 hK
      | _=>rw[hF]at hp;exact hp.elim
    | box t=>
     obtain⟨cs,rfl,hv,hvv⟩:=hl.1;cases m' with
     | val=>exact hp.elim
     | «mut»=>exact hp.elim
     | ptr out=>
      simp only[iq]at hp;cases hF:F t with
      | dead=>
       rw[hF]at hp;obtain⟨X1,Y,h1,h2,h3,h4,h5⟩:=hm.1;refine next _ _ (h.revive hF (hf 0) ⟨X1,Y,h1,h2,h3,by rw[<-hvv];exact h4,by rw[<-hvv];exact h5⟩) (fun s b o hs=>?_) (fun q hq t' ht' k cs hc=>?_) hp
       ·replace hs:(if s=t then V' 0 else φ s) b o:=hs
        split at hs
        ·exact .inr hs
        ·exact .inl hs
       ·have:=hne t (by simp[w6.slot]) q hq t' ht'
        rw[pA _ _ this]at hc;exact hkeep q (Z3 _ hq) t' ht' k cs hc
      | _=>rw[hF]at hp;exact hp.elim
theorem Eb.fresh {S V:ac} {m:MA} {v:Value} (h:Eb w S V m v) (hf:match m with|.val _ _=>True|.mut _ cs=>gk cs|.ptr cs=>gk cs):Eb w NO V m v:=by
 cases m with
 | val=>trivial
 | «mut» ag cs=>obtain⟨h1,u,h2,h3⟩:=h;exact⟨h1,u,h2,h3.fresh hf⟩
 | ptr cs=>obtain⟨X1,Y,h1,h2,h3,h4,h5⟩:=h;exact⟨X1,Y,h1,h2,h3,h4,h5.fresh hf⟩
theorem Eb.mono {S S' V:ac} {m:MA} {v:Value} (h:Eb w S V m v) (hS:∀ b o,S b o->S' b o):Eb w S' V m v:=by
 cases m with
 | val=>trivial
 | «mut» ag cs=>exact ou.mono (m:=.mut ag cs) h hS
 | ptr cs=>exact ou.mono (m:=.ptr cs) h hS
theorem BL.mono {S S':ac} (hS:∀ b o,S b o->S' b o):∀ {V:Nat->ac} {B:List MA} {vs:List Value},BL w S V B vs->BL w S' V B vs
 | _,[],[],_=>trivial
 | _,_::_,_::_,h=>⟨h.1.mono hS,BL.mono hS h.2⟩
 | _,[],_::_,h=>h.elim
 | _,_::_,[],h=>h.elim
theorem BL.fresh {S:ac} : ∀ {V:Nat->ac} {B:List MA} {vs:List Value},BL w S V B vs->Bh B->BL w NO V B vs
 | _,[],[],_,_=>trivial
 | _,.val _ _::_,_::_,h,hf=>⟨trivial,BL.fresh h.2 hf⟩
 | _,.mut _ _::_,_::_,h,hf=>⟨h.1.fresh hf.1,BL.fresh h.2 hf.2⟩
 | _,.ptr _::_,_::_,h,hf=>⟨h.1.fresh hf.1,BL.fresh h.2 hf.2⟩
 | _,[],_::_,h,_=>h.elim
 | _,_::_,[],h,_=>h.elim
theorem KP {xs:List Operand} {ms:List Nat} (h:xs.length=ms.length):(xs.zip ms).map (fun x=>a.eval x.1)=xs.map a.eval:=by
 rw[show(fun x:Operand × Nat=>a.eval x.1)=a.eval ∘ Prod.fst from rfl,<-List.map_map,List.map_fst_zip (by omega)]
theorem bh.callO (h:bh w0 M S0 N S φ F a w) {o:Oper} {f:Nat} {xs:List Operand} (hxs:Ht P f->(execOp a.eval o).run P w=.ok (.enter f (xs.map a.eval).toArray) w) {modes:List Nat} {K:(Nat->AV)->Prop} (hp:n7 P N F o.dst f xs modes K)
  {Kc:Act->World->Prop} {Q:Exit->Act->World->Prop} (hkc:∀ F' a' w',K F'->St w0 M S0 N F' a' w'->Kc a' w'):o.wp P a w Kc Q:=by
 obtain⟨F',l,φ',V,hK,h',hle,hV,hVt,hVd,hb,hL⟩:=h.lendP hp;cases hdl:(uI l&&Nat.beq xs.length modes.length) with
 | false=>rw[hdl]at hK;exact hK.elim
 | true=>
  rw[hdl]at hK;simp only[I0]at hdl;rw[KP (P1 hdl.2)]at hL;obtain⟨b,A,hK,hA1,hA2⟩:=h'.valsP hL hK;obtain⟨sh,B,k,rcs,hc,hsb,hK⟩:=hK.out;have hVall:Free w0 M S φ' w (fun b o=>∃ i,V i b o):=fun b o ⟨i,hi⟩=>hV i b o hi
  have hrun:=hxs hc.1;have fin:∀ S2:ac,(∀ b o,S2 b o->b<w.heap.size)->(∀ i b o,V i b o->¬S2 b o)->K9 w S2 V A (xs.map a.eval)->((∀ b o,S2 b o->S b o)\/(sh=false/\Bh B))->o.wp P a w Kc Q:=by
   intro S2 hS2 hVS hA hcase;have hy:wS P o a w fun v w1=>∃ F2,K F2/\St w0 M S0 N F2 (a.put o.dst v) w1:=by
    refine wS.enter hrun ?_;refine(hc.2 w S2 V _ hS2 (fun i b o hi=>⟨(hV i b o hi).2.2.1,hVS i b o hi⟩) hVd hA).mono fun e w1 ⟨v,he,hk,X,V',S1,hX,hV',hS1,hVd',hXV,hXS,hVS1,hh,hr,hm⟩=>⟨v,he,?_⟩
    have h1:=h'.world hk hVall;have reg:∀ Z:ac,(∀ b o,Z b o->(∃ i,V i b o)\/(b<w1.heap.size/\w.heap.size<=b))->Free w0 M S φ' w1 Z:=fun Z hZ b o hz=>by
     rcases hZ b o hz with hz|hz
     ·obtain⟨a1,a2,a3,a4⟩:=hVall b o hz
      exact⟨a1,a2,W2 a3 hk.size,a4⟩
     ·exact⟨fun t ht=>by have:=(h'.ex t b o ht).1;omega,fun hS=>by have:=(h'.sup b o hS).1;omega,hz.1,.inl (V3 h'.old.size hz.2)⟩
    have h2:bh w0 M S0 N (fun b o=>S b o\/S1 b o) φ' F' a w1:=by
     refine h1.addS (V:=fun b o=>S1 b o/\((∃ i,V i b o)\/(b<w1.heap.size/\w.heap.size<=b))) (reg _ fun b o hz=>hz.2) (fun _ _ h=>.inl h) (fun b o hz=>?_);rcases hz with hz|hz
     ·exact .inl hz
     ·rcases hS1 b o hz with⟨q1,q2⟩|q
      ·rcases hcase with q3|⟨q3,-⟩
       ·exact .inl (q3 b o q2)
       ·rw[q3]at q1;cases q1
      ·exact .inr ⟨hz,q⟩
    have frees:∀ Z:ac,(∀ b o,Z b o->(∃ i,V i b o)\/(b<w1.heap.size/\w.heap.size<=b))->(∀ b o,Z b o->¬S1 b o)->Free w0 M (fun b o=>S b o\/S1 b o) φ' w1 Z:=fun Z hZ hn b o hz=>by
     obtain⟨a1,a2,a3⟩:=reg Z hZ b o hz;exact⟨a1,fun h=>h.elim a2 (hn b o hz),a3⟩
    have hm2:BL w1 (fun b o=>S b o\/S1 b o) V' B (xs.map a.eval):=by
     rcases hcase with q|⟨-,q⟩
     ·exact hm.mono fun b o hz=>hz.imp (q b o) id
     ·exact(hm.fresh q).mono fun _ _ h=>h.elim
    obtain⟨F2,φ2,e1,e2,e3⟩:=bh.rest h' hk hVall hb h2 hL hm2 (fun q _ t _ k cs e=>e) (fun i=>frees (V' i) (hV' i) (hVS1 i)) hVd' hdl.1 hK;cases hd:o.dst with
    | none=>
     rw[hd]at e1;exact⟨F2,e1,_,φ2,e2⟩
    | some d=>
     rw[hd]at e1;have hXf:Free w0 M (fun b o=>S b o\/S1 b o) φ2 w1 X:=fun b o hz=>by
      obtain⟨a1,a2,a3⟩:=frees X hX hXS b o hz;exact⟨fun t ht=>(e3 t b o ht).elim (a1 t) (fun⟨i,hi⟩=>hXV i b o hz hi),a2,a3⟩
     exact e2.putD_free (X:=X) ⟨NO,X,fun _ _ h=>h.elim,fun _ _ h=>h,fun _ _ h=>h.elim,hh,hr.mono (fun _ _ h=>.inr h) (fun _ _ h=>h)⟩ hXf e1
   exact hy Kc Q fun v w1 ⟨F2,q1,q2⟩=>hkc F2 _ w1 q1 q2
  rcases hsb with hbt|hfr
  ·exact fin S (fun b o hb=>(h'.sup b o hb).1) (fun i b o hi=>(hV i b o hi).2.1) (hA2 hbt) (.inl fun _ _ h=>h)
  ·exact fin (lV S φ') (fun b o hb=>hb.elim (fun hs=>(h'.sup b o hs).1) (fun⟨t,ht⟩=>(h'.ex t b o ht).1)) (fun i b o hi hs=>hs.elim (hV i b o hi).2.1 (fun⟨t,ht⟩=>(hV i b o hi).1 t ht)) hA1 (.inr hfr)
theorem ul {F:Nat->AV} {x:Operand} {K:Nat->Nat->Prop} (h:DU F x K):∃ s t off,x=.tmp s/\F s=.ref t off []/\K t off:=by
 unfold DU at h;split at h
 case h_2=>exact h.elim
 rename_i s;split at h
 case h_2=>exact h.elim
 rename_i t off hF;exact⟨s,t,off,rfl,hF,h⟩
theorem bh.refBox (h:bh w0 M S0 N S φ F a w) {s t off:Nat} {cs:List C} (hs:F s=.ref t off []) (ht:F t=.hold .box cs) {g o:Nat} (hv:tvs a t=.pointer (some ⟨g,o,none⟩)):tvs a s=.pointer (some ⟨g,o+off,none⟩):=by
 have h1:=h.slot s;rw[hs]at h1;obtain⟨k,cs',r,j,g',o',e1,-,e3,e4⟩:=h1;rw[ht]at e1;simp only[AV.hold.injEq]at e1;obtain⟨rfl,rfl⟩:=e1;rw[hv]at e3;simp only[plc,mX,Y3,T0,Prod.mk.injEq]at e3;rw[e4,<-e3.1,<-e3.2]
theorem vz (w:World) (g o j d:Nat):bS w .box (.pointer (some ⟨g,o+j,none⟩)) d=bS w .box (.pointer (some ⟨g,o,none⟩)) (j+d):=by
 simp only[bS,Nat.add_assoc]
theorem GX {cs:List C} {off n j:Nat} {c:C} (h:(bq cs off n)[j]? = some c):j<n/\cs[off+j]? = some c:=by
 unfold bq at h;rw[List.getElem?_take]at h;split at h
 ·rename_i hj;exact⟨hj,by rw[List.getElem?_drop]at h;exact h⟩
 ·cases h
def piece (g o:Nat) (f:Nat->ac) (lo hi:Nat):ac:=fun b x=>(b=g/\o+lo<=x/\x<o+hi)\/∃ j,lo<=j/\j<hi/\f j b x
theorem rx {w:World} {S X1 Y:ac} {cs:List C} {f:Nat->ac} {g o lo n:Nat} (hn:lo+n<=cs.length)
  (hc:∀ j,j<cs.length->X1 g (o+j)/\(∃ z,cel w g (o+j)=some z)/\fro w g (o+j)=NF)
  (h1:∀ j c,cs[j]? = some c->dP w S (f j) c (bS w .box (.pointer (some ⟨g,o,none⟩)) j)) (h2:∀ j,j<cs.length->∀ b x,f j b x->Y b x) (h3:∀ j j',j<cs.length->j'<cs.length->j≠j'->∀ b x,f j b x->¬f j' b x) (hXY:∀ b x,X1 b x->¬Y b x) :
  ou w S (piece g o f lo (lo+n)) (.ptr (bq cs lo n)) (.pointer (some ⟨g,o+lo,none⟩)):=by
 have hl:(bq cs lo n).length=n:=by simp[bq];omega
 refine⟨fun b x=>b=g/\o+lo<=x/\x<o+(lo+n),fun b x=>∃ j,lo<=j/\j<lo+n/\f j b x,fun b x h=>.inl h,fun b x h=>.inr h,fun b x hx ⟨j,hj1,hj2,hj⟩=>?_,⟨g,o+lo,rfl,fun j hj=>?_⟩,fun j=>f (lo+j),fun j c hj=>?_,fun j hj b x hx=>⟨lo+j,by omega,by omega,hx⟩,fun j j' hj hj' hne=>h3 _ _ (by omega) (by omega) (by omega)⟩
 ·obtain⟨rfl,hx1,hx2⟩:=hx
  have:=(hc (x - o) (by omega)).1;rw[show o+(x - o)=x by omega]at this;exact hXY _ _ this (h2 j (by omega) _ _ hj)
 ·rw[hl]at hj
  have:=hc (lo+j) (by omega);rw[<-Nat.add_assoc]at this;exact⟨⟨rfl,by omega,by omega⟩,this.2⟩
 ·obtain⟨hj1,hj2⟩:=GX hj
  rw[vz];exact h1 _ _ hj2
theorem bh.callP (h:bh w0 M S0 N S φ F a w) {o:Oper} {f:Nat} {xs:List Operand} (hxs:Ht P f->(execOp a.eval o).run P w=.ok (.enter f (xs.map a.eval).toArray) w) {n0 n1:Nat} {K:(Nat->AV)->Prop} (hp:lM P N F o.dst f xs n0 n1 K)
  {Kc:Act->World->Prop} {Q:Exit->Act->World->Prop} (hkc:∀ F' a' w',K F'->St w0 M S0 N F' a' w'->Kc a' w'):o.wp P a w Kc Q:=by
 unfold lM at hp;split at hp
 case h_2=>exact hp.elim
 rename_i x0 x1;obtain⟨s0,t,o0,rfl,hs0,hp⟩:=ul hp;obtain⟨s1,t',o1,rfl,hs1,hp⟩:=ul hp;split at hp
 case h_2=>exact hp.elim
 rename_i cs hF;cases hb:(Nat.beq t' t&&Nat.ble (o0+n0) o1&&Nat.ble (o1+n1) cs.length) with
 | false=>rw[hb]at hp;exact hp.elim
 | true=>
 rw[hb]at hp;simp only[cond_true,di]at hp;simp only[I0]at hb;obtain⟨⟨hb1,hb2⟩,hb3⟩:=hb;have hb1:=P1 hb1;have hb2:=W0 hb2;have hb3:=W0 hb3;subst hb1;obtain⟨sh,B,k,rcs,hc,-,hK⟩:=hp.out;have hst:=h.slot t';rw[hF]at hst;obtain⟨X1,Y,hX1,hY,hXY,⟨g,q,hv,hcell⟩,ff,hf1,hf2,hf3⟩:=hst;rw[hv]at hf1;have e0:=h.refBox hs0 hF hv;have e1:=h.refBox hs1 hF hv
 let V:Nat->ac:=fun i=>if i=0 then piece g q ff o0 (o0+n0) else if i=1 then piece g q ff o1 (o1+n1) else NO
 have hpφ:∀ lo hi,hi<=cs.length->∀ b x,piece g q ff lo hi b x->φ t' b x:=fun lo hi hhi b x hx=>by
  rcases hx with⟨rfl,h1,h2⟩|⟨j,-,h2,h3⟩
  ·have:=(hcell (x - q) (by omega)).1
   rw[show q+(x - q)=x by omega]at this;exact hX1 _ _ this
  ·exact hY _ _ (hf2 j (by omega) b x h3)
 have hVφ:∀ i b x,V i b x->φ t' b x:=fun i b x hx=>by
  simp only[V]at hx;split at hx
  ·exact hpφ _ _ (by omega) b x hx
  ·split at hx
   ·exact hpφ _ _ (by omega) b x hx
   ·exact hx.elim
 have hcX:∀ x,q<=x->x<q+cs.length->X1 g x:=fun x h1 h2=>by
  have:=(hcell (x - q) (by omega)).1
  rwa [show q+(x - q)=x by omega]at this
 have hpd:∀ lo hi lo' hi',hi<=lo'->hi'<=cs.length->∀ b x,piece g q ff lo hi b x->¬piece g q ff lo' hi' b x:=fun lo hi lo' hi' h1 h2 b x hx hx'=>by
  rcases hx with⟨rfl,h3,h4⟩|⟨j,h3,h4,h5⟩
  ·rcases hx' with⟨-,h6,h7⟩|⟨j',h6,h7,h8⟩
   ·omega
   ·exact hXY _ _ (hcX x (by omega) (by omega)) (hf2 j' (by omega) _ _ h8)
  ·rcases hx' with⟨rfl,h6,h7⟩|⟨j',h6,h7,h8⟩
   ·exact hXY _ _ (hcX x (by omega) (by omega)) (hf2 j (by omega) _ _ h5)
   ·exact hf3 j j' (by omega) (by omega) (by omega) b x h5 h8
 have hVd:∀ i i',i≠i'->∀ b x,V i b x->¬V i' b x:=fun i i' hne b x hx hx'=>by
  simp only[V]at hx hx';by_cases i0:i=0
  ·rw[if_pos i0]at hx
   by_cases i1:i'=0
   ·omega
   ·rw[if_neg i1]at hx'
    split at hx'
    ·exact hpd _ _ _ _ (by omega) (by omega) b x hx hx'
    ·exact hx'
  ·rw[if_neg i0]at hx
   by_cases i2:i=1
   ·rw[if_pos i2]at hx
    by_cases i1:i'=0
    ·rw[if_pos i1]at hx'
     exact hpd _ _ _ _ (by omega) (by omega) b x hx' hx
    ·rw[if_neg i1,if_neg (by omega)]at hx';exact hx'
   ·rw[if_neg i2]at hx;exact hx
 have h':=h.forget t';have hφ'le:∀ s b x,(if s=t' then NO else φ s) b x->s≠t'/\φ s b x:=fun s b x hx=>by
  split at hx
  ·exact hx.elim
  ·rename_i hne;exact⟨hne,hx⟩
 have hfree:∀ b x,φ t' b x->(∀ s,¬(if s=t' then NO else φ s) b x)/\¬S b x/\b<w.heap.size/\(w0.heap.size<=b\/M b x):=fun b x hx=>⟨fun s hs=>by
   obtain⟨h1,h2⟩:=hφ'le s b x hs;exact h.dis s t' h1 b x h2 hx,h.disS t' b x hx,h.ex t' b x hx⟩
 have hVall:Free w0 M S (fun s=>if s=t' then NO else φ s) w (fun b x=>∃ i,V i b x):=fun b x ⟨i,hi⟩=>hfree b x (hVφ i b x hi)
 have hA:K9 w S V [.ptr (bq cs o0 n0),.ptr (bq cs o1 n1)] ([Operand.tmp s0,.tmp s1].map a.eval):=by
  refine⟨?_,?_,trivial⟩
  ·show ou w S (V 0) _ (tvs a s0)
   rw[e0];exact rx (by omega) hcell hf1 hf2 hf3 hXY
  ·show ou w S (V 1) _ (tvs a s1)
   rw[e1];exact rx (by omega) hcell hf1 hf2 hf3 hXY
 have hrun:=hxs hc.1;have hy:wS P o a w fun v w1=>∃ F2,K F2/\St w0 M S0 N F2 (a.put o.dst v) w1:=by
  refine wS.enter hrun ?_;refine(hc.2 w S V _ (fun b x hb=>(h'.sup b x hb).1) (fun i b x hi=>⟨(hVall b x ⟨i,hi⟩).2.2.1,(hVall b x ⟨i,hi⟩).2.1⟩) hVd hA).mono fun e w1 ⟨v,he,hk,X,V',S1,hX,hV',hS1,hVd',hXV,hXS,hVS1,hh,hr,hm⟩=>⟨v,he,?_⟩
  have h1:=h'.world hk hVall;have reg:∀ Z:ac,(∀ b o,Z b o->(∃ i,V i b o)\/(b<w1.heap.size/\w.heap.size<=b))->Free w0 M S (fun s=>if s=t' then NO else φ s) w1 Z:=fun Z hZ b o hz=>by
   rcases hZ b o hz with hz|hz
   ·obtain⟨a1,a2,a3,a4⟩:=hVall b o hz
    exact⟨a1,a2,W2 a3 hk.size,a4⟩
   ·exact⟨fun t ht=>by have:=(h'.ex t b o ht).1;omega,fun hS=>by have:=(h'.sup b o hS).1;omega,hz.1,.inl (V3 h'.old.size hz.2)⟩
  have h2:bh w0 M S0 N (fun b o=>S b o\/S1 b o) (fun s=>if s=t' then NO else φ s) (kill F t') a w1:=by
   refine h1.addS (V:=fun b o=>S1 b o/\((∃ i,V i b o)\/(b<w1.heap.size/\w.heap.size<=b))) (reg _ fun b o hz=>hz.2) (fun _ _ h=>.inl h) (fun b o hz=>?_);rcases hz with hz|hz
   ·exact .inl hz
   ·rcases hS1 b o hz with⟨q1,q2⟩|q
    ·exact .inl q2
    ·exact .inr ⟨hz,q⟩
  have frees:∀ Z:ac,(∀ b o,Z b o->(∃ i,V i b o)\/(b<w1.heap.size/\w.heap.size<=b))->(∀ b o,Z b o->¬S1 b o)->Free w0 M (fun b o=>S b o\/S1 b o) (fun s=>if s=t' then NO else φ s) w1 Z:=fun Z hZ hn b o hz=>by
   obtain⟨a1,a2,a3⟩:=reg Z hZ b o hz;exact⟨a1,fun h=>h.elim a2 (hn b o hz),a3⟩
  have hm2:=hm.mono (S':=fun b o=>S b o\/S1 b o) fun b o hz=>hz
  unfold Bk at hK;split at hK
  case h_2=>exact hK.elim
  rename_i c0 c1 _;cases hl:(Nat.beq c0.length n0&&Nat.beq c1.length n1) with
  | false=>rw[hl]at hK;exact hK.elim
  | true=>
  rw[hl]at hK;simp only[cond_true,di]at hK;simp only[I0]at hl;have l0:=P1 hl.1;have l1:=P1 hl.2;have hm0:ou w1 (fun b o=>S b o\/S1 b o) (V' 0) (.ptr c0) (tvs a s0):=hm2.1;have hm1:ou w1 (fun b o=>S b o\/S1 b o) (V' 1) (.ptr c1) (tvs a s1):=hm2.2.1;rw[e0]at hm0;rw[e1]at hm1;obtain⟨Xa,Ya,ha1,ha2,ha3,⟨ga,oa,hea,ha4⟩,fa,ha5,ha6,ha7⟩:=hm0;obtain⟨Xb,Yb,hb1,hb2',hb3',⟨gb,ob,heb,hb4⟩,fb,hb5,hb6,hb7⟩:=hm1;obtain⟨rfl,rfl⟩ : g=ga/\q+o0=oa:=by simpa using hea
  obtain⟨rfl,rfl⟩ : g=gb/\q+o1=ob:=by simpa using heb
  let R:ac:=fun b x=>φ t' b x/\¬∃ i,V i b x
  let IR:Nat->Prop:=fun j=>¬(o0<=j/\j<o0+n0)/\¬(o1<=j/\j<o1+n1)
  have hIRc:∀ j,j<cs.length->IR j->R g (q+j):=fun j hj hi=>⟨hX1 _ _ (hcell j hj).1,fun⟨i,hx⟩=>by
    simp only[V]at hx;split at hx
    · rcases hx with⟨-,h3,h4⟩|⟨j',h3,h4,h5⟩
      · exact hi.1 ⟨by omega,by omega⟩
      · exact hXY _ _ (hcell j hj).1 (hf2 j' (by omega) _ _ h5)
    · split at hx
      · rcases hx with⟨-,h3,h4⟩|⟨j',h3,h4,h5⟩
        · exact hi.2 ⟨by omega,by omega⟩
        · exact hXY _ _ (hcell j hj).1 (hf2 j' (by omega) _ _ h5)
      · exact hx⟩
  have hIRf:∀ j,j<cs.length->IR j->∀ b x,ff j b x->R b x:=fun j hj hi b x hx=>⟨hY _ _ (hf2 j hj b x hx),fun⟨i,hv'⟩=>by
    have gen:∀ lo n,lo+n<=cs.length->¬(lo<=j/\j<lo+n)->¬piece g q ff lo (lo+n) b x:=fun lo n hn hno hp=>by
      rcases hp with⟨rfl,h3,h4⟩|⟨j',h3,h4,h5⟩
      · exact hXY _ _ (hcX x (by omega) (by omega)) (hf2 j hj _ _ hx)
      · exact hf3 j j' hj (by omega) (fun e=>hno ⟨by omega,by omega⟩) b x hx h5
    simp only[V]at hv';split at hv'
    · exact gen _ _ (by omega) hi.1 hv'
    · split at hv'
      · exact gen _ _ (by omega) hi.2 hv'
      · exact hv'⟩
  have hRold:∀ b x,R b x->b<w.heap.size:=fun b x hx=>(h.ex t' b x hx.1).1
  have hRsame:bi R w w1:=fun b x hx=>⟨hk.cel b x (hRold b x hx) hx.2,hk.fro b x (hRold b x hx) hx.2⟩
  have hRV':∀ i b x,R b x->¬V' i b x:=fun i b x hx hv'=>by
   rcases hV' i b x hv' with h3|h3
   ·exact hx.2 h3
   ·have:=hRold b x hx;omega
  have hRS1:∀ b x,R b x->¬S1 b x:=fun b x hx hs=>by
   rcases hS1 b x hs with⟨-,h3⟩|h3|h3
   ·exact h.disS t' b x hx.1 h3
   ·exact hx.2 h3
   ·have:=hRold b x hx;omega
  have hSsame:bi S w w1:=fun b x hb=>⟨hk.cel b x (h.sup b x hb).1 (fun⟨i,hi⟩=>h.disS t' b x (hVφ i b x hi) hb),hk.fro b x (h.sup b x hb).1 (fun⟨i,hi⟩=>h.disS t' b x (hVφ i b x hi) hb)⟩
  let Z:ac:=fun b x=>V' 0 b x\/V' 1 b x\/R b x
  have hZ:Free w0 M (fun b o=>S b o\/S1 b o) (fun s=>if s=t' then NO else φ s) w1 Z:=fun b x hz=>by
   rcases hz with hz|hz|hz
   ·exact frees (V' 0) (hV' 0) (hVS1 0) b x hz
   ·exact frees (V' 1) (hV' 1) (hVS1 1) b x hz
   ·obtain⟨a1,a2,a3,a4⟩:=hfree b x hz.1
    exact⟨a1,fun hh=>hh.elim a2 (hRS1 b x hz),W2 a3 hk.size,a4⟩
  have hget:∀ j,(splice (splice cs o0 c0) o1 c1)[j]? = if o1<=j/\j<o1+n1 then c1[j - o1]? else if o0<=j/\j<o0+n0 then c0[j - o0]? else cs[j]?:=fun j=>by
   rw[fT (by rw[bU (by omega)];omega),fT (by omega),l0,l1]
  have hlen:(splice (splice cs o0 c0) o1 c1).length=cs.length:=by rw[bU (by rw[bU (by omega)];omega),bU (by omega)]
  have hsl:cn w1 (fun b o=>S b o\/S1 b o) (kill F t') (tvs a) Z (.hold .box (splice (splice cs o0 c0) o1 c1)) (tvs a t'):=by
   refine⟨fun b x=>(R b x/\∃ j,j<cs.length/\IR j/\b=g/\x=q+j)\/Xa b x\/Xb b x,fun b x=>(∃ j,j<cs.length/\IR j/\ff j b x)\/Ya b x\/Yb b x,fun b x hx=>?_,fun b x hx=>?_,fun b x hx hy=>?_,⟨g,q,hv,fun j hj=>?_⟩,fun j=>if o1<=j/\j<o1+n1 then fb (j - o1) else if o0<=j/\j<o0+n0 then fa (j - o0) else ff j,fun j c hj=>?_,fun j hj b x hx=>?_,fun j j' hj hj' hne b x hx hx'=>?_⟩
   ·rcases hx with hx|hx|hx
    ·exact .inr (.inr hx.1)
    ·exact .inl (ha1 _ _ hx)
    ·exact .inr (.inl (hb1 _ _ hx))
   ·rcases hx with⟨j,h3,h4,h5⟩|hx|hx
    ·exact .inr (.inr (hIRf j h3 h4 b x h5))
    ·exact .inl (ha2 _ _ hx)
    ·exact .inr (.inl (hb2' _ _ hx))
   ·rcases hx with⟨hx,j,h3,h4,rfl,rfl⟩|hx|hx
    ·rcases hy with⟨j',h5,h6,h7⟩|hy|hy
     ·exact hXY _ _ (hcell j h3).1 (hf2 j' h5 _ _ h7)
     ·exact hRV' 0 _ _ hx (ha2 _ _ hy)
     ·exact hRV' 1 _ _ hx (hb2' _ _ hy)
    ·rcases hy with⟨j',h5,h6,h7⟩|hy|hy
     ·exact hRV' 0 _ _ (hIRf j' h5 h6 b x h7) (ha1 _ _ hx)
     ·exact ha3 _ _ hx hy
     ·exact hVd' 0 1 (by omega) _ _ (ha1 _ _ hx) (hb2' _ _ hy)
    ·rcases hy with⟨j',h5,h6,h7⟩|hy|hy
     ·exact hRV' 1 _ _ (hIRf j' h5 h6 b x h7) (hb1 _ _ hx)
     ·exact hVd' 0 1 (by omega) _ _ (ha2 _ _ hy) (hb1 _ _ hx)
     ·exact hb3' _ _ hx hy
   ·rw[hlen]at hj
    by_cases hj1:o1<=j/\j<o1+n1
    ·have:=hb4 (j - o1) (by omega)
     rw[show q+o1+(j - o1)=q+j by omega]at this;exact⟨.inr (.inr this.1),this.2⟩
    ·by_cases hj0:o0<=j/\j<o0+n0
     ·have:=ha4 (j - o0) (by omega)
      rw[show q+o0+(j - o0)=q+j by omega]at this;exact⟨.inr (.inl this.1),this.2⟩
     ·have hR:=hIRc j hj ⟨hj0,hj1⟩
      have hs:=hRsame _ _ hR;refine⟨.inl ⟨hR,j,hj,⟨hj0,hj1⟩,rfl,rfl⟩,?_,?_⟩
      ·rw[hs.1];exact(hcell j hj).2.1
      ·rw[hs.2];exact(hcell j hj).2.2
   ·rw[hget]at hj
    rw[hv];dsimp only;by_cases hj1:o1<=j/\j<o1+n1
    ·rw[if_pos hj1]at hj |-
     have:=hb5 _ _ hj
     rwa [vz,show o1+(j - o1)=j by omega]at this
    ·rw[if_neg hj1]at hj |-
     by_cases hj0:o0<=j/\j<o0+n0
     ·rw[if_pos hj0]at hj |-
      have:=ha5 _ _ hj
      rwa [vz,show o0+(j - o0)=j by omega]at this
     ·rw[if_neg hj0]at hj |-
      have hjl:=(R1.1 hj).1;have h3:=(hf1 j c hj).keep hSsame (fun b x hx=>hRsame b x (hIRf j hjl ⟨hj0,hj1⟩ b x hx));have hce:=(hRsame _ _ (hIRc j hjl ⟨hj0,hj1⟩)).1;have:bS w1 .box (.pointer (some ⟨g,q,none⟩)) j=bS w .box (.pointer (some ⟨g,q,none⟩)) j:=by
       simp only[bS];rw[hce]
      rw[this];exact h3.mono (fun _ _ h=>.inl h) (fun _ _ h=>h)
   ·rw[hlen]at hj
    split at hx
    ·exact .inr (.inr (hb6 _ (by omega) b x hx))
    ·rename_i hj1
     split at hx
     ·exact .inr (.inl (ha6 _ (by omega) b x hx))
     ·rename_i hj0;exact .inl ⟨j,hj,⟨hj0,hj1⟩,hx⟩
   ·rw[hlen]at hj hj'
    have fbV:∀ i,i<n1->∀ b x,fb i b x->V' 1 b x:=fun i hi b x hx=>hb2' _ _ (hb6 i (by omega) b x hx)
    have faV:∀ i,i<n0->∀ b x,fa i b x->V' 0 b x:=fun i hi b x hx=>ha2 _ _ (ha6 i (by omega) b x hx)
    by_cases c1:o1<=j/\j<o1+n1
    ·rw[if_pos c1]at hx
     by_cases d1:o1<=j'/\j'<o1+n1
     ·rw[if_pos d1]at hx'
      exact hb7 _ _ (by omega) (by omega) (by omega) b x hx hx'
     ·rw[if_neg d1]at hx'
      by_cases d0:o0<=j'/\j'<o0+n0
      ·rw[if_pos d0]at hx'
       exact hVd' 0 1 (by omega) b x (faV _ (by omega) b x hx') (fbV _ (by omega) b x hx)
      ·rw[if_neg d0]at hx'
       exact hRV' 1 b x (hIRf j' hj' ⟨d0,d1⟩ b x hx') (fbV _ (by omega) b x hx)
    ·rw[if_neg c1]at hx
     by_cases c0':o0<=j/\j<o0+n0
     ·rw[if_pos c0']at hx
      by_cases d1:o1<=j'/\j'<o1+n1
      ·rw[if_pos d1]at hx'
       exact hVd' 0 1 (by omega) b x (faV _ (by omega) b x hx) (fbV _ (by omega) b x hx')
      ·rw[if_neg d1]at hx'
       by_cases d0:o0<=j'/\j'<o0+n0
       ·rw[if_pos d0]at hx'
        exact ha7 _ _ (by omega) (by omega) (by omega) b x hx hx'
       ·rw[if_neg d0]at hx'
        exact hRV' 0 b x (hIRf j' hj' ⟨d0,d1⟩ b x hx') (faV _ (by omega) b x hx)
     ·rw[if_neg c0']at hx
      by_cases d1:o1<=j'/\j'<o1+n1
      ·rw[if_pos d1]at hx'
       exact hRV' 1 b x (hIRf j hj ⟨c0',c1⟩ b x hx) (fbV _ (by omega) b x hx')
      ·rw[if_neg d1]at hx'
       by_cases d0:o0<=j'/\j'<o0+n0
       ·rw[if_pos d0]at hx'
        exact hRV' 0 b x (hIRf j hj ⟨c0',c1⟩ b x hx) (faV _ (by omega) b x hx')
       ·rw[if_neg d0]at hx'
        exact hf3 j j' hj hj' hne b x hx hx'
  have h3:=h2.revive (l8 F t') hZ hsl;cases hd:o.dst with
  | none=>
   rw[hd]at hK;exact⟨_,hK,_,_,h3⟩
  | some d=>
   rw[hd]at hK;have hXf:Free w0 M (fun b o=>S b o\/S1 b o) (fun s=>if s=t' then Z else if s=t' then NO else φ s) w1 X:=fun b o hz=>by
    obtain⟨a1,a2,a3⟩:=frees X hX hXS b o hz;refine⟨fun s hs=>?_,a2,a3⟩;replace hs:(if s=t' then Z else if s=t' then NO else φ s) b o:=hs;split at hs
    ·rcases hs with hs|hs|hs
     ·exact hXV 0 b o hz hs
     ·exact hXV 1 b o hz hs
     ·rcases hX b o hz with h4|h4
      ·exact hs.2 h4
      ·have:=hRold b o hs;omega
    ·rename_i hne
     exact a1 s (by dsimp only;rw[if_neg hne];first|exact hs|(rw[if_neg hne]at hs;exact hs))
   exact h3.putD_free (X:=X) ⟨NO,X,fun _ _ h=>h.elim,fun _ _ h=>h,fun _ _ h=>h.elim,hh,hr.mono (fun _ _ h=>.inr h) (fun _ _ h=>h)⟩ hXf hK
 exact hy Kc Q fun v w1 ⟨F2,q1,q2⟩=>hkc F2 _ w1 q1 q2
theorem bh.callM (h:bh w0 M S0 N S φ F a w) {o:Oper} {f:Nat} {xs:List Operand} (hxs:Ht P f->(execOp a.eval o).run P w=.ok (.enter f (xs.map a.eval).toArray) w) {modes:List Nat} {K:(Nat->AV)->Prop} (hp:lH P N F o.dst f xs modes K)
  {Kc:Act->World->Prop} {Q:Exit->Act->World->Prop} (hkc:∀ F' a' w',K F'->St w0 M S0 N F' a' w'->Kc a' w'):o.wp P a w Kc Q:=by
 unfold lH at hp;split at hp
 ·exact h.callP hxs hp hkc
 ·exact h.callO hxs hp hkc
end
open Go.ChangeMaps (setBlock)
def oh (TE:Nat->Option TI) (N:eL) (F:Nat->AV) (d T:Nat) (x:Operand) (K:(Nat->AV)->Prop):Prop:=
 match TE T with
 | some ⟨_,_,_,.mp _ _ _⟩=>gh F x fun F' ag cs=>match ag,cs with
  | none,[.m es]=>bL N F' d (.hold .one [.it none (es.map (·.1))]) K
  | _,_=>False
 | _=>False
inductive Nt (left:List Int) (K:Option (Int × List Int)->Prop):Prop
 |mk_ (h:(left=[]->K none)/\∀ l1 k l2,left=l1++k::l2->K (some (k,l1++l2)))
theorem Nt.mk {left:List Int} {K:Option (Int × List Int)->Prop} (h0:left=[]->K none) (h1:∀ l1 k l2,left=l1++k::l2->K (some (k,l1++l2))):Nt left K:=.mk_ ⟨h0,h1⟩
theorem Nt.out {left:List Int} {K:Option (Int × List Int)->Prop} (h:Nt left K):(left=[]->K none)/\∀ l1 k l2,left=l1++k::l2->K (some (k,l1++l2)):=by
 obtain⟨h⟩:=h;exact h
def r6 (N:eL) (F:Nat->AV) (d:Nat) (x:Operand) (K:(Nat->AV)->Prop):Prop:=
 match x with
 | .tmp s=>(match F s with
   | .hold .one [.it _ left]=>Nt left fun r=>match r with
     | none=>bL N F d (.hold (.tup [none]) [.v (.bool false)]) K
     | some p=>bL N (updH F s .one [.it (some p.1) p.2]) d (.hold (.tup [none,none,none]) [.v (.bool true),.v (.int .i64 p.1),.x]) K
   | _=>False)
 | _=>False
def nM (N:eL) (F:Nat->AV) (d:Nat) (x:Operand) (K:(Nat->AV)->Prop):Prop:=
 match x with
 | .tmp s=>(match F s with
   | .hold .one [.it (some k) _]=>bL N F d (.hold (.tup [none,none]) [.v (.int .i64 k),.x]) K
   | _=>False)
 | _=>False
def ij (N:eL) (F:Nat->AV) (d:Nat) (x:Operand) (K:(Nat->AV)->Prop):Prop:=
 match x with
 | .tmp t=>(match F t with
   | .hold (.tup sh) cs=>bif aV cs then bL N F d (.hold (.tup sh) cs) K else bL N (updH F t (.tup sh) (splice cs 0 (List.replicate cs.length .x))) d (.hold (.tup sh) cs) K
   | .hold .one _=>bm F (.tmp t) fun av=>bL N F d av K
   | .hold .agg _=>bm F (.tmp t) fun av=>bL N F d av K
   | .hold .box _=>bm F (.tmp t) fun av=>bL N F d av K
   | .ref ..=>bm F (.tmp t) fun av=>bL N F d av K
   | .bor ..=>bm F (.tmp t) fun av=>bL N F d av K
   | .iref ..=>bm F (.tmp t) fun av=>bL N F d av K
   | .fn ..=>bm F (.tmp t) fun av=>bL N F d av K
   | .fv _=>bm F (.tmp t) fun av=>bL N F d av K
   | .dead=>bm F (.tmp t) fun av=>bL N F d av K)
 | x=>bm F x fun av=>bL N F d av K
section
variable {P:Program} {w0 w w1:World} {M S0 S:ac} {N:eL} {φ:Nat->ac} {F:Nat->AV} {a:Act} {TE:Nat->Option TI}
theorem Jc {Y:ac} {cur:Option Int} {left:List Int} {v:Value} (h:dP w S Y (.it cur left) v):∃ (r b since c0 clock:Nat) (seen:Array Nat) (ents:Array MapEntry),v=.pointer (some ⟨r,0,none⟩)/\(∀ o,Y r o/\Y b o)/\mp w r=some (.mapIter (some b) since seen c0)/\mp w b=some (.map ents clock)/\
  ((ents.toList.map (·.born)).Nodup/\∀ x∈ents.toList,x.born<since)/\(since<=c0/\since<=clock)/\(∀ x∈ents.toList,x.val.oneCell'=true)/\(leftOf ents seen).toList.map (·.key)=left.map (Value.int .i64)/\(∀ k,cur=some k->c0=clock/\∃ e∈ents.toList,∃ s':Array Nat,seen=s'.push e.born/\e.key=.int .i64 k):=by
 generalize hc:C.it cur left=c at h;cases h with
 | it _ r b since c0 clock seen ents cur' left' hF hr hb hst hcl hv hl hcur=>cases hc;exact⟨r,b,since,c0,clock,seen,ents,rfl,hF,hr,hb,hst,hcl,hv,hl,hcur⟩
 | _=>cases hc
theorem LY {b:Nat} {o:Obj} (h:mp w b=some o):b<w.heap.size:=by
 rcases Nat.lt_or_ge b w.heap.size with h1|h1
 ·exact h1
 ·unfold mp at h
  rw[Array.getElem?_eq_none h1]at h;cases h
theorem zy {b:Nat} {o:Obj} (h:b<w.heap.size):mp (w.alloc o) b=mp w b:=by
 unfold mp;rw[heap_alloc_old w o h]
theorem Hn {ents:Array MapEntry} {es:List (Int × Value)} (he:ents.toList.map (fun e=>(e.key,e.val))=es.map (fun p=>(Value.int .i64 p.1,p.2))) (hes:∀ p∈es,p.2.oneCell'=true):∀ x∈ents.toList,x.val.oneCell'=true:=by
 intro y hy;have:(y.key,y.val)∈ents.toList.map (fun e=>(e.key,e.val)):=O3.2 ⟨y,hy,rfl⟩;rw[he]at this;obtain⟨p,hp,e⟩:=O3.1 this;have:=hes p hp;simp only[Prod.mk.injEq]at e;rw[<-e.2];exact this
theorem bh.rangeW (h:bh w0 M S0 N S φ F a w) (hTE:∀ t i,TE t=some i->bY P t i) {d T:Nat} {x:Operand} {K:(Nat->AV)->Prop} (hp:oh TE N F d T x K) :
  ∃ v w1 F',K F'/\(Instr.range T (a.eval x)).run P w=.ok v w1/\St w0 M S0 N F' (a.put (some d) v) w1:=by
 unfold oh at hp;split at hp
 case h_2=>exact hp.elim
 rename_i hT;obtain⟨h1,-,-,-⟩:=(hTE _ _ hT).2.2;obtain⟨F',ag,cs,V,φ',hK,h',hv,hV,hs,hVt⟩:=h.taken hp
 match ag,cs,hK with
 | none,[.m es],hK=>
  obtain⟨b,clock,ents,hx,hown,hb,he,hes,hst⟩:=K4 hv.rep1;have hbl:=LY hb
  let o:Obj:=.mapIter (some b) clock #[] clock
  have h2:=h'.world (w1:=w.alloc o) (cH w _) (fun _ _ h=>h.elim);have hleft:leftOf ents #[]=ents:=by unfold leftOf;simp
  obtain⟨F2,hK2,hst2⟩:=h2.putD_free (X:=fun b o=>V b o\/b=w.heap.size) (v:=.pointer (some ⟨w.heap.size,0,none⟩)) (F:=F')
   (fC (.it _ w.heap.size b clock clock clock #[] ents none (es.map (·.1)) (fun o=>⟨.inr rfl,.inl (hown o)⟩) (by unfold mp;rw[heap_alloc_new]) ((zy hbl).trans hb) hst ⟨I2 _,I2 _⟩ (Hn he hes)
     (by
       rw[hleft];have:=R0 (List.map Prod.fst) he;simpa[List.map_map,I4] using this) (fun k hk=>by cases hk))) (fun b o hb=>by
   rcases hb with hb|hb
   · obtain⟨a1,a2,a3,a4⟩:=hV b o hb
     exact⟨a1,a2,by rw[eQ];omega,a4⟩
   · exact⟨fun t ht=>by have:=(h'.ex t b o ht).1;omega,fun hS=>by have:=(h'.sup b o hS).1;omega,by rw[eQ];omega,.inl (by rw[hb];exact h'.old.size)⟩) hK
  exact⟨_,_,F2,hK2,by rw[hx];exact run_range_map w T _ _ b ents clock h1 (og hb),hst2⟩
theorem rr {v:Value} (hv:v.oneCell'=true):v.cells = #[v]:=by
 cases v<;>first|rfl|(cases hv)
theorem Hk {ents:Array MapEntry} {seen:Array Nat} {e:MapEntry} (hn:(ents.toList.map (·.born)).Nodup) (he:e∈(leftOf ents seen).toList):∃ l1 l2,(leftOf ents seen).toList=l1++e::l2/\(leftOf ents (seen.push e.born)).toList=l1++l2:=by
 obtain⟨l1,l2,hl⟩:=List.append_of_mem he;refine⟨l1,l2,hl,?_⟩;have h1:(leftOf ents (seen.push e.born)).toList=(leftOf ents seen).toList.filter fun y=>!(y.born == e.born):=by
  unfold leftOf;rw[Array.toList_filter,Array.toList_filter,List.filter_filter]
  congr 1
  funext y
  rw[contains_push,Bool.not_or,Bool.and_comm]
 have hn2:((leftOf ents seen).toList.map (·.born)).Nodup:=by
  unfold leftOf;rw[Array.toList_filter];exact hn.sublist (List.filter_sublist.map _)
 rw[hl]at hn2;rw[h1,hl,List.filter_append,List.filter_cons];simp only[beq_self_eq_true,Bool.not_true,Bool.false_eq_true,if_false];rw[C4,O4,List.nodup_append,List.nodup_cons]at hn2;obtain⟨-,⟨hn3,-⟩,hn4⟩:=hn2;have e1:l1.filter (fun y=>!(y.born == e.born))=l1:=List.filter_eq_self.2 fun y hy=>by
  have:=hn4 y.born (O3.2 ⟨y,hy,rfl⟩) e.born (I1 ..);simpa using this
 have e2:l2.filter (fun y=>!(y.born == e.born))=l2:=List.filter_eq_self.2 fun y hy=>by
  have:y.born≠e.born:=fun e'=>hn3 (by rw[<-e'];exact O3.2 ⟨y,hy,rfl⟩)
  simpa using this
 rw[e1,e2]
theorem tup3 {w:World} {S:ac} {F:Nat->AV} {tv:Nat->Value} {k:Int} {v:Value} (hv:v.oneCell'=true):cn w S F tv NO (.hold (.tup [none,none,none]) [.v (.bool true),.v (.int .i64 k),.x]) (.tuple #[.bool true,.int .i64 k,v]):=by
 have hc:v.cells = #[v]:=rr hv;refine⟨NO,NO,fun _ _ h=>h,fun _ _ h=>h,fun _ _ h=>h.elim,⟨_,rfl,⟨rfl,rfl,hc,trivial⟩,rfl⟩,fun _=>NO,fun j c hj=>?_,fun _ _ _ _ h=>h,fun _ _ _ _ _ _ _ h=>h.elim⟩;have ht:kU (.tuple #[.bool true,.int .i64 k,v])=[.bool true,.int .i64 k,v]:=by
  show #[Value.bool true].toList++(#[Value.int .i64 k].toList++(v.cells.toList++[]))=_;rw[hc];rfl
 simp only[bS,ht]
 match j,hj with
 | 0,hj=>simp at hj;subst hj;exact .v _ _ rfl
 | 1,hj=>simp at hj;subst hj;exact .v _ _ rfl
 | 2,hj=>simp at hj;subst hj;exact .x _ _ hv
 | j+3,hj=>simp at hj
theorem tup2 {w:World} {S:ac} {F:Nat->AV} {tv:Nat->Value} {k:Int} {v:Value} (hv:v.oneCell'=true):cn w S F tv NO (.hold (.tup [none,none]) [.v (.int .i64 k),.x]) (.tuple #[.int .i64 k,v]):=by
 have hc:v.cells = #[v]:=rr hv;refine⟨NO,NO,fun _ _ h=>h,fun _ _ h=>h,fun _ _ h=>h.elim,⟨_,rfl,⟨rfl,hc,trivial⟩,rfl⟩,fun _=>NO,fun j c hj=>?_,fun _ _ _ _ h=>h,fun _ _ _ _ _ _ _ h=>h.elim⟩;have ht:kU (.tuple #[.int .i64 k,v])=[.int .i64 k,v]:=by
  show #[Value.int .i64 k].toList++(v.cells.toList++[])=_;rw[hc];rfl
 simp only[bS,ht]
 match j,hj with
 | 0,hj=>simp at hj;subst hj;exact .v _ _ rfl
 | 1,hj=>simp at hj;subst hj;exact .x _ _ hv
 | j+2,hj=>simp at hj
theorem tup1 {w:World} {S:ac} {F:Nat->AV} {tv:Nat->Value} {v:Value} (hv:v.oneCell'=true):cn w S F tv NO (.hold (.tup [none]) [.v v]) (.tuple #[v]):=by
 have hc:v.cells = #[v]:=rr hv;refine⟨NO,NO,fun _ _ h=>h,fun _ _ h=>h,fun _ _ h=>h.elim,⟨_,rfl,⟨hc,trivial⟩,rfl⟩,fun _=>NO,fun j c hj=>?_,fun _ _ _ _ h=>h,fun _ _ _ _ _ _ _ h=>h.elim⟩;have ht:kU (.tuple #[v])=[v]:=by
  show v.cells.toList++[]=_;rw[hc];rfl
 simp only[bS,ht]
 match j,hj with
 | 0,hj=>simp at hj;subst hj;exact .v _ _ hv
 | j+1,hj=>simp at hj
theorem bh.entryW (h:bh w0 M S0 N S φ F a w) {d:Nat} {x:Operand} {K:(Nat->AV)->Prop} (hp:nM N F d x K) :
  ∃ v F',K F'/\(Instr.entry (a.eval x)).run P w=.ok v w/\St w0 M S0 N F' (a.put (some d) v) w:=by
 cases x with
 | tmp s=>
  simp only[nM]at hp;have hs:=h.slot s;split at hp
  case h_2=>exact hp.elim
  rename_i k left hF;rw[hF]at hs;obtain⟨X1,Y,e1,e2,e3,e4,f,f1,f2,f3⟩:=hs;obtain⟨r,b,since,c0,clock,seen,ents,hv,hown,hr,hb,hst,hcl,hvv,hl,hcur⟩:=Jc (f1 0 _ rfl);obtain⟨rfl,e,he,s',rfl,hk⟩:=hcur k rfl;have hv:tvs a s=.pointer (some ⟨r,0,none⟩):=hv;obtain⟨F',hK,hst'⟩:=h.putD_new (v:=.tuple #[.int .i64 k,e.val]) (.same (tup2 (hvv e he))) hp;refine⟨_,F',hK,?_,hst'⟩;show(Instr.entry (tvs a s)).run P w=_;rw[hv,<-hk];exact run_entry_at w r b since s' ents c0 e (yM hr) (og hb) he hst.1
 | _=>exact hp.elim
theorem bh.nextW (h:bh w0 M S0 N S φ F a w) {d ty:Nat} {x:Operand} {K:(Nat->AV)->Prop} (hp:r6 N F d x K) :
  ∃ v w1 F',K F'/\(Instr.next (a.eval x) false ty).run P w=.ok v w1/\St w0 M S0 N F' (a.put (some d) v) w1:=by
 cases x with
 | tmp s=>
  simp only[r6]at hp;have hs:=h.slot s;split at hp
  case h_2=>exact hp.elim
  rename_i cur left hF;rw[hF]at hs;obtain⟨X1,Y,e1,e2,e3,e4,f,f1,f2,f3⟩:=hs;obtain⟨r,b,since,c0,clock,seen,ents,hv,hown,hr,hb,hst,hcl,hvv,hl,hcur⟩:=Jc (f1 0 _ rfl);have hv:tvs a s=.pointer (some ⟨r,0,none⟩):=hv;obtain⟨p0,p1⟩:=hp.out;show ∃ v w1 F',K F'/\(Instr.next (tvs a s) false ty).run P w=.ok v w1/\St w0 M S0 N F' (a.put (some d) v) w1
  rw[hv];rcases run_next_at (P:=P) w ty r b since c0 seen ents clock (yM hr) (og hb) hst.2 hcl.1 with⟨hsz,hrun⟩|⟨e,he,w2,hw2,hrun⟩
  ·have hle:left=[]:=by
    have:(leftOf ents seen).toList=[]:=by
     rw[<-List.length_eq_zero_iff];simpa using hsz
    rw[this]at hl;exact List.map_eq_nil_iff.1 hl.symm
   obtain⟨F',hK,hst'⟩:=h.putD_new (v:=.tuple #[.bool false]) (.same (tup1 rfl)) (p0 hle);exact⟨_,_,F',hK,hrun,hst'⟩
  ·obtain⟨l1,l2,q1,q2⟩:=Hk hst.1 he
   have hem:=(mem_left he).1;rw[q1,C4,O4]at hl;obtain⟨m1,m2,hm,hm1,hm2⟩:=List.map_eq_append_iff.1 hl.symm;cases m2 with
   | nil=>simp at hm2
   | cons k m2=>
    simp only[O4,List.cons.injEq]at hm2;obtain⟨hk,hm2⟩:=hm2;have hp:=p1 m1 k m2 hm;have h2:bh w0 M S0 N S φ F a w2:=by
     rcases hw2 with rfl|rfl
     ·exact h
     ·exact h.more (w1:={w with drawn:=w.drawn+1}) (fun _ _ h=>h) (fun _ _ h=>.inl h) ⟨rfl,rfl,rfl,I2 _,fun _ _ _=>rfl,fun _ _ _ _=>rfl,fun _ _ _ _=>rfl⟩
    have hheap:w2.heap=w.heap:=by rcases hw2 with rfl|rfl<;>rfl
    have hr2:mp w2 r=some (.mapIter (some b) since seen c0):=by unfold mp;rw[hheap];exact hr
    have hb2:mp w2 b=some (.map ents clock):=by unfold mp;rw[hheap];exact hb
    have hlt:r<w2.heap.size:=LY hr2;have hbr:b≠r:=fun e=>by rw[e,hr2]at hb2;cases hb2
    let o':Obj:=.mapIter (some b) since (seen.push e.born) clock
    let w3:World:=setBlock w2 r o'
    have hh:∀ b',w3.heap[b']? = if b'=r then some o' else w2.heap[b']?:=fun b'=>qH (w:=w2) (b:=r) (o:=o') hlt b'
    have hother:∀ b',b'≠r->∀ o,cel w3 b' o=cel w2 b' o/\fro w3 b' o=fro w2 b' o:=fun b' hne o=>by
     have hb':w3.heap[b']? = w2.heap[b']?:=(hh b').trans (if_neg hne);refine⟨?_,Prod.ext ?_ ?_⟩
     ·show World.cell? w3 _=World.cell? w2 _
      unfold World.cell?;simp only[hb']
     ·show World.frozen? w3 _=World.frozen? w2 _
      unfold World.frozen?;simp only[hb']
     ·show mp w3 b'=mp w2 b'
      unfold mp;rw[hb']
    have hcelr:∀ o,cel w3 r o=cel w2 r o:=fun o=>by
     have h1:w3.heap[r]? = some o':=(hh r).trans (if_pos rfl);have h2:=yM hr2;show World.cell? w3 _=World.cell? w2 _;unfold World.cell?;simp[h1,h2,o']
    have hYr:∀ o,φ s r o:=fun o=>e2 _ _ (f2 0 (Nat.zero_lt_one) _ _ (hown o).1)
    have hk1:bH (φ s) w2 w3:=by
     refine⟨rfl,rfl,rfl,by simp[w3,setBlock],fun b' hb' hn=>(hh b').trans (if_neg fun e=>?_),fun b' o hb' hn=>?_,fun b' o hb' hn=>?_⟩
     ·subst e;exact hn 0 (hYr 0)
     ·by_cases e:b'=r
      ·subst e;exact hcelr o
      ·exact(hother b' e o).1
     ·by_cases e:b'=r
      ·subst e;exact absurd (hYr o) hn
      ·exact(hother b' e o).2
    have hsame:∀ X:ac,(∀ b' o,X b' o->b'≠r)->bi X w2 w3:=fun X hX b' o hb'=>hother b' (hX b' o hb') o
    have h3:bh w0 M S0 N S (fun t=>if t=s then φ s else φ t) (updH F s .one [.it (some k) (m1++m2)]) a w3:=by
     refine h2.upd (X:=φ s) hk1 hF (fun b o hb=>.inl hb) ⟨NO,Y,fun _ _ h=>h.elim,e2,fun _ _ h=>h.elim,rfl,f,fun j c hj=>?_,fun j hj=>f2 j hj,fun j j' hj hj'=>f3 j j' hj hj'⟩
     match j,hj with
     | 0,hj=>
      simp at hj;subst hj;show dP w3 S (f 0) _ (tvs a s);rw[hv];refine .it _ r b since clock clock (seen.push e.born) ents (some k) (m1++m2) hown (by show mp w3 r=_;unfold mp;rw[(hh r).trans (if_pos rfl)]) (by
        have:mp w3 b=mp w2 b:=R0 Prod.snd (hother b hbr 0).2;rw[this];exact hb2) hst ⟨hcl.2,hcl.2⟩ hvv (by rw[q2,C4,C4,hm1,hm2]) (fun k' hk'=>by cases hk';exact⟨rfl,e,hem,seen,rfl,hk.symm⟩)
     | j+1,hj=>simp at hj
    obtain⟨F',hK,hst'⟩:=h3.putD_new (v:=.tuple #[.bool true,.int .i64 k,e.val]) (.same (tup3 (hvv e hem))) hp;exact⟨_,_,F',hK,by rw[hrun,<-hk],hst'⟩
 | _=>exact hp.elim
theorem bh.moveW (h:bh w0 M S0 N S φ F a w) {d:Nat} {x:Operand} {K:(Nat->AV)->Prop} (hp:ij N F d x K) :
  ∃ F',K F'/\St w0 M S0 N F' (a.put (some d) (a.eval x)) w:=by
 have std:bm F x (fun av=>bL N F d av K)->∃ F',K F'/\St w0 M S0 N F' (a.put (some d) (a.eval x)) w:=fun hp=>by
  obtain⟨av,hK,hs⟩:=h.move hp;exact h.putD_new (.same hs) hK
 cases x with
 | tmp t=>
  simp only[ij]at hp;split at hp
  ·rename_i sh cs hF
   cases hn:aV cs with
   | true=>
    refine std ?_;simp only[bm,hF,hn,cond_true];rw[hn]at hp;exact hp
   | false=>
    rw[hn]at hp;simp only[cond_false]at hp;have hs:=h.slot t;rw[hF]at hs;obtain⟨X1,Y0,-,-,-,h4,-⟩:=hs;obtain⟨V,X,h1,h2,hX,h3,h5⟩:=h.take (off:=0) (n:=cs.length) hF (by omega);have ht:bq cs 0 cs.length=cs:=by simp[bq]
    rw[ht]at h3;have hfree:Free w0 M S (fun s=>if s=t then X else φ s) w V:=fun b o hb=>⟨fun s hb'=>by
      simp only at hb';by_cases e:s=t
      · rw[if_pos e]at hb';exact h2 b o hb hb'
      · rw[if_neg e]at hb';exact h.dis s t e b o hb' (h1 b o hb),h.disS t b o (h1 b o hb),h.ex t b o (h1 b o hb)⟩
    obtain⟨F2,hK2,hst⟩:=h5.putD_free (X:=V) (v:=tvs a t) ⟨NO,V,fun _ _ h=>h.elim,fun _ _ h=>h,fun _ _ h=>h.elim,(show f7 w NO (.tup sh) cs.length (tvs a t) from h4),h3.congr fun j hj=>by rw[Y4]⟩ hfree hp;exact⟨F2,hK2,hst⟩
  all_goals exact std hp
 | const v=>exact std hp
 | global g=>exact std hp
 | func f=>exact std hp
end
def Bi (F:Nat->AV) (d:Nat) (b:Bool):Nat->AV:=fun t=>bif Nat.beq t d then .hold .one [.v (.bool b)] else F t
def eP (F:Nat->AV) (ops:Array Oper) (g:Option (Nat × Bool)) (K1 K0:(Nat->AV)->Prop):Prop:=
 match g with
 | none=>K1 F
 | some (j,want)=>match(ops[j]?).bind (·.dst) with
  | some d=>(match F d with
    | .hold .one [.v (.bool b)]=>Bf b (bif want then K1 (Bi F d true) else K0 (Bi F d true)) (bif want then K0 (Bi F d false) else K1 (Bi F d false))
    | .hold (.tup _) _=>K0 F
    | _=>False)
  | none=>False
def pO (c:Call):Option (Nat × Operand × Operand):=
 match c.callee with
 | .builtin .append=>(match c.args.toList,c.argTypes.toList with|[x,y],[T,T2]=>bif Nat.beq T T2 then some (T,x,y) else none|_,_=>none)
 | _=>none
def zU (N:eL) (F:Nat->AV) (d:Nat) (x:Operand):Option (Nat × List C):=
 match x with
 | .tmp t=>(match F t with
   | .hold .box cs=>bif N.mo.any fun p=>Nat.beq p.1 (3000000+d) then some (t,cs) else none
   | _=>none)
 | _=>none
def yW (N:eL) (F:Nat->AV) (d:Nat) (x:Operand) (K:(Nat->AV)->Prop):Prop:=
 match zU N F d x with
 | some p=>bL N (kill F p.1) d (.hold .box p.2) K
 | none=>jj N F d x K
theorem y5 {N:eL} {F:Nat->AV} {d:Nat} {x:Operand} {p:Nat × List C} (h:zU N F d x=some p):x=.tmp p.1/\F p.1=.hold .box p.2:=by
 unfold zU at h;split at h
 case h_2=>cases h
 split at h
 case h_2=>cases h
 rename_i t _ cs hF;cases hb:(N.mo.any fun p=>Nat.beq p.1 (3000000+d)) with
 | false=>rw[hb]at h;cases h
 | true=>rw[hb]at h;cases h;exact⟨rfl,hF⟩
def nl (P:Program) (TE:Nat->Option TI) (N:eL) (d:Nat) (op:Op) (K:(Nat->AV)->Prop) (F:Nat->AV):Prop:=
 match op with
 | .assign x=>yW N F d x K
 | .box _ x=>K5 N F d x K
 | .build T ps=>jw TE N F d T ps.toList K
 | .buildSlice T n ps=>eY TE N F d T n ps.toList K
 | .range T x=>oh TE N F d T x K
 | .move x=>ij N F d x K
 | .next x str=>bif str then False else r6 N F d x K
 | .entry x=>nM N F d x K
 | .call c=>(match pO c with
   | some p=>y1 TE N F d p.1 p.2.1 p.2.2 K
   | none=>cX P TE F (.call c) fun av=>bL N F d av K)
 | op=>cX P TE F op fun av=>bL N F d av K
def FN:List (Nat × List Nat)->Nat->Option (List Nat)
 | [],_=>none
 | p::l,f=>bif Nat.beq f p.1 then some p.2 else FN l f
def GS (N:eL) (F:Nat->AV) (op:Op):Option (Nat × List Operand × List Nat):=
 match op with
 | .call c=>(match c.callee with
   | .value (.func f)=>(match FN N.mo f with|some ms=>some (f,c.args.toList,ms)|none=>none)
   | .value (.tmp t)=>(match F t with
     | .fn f caps=>(match FN N.mo f with|some ms=>some (f,c.args.toList++caps.map .tmp,ms)|none=>none)
     | _=>none)
   | _=>none)
 | _=>none
def jo (P:Program) (TE:Nat->Option TI) (N:eL) (ops:Array Oper) (o:Oper) (K:(Nat->AV)->Prop) (F:Nat->AV):Prop:=
 eP F ops o.guard (fun F=>match GS N F o.op with
   | some p=>lH P N F o.dst p.1 p.2.1 p.2.2 K
   | none=>match o.dst with
     | none=>(match o.op with|.store T x y=>lR TE F T x y K|.mapUpdate T m x y=>nY TE F T m x y K|_=>False)
     | some d=>nl P TE N d o.op K F)
  (fun F=>match o.dst with|none=>K F|some d=>bL N F d (.hold (.tup []) []) K)
def Ho (P:Program) (TE:Nat->Option TI) (N:eL) (ops:Array Oper):List Oper->((Nat->AV)->Prop)->(Nat->AV)->Prop
 | [],K,F=>K F
 | o::rest,K,F=>jo P TE N ops o (Ho P TE N ops rest K) F
section
variable {P:Program} {w0 w w1:World} {M S0 S:ac} {N:eL} {φ:Nat->ac} {F:Nat->AV} {a:Act} {TE:Nat->Option TI}
theorem bh.asg (h:bh w0 M S0 N S φ F a w) {d:Nat} {x:Operand} {K:(Nat->AV)->Prop} (hp:yW N F d x K):∃ F',K F'/\St w0 M S0 N F' (a.put (some d) (a.eval x)) w:=by
 unfold yW at hp;cases hb:zU N F d x with
 | none=>rw[hb]at hp;exact h.assign hp
 | some p=>
  rw[hb]at hp;obtain⟨rfl,hF⟩:=y5 hb;have hs:=h.slot p.1;rw[hF]at hs;have hfree:Free w0 M S (fun s=>if s=p.1 then NO else φ s) w (φ p.1):=fun b o hbo=>by
   refine⟨fun s hs=>?_,h.disS p.1 b o hbo,h.ex p.1 b o hbo⟩;replace hs:(if s=p.1 then NO else φ s) b o:=hs;by_cases e:s=p.1
   ·rw[if_pos e]at hs;exact hs
   ·rw[if_neg e]at hs;exact h.dis s p.1 e b o hs hbo
  have hv:cn w S (kill F p.1) (tvs a) (φ p.1) (.hold .box p.2) (tvs a p.1):=hs;exact(h.forget p.1).putD_free hv hfree hp
theorem vg (h:bh w0 M S0 N S φ F a w) {ops:Array Oper} {o:Oper} {K1 K0:(Nat->AV)->Prop} (hp:eP F ops o.guard K1 K0) :
  (Region.wanted o (yielded ops a.tmps)=true/\K1 F)\/(Region.wanted o (yielded ops a.tmps)=false/\K0 F):=by
 unfold eP at hp;unfold Region.wanted;cases hg:o.guard with
 | none=>rw[hg]at hp;exact .inl ⟨rfl,hp⟩
 | some p=>
  obtain⟨j,want⟩:=p;rw[hg]at hp;simp only at hp |-;cases hd:(ops[j]?).bind (·.dst) with
  | none=>rw[hd]at hp;exact hp.elim
  | some d=>
   rw[hd]at hp;simp only at hp;split at hp
   case h_3=>exact hp.elim
   case h_2=>
    rename_i sh cs hF;have hs:=h.slot d;rw[hF]at hs;obtain⟨X1,Y,-,-,-,⟨q,htv,-,-⟩,-⟩:=hs;have hyld:yielded ops a.tmps j=none:=by
     unfold yielded;rw[hd];simp only[Option.bind_some];cases hx:a.tmps[d]? with
     | none=>rfl
     | some x=>
      have:tvs a d=x:=by simp[tvs,V4,hx]
      rw[this]at htv;rw[htv]
    rw[hyld];exact .inr ⟨rfl,hp⟩
   rename_i b hF;have hs:=h.slot d;rw[hF]at hs;obtain⟨X1,Y,-,-,-,-,f,h1,-⟩:=hs;have hb:=h1 0 _ rfl;have htv:tvs a d=.bool b:=by
    generalize hy:bS w Kd.one (tvs a d) 0=y at hb;cases hb;exact hy
   have hyld:yielded ops a.tmps j=some b:=by
    unfold yielded;rw[hd];simp only[Option.bind_some];cases hx:a.tmps[d]? with
    | none=>
     have:tvs a d=undef:=by simp[tvs,V4,hx]
     rw[this]at htv;cases htv
    | some x=>
     have:tvs a d=x:=by simp[tvs,V4,hx]
     rw[this]at htv;rw[htv]
   have hset:Bi F d b=F:=by
    funext t
    unfold Bi;cases ht:Nat.beq t d with
    | true=>have:=P1 ht;subst this;rw[hF];rfl
    | false=>rfl
   rw[hyld];replace hp:=Bf.out hp;cases b<;>cases want<;>rw[hset]at hp
   ·exact .inl ⟨rfl,hp⟩
   ·exact .inr ⟨rfl,hp⟩
   ·exact .inr ⟨rfl,hp⟩
   ·exact .inl ⟨rfl,hp⟩
theorem Ko {w:World} {S:ac} {F:Nat->AV} {tv:Nat->Value} : cn w S F tv NO (.hold (.tup []) []) undef:=
 ⟨NO,NO,fun _ _ h=>h,fun _ _ h=>h,fun _ _ h=>h.elim,⟨#[],rfl,trivial,rfl⟩,fun _=>NO,fun _ _ hj=>(by simp at hj),fun _ hj=>absurd hj (Nat.not_lt_zero _),fun _ _ hj=>absurd hj (Nat.not_lt_zero _)⟩
theorem vo {c:Call} {p:Nat × Operand × Operand} (h:pO c=some p):c = ⟨.builtin .append,#[p.2.1,p.2.2],#[p.1,p.1]⟩:=by
 obtain⟨callee,args,ts⟩:=c;unfold pO at h;simp only at h;split at h
 ·split at h
  ·rename_i x y T T2 hx hT
   cases hb:Nat.beq T T2 with
   | false=>rw[hb]at h;cases h
   | true=>
    rw[hb]at h;simp only[cond_true,T0]at h;have:=P1 hb;subst this h;have e1:args = #[x,y]:=by apply Array.ext';simpa using hx
    have e2:ts = #[T,T]:=by apply Array.ext';simpa using hT
    rw[e1,e2]
  ·cases h
 ·cases h
theorem bh.dst (h:bh w0 M S0 N S φ F a w) (hTE:∀ t i,TE t=some i->bY P t i) {o:Oper} {d:Nat} (hd:o.dst=some d) {K:(Nat->AV)->Prop} (hp:nl P TE N d o.op K F)
  {Kc:Act->World->Prop} {Q:Exit->Act->World->Prop} (hk:∀ F' a' w',K F'->St w0 M S0 N F' a' w'->Kc a' w'):o.wp P a w Kc Q:=by
 have pure1:cX P TE F o.op (fun av=>bL N F d av K)->o.wp P a w Kc Q:=fun hp=>by
  obtain⟨av,hK,hy⟩:=h.pure_ hTE hp;refine hy Kc Q fun v w' hn=>?_
  obtain⟨F',hK',hst⟩:=h.putD_new hn hK;rw[hd];exact hk F' _ w' hK' hst
 have val:∀ {v:Value} {w1:World} {F':Nat->AV},(execOp a.eval o).run P w=.ok (.value v) w1->K F'->St w0 M S0 N F' (a.put (some d) v) w1->o.wp P a w Kc Q:=fun {v w1 F'} hr hK hst=>by
  have:=wS.value (P:=P) (o:=o) (a:=a) (w:=w) (w1:=w1) (v:=v) (R:=fun v' w'=>v'=v/\w'=w1) hr ⟨rfl,rfl⟩;refine this Kc Q fun v' w' ⟨e1,e⟩=>?_
  rw[e,e1,hd];exact hk F' _ w1 hK hst
 cases ho:o.op with
 | assign x=>
  rw[ho]at hp;obtain⟨F',hK,hst⟩:=h.asg hp;exact val (by simp[execOp,ho]) hK hst
 | box T x=>
  rw[ho]at hp;obtain⟨v,w1,F',hK,hr,hst⟩:=h.boxW (P:=P) (T:=T) hp;exact val (by simp[execOp,ho,hr]) hK hst
 | build T ps=>
  rw[ho]at hp;obtain⟨v,F',hK,hr,hst⟩:=h.buildW hTE hp;exact val (by simp only[execOp,ho];rw[Sem.run_bind,hr];rfl) hK hst
 | buildSlice T n ps=>
  rw[ho]at hp;obtain⟨v,w1,F',hK,hr,hst⟩:=h.buildSW hTE hp;exact val (by simp only[execOp,ho];rw[Sem.run_bind,hr];rfl) hK hst
 | move x=>
  rw[ho]at hp;obtain⟨F',hK,hst⟩:=h.moveW hp;exact val (by simp[execOp,ho]) hK hst
 | range T x=>
  rw[ho]at hp;obtain⟨v,w1,F',hK,hr,hst⟩:=h.rangeW hTE hp;exact val (by simp[execOp,ho,hr]) hK hst
 | next x str=>
  rw[ho]at hp;cases str with
  | true=>exact hp.elim
  | false=>
   obtain⟨v,w1,F',hK,hr,hst⟩:=h.nextW (P:=P) (ty:=o.type) hp;exact val (by simp[execOp,ho,hr]) hK hst
 | entry x=>
  rw[ho]at hp;obtain⟨v,F',hK,hr,hst⟩:=h.entryW (P:=P) hp;exact val (by simp[execOp,ho,hr]) hK hst
 | call c=>
  rw[ho]at hp;simp only[nl]at hp;cases ha:pO c with
  | none=>rw[ha]at hp;exact pure1 (by rw[ho];exact hp)
  | some p=>
   rw[ha]at hp;obtain⟨v,w1,F',hK,hr,hst⟩:=h.appW (ty:=o.type) hTE hp;have:=vo ha;subst this;exact val (by simp[execOp,ho,resolve,invoke,builtin,hr]) hK hst
 | _=>rw[ho]at hp;exact pure1 (by rw[ho];exact hp)
theorem JJ (h:bh w0 M S0 N S φ F a w) {o:Oper} {p:Nat × List Operand × List Nat} (hm:GS N F o.op=some p):Ht P p.1->(execOp a.eval o).run P w=.ok (.enter p.1 (p.2.1.map a.eval).toArray) w:=by
 intro hH;unfold GS at hm;split at hm
 case h_2=>cases hm
 rename_i c ho;obtain⟨callee,args,ts⟩:=c;simp only at hm;split at hm
 ·rename_i f
  split at hm
  ·cases hm
   have:=AZ (a:=a) (w:=w) ho hH;rw[this]
   congr 2
   apply Array.ext';rw[Array.toList_map]
  ·cases hm
 ·rename_i t
  have hs:=h.slot t;split at hm
  ·rename_i f caps hF
   rw[hF]at hs;split at hm
   ·cases hm
    have hrun:=rE (a:=a) (w:=w) (caps:=caps.map (tvs a)) ho hH hs;rw[hrun]
    congr 2
    rw[C4,List.map_map]
    rfl
   ·cases hm
  ·cases hm
 ·cases hm
theorem bh.one (h:bh w0 M S0 N S φ F a w) (hTE:∀ t i,TE t=some i->bY P t i) {ops:Array Oper} {o:Oper} {K:(Nat->AV)->Prop} (hp:jo P TE N ops o K F)
  {Kc:Act->World->Prop} {Q:Exit->Act->World->Prop} (hk:∀ F' a' w',K F'->St w0 M S0 N F' a' w'->Kc a' w') :
  if Region.wanted o (yielded ops a.tmps) then o.wp P a w Kc Q else Kc (a.put o.dst undef) w:=by
 unfold jo at hp;rcases vg h hp with⟨hw,hp⟩|⟨hw,hp⟩
 ·rw[hw,if_pos rfl]
  cases hm:GS N F o.op with
  | some p=>
   rw[hm]at hp;exact h.callM (JJ h hm) hp hk
  | none=>
  rw[hm]at hp;simp only at hp;cases hd:o.dst with
  | none=>
   rw[hd]at hp;simp only at hp;split at hp
   ·rename_i T x y ho
    obtain⟨F',w1,hK,hrun,hst⟩:=h.storeOp hTE hp;have:=wS.skip (P:=P) (o:=o) (a:=a) (w:=w) (w1:=w1) (R:=fun v w'=>v=undef/\w'=w1) (by simp[execOp,ho,hrun]) ⟨rfl,rfl⟩;refine this Kc Q fun v w' ⟨_,e⟩=>?_
    rw[e,hd];exact hk F' a w1 hK hst
   ·rename_i T m x y ho
    obtain⟨F',w1,hK,hrun,hst⟩:=h.mapUpd hTE hp;have:=wS.skip (P:=P) (o:=o) (a:=a) (w:=w) (w1:=w1) (R:=fun v w'=>v=undef/\w'=w1) (by simp[execOp,ho,hrun]) ⟨rfl,rfl⟩;refine this Kc Q fun v w' ⟨_,e⟩=>?_
    rw[e,hd];exact hk F' a w1 hK hst
   ·exact hp.elim
  | some d=>
   rw[hd]at hp;exact h.dst hTE hd hp hk
 ·rw[hw,if_neg (by simp)]
  cases hd:o.dst with
  | none=>rw[hd]at hp;exact hk F a w hp ⟨S,φ,h⟩
  | some d=>
   rw[hd]at hp;obtain⟨F',hK,hst⟩:=h.putD_new (v:=undef) (kM.same (av:=.hold (.tup []) []) Ko) hp;exact hk F' _ w hK hst
theorem BN (hTE:∀ t i,TE t=some i->bY P t i) {ops:Array Oper} {K:(Nat->AV)->Prop} {Q:Exit->Act->World->Prop} (hk:∀ F' a' w',K F'->St w0 M S0 N F' a' w'->Q .normal a' w') :
  ∀ (l:List Oper) (F:Nat->AV) (a:Act) (w:World),Ho P TE N ops l K F->St w0 M S0 N F a w->wpList P ops Q l a w
 | [],F,a,w,hp,hs=>hk F a w hp hs
 | o::l,F,a,w,hp,⟨S,φ,h⟩=>by
  have:=h.one hTE hp (Kc:=wpList P ops Q l) (Q:=Q) fun F' a' w' hK hs=>BN hTE hk l F' a' w' hK hs
  unfold wpList;split
  ·rename_i hw;rw[if_pos hw]at this;exact .inl this
  ·rename_i hw;rw[if_neg hw]at this;exact this
end
def tm:Operand->List Nat
 | .tmp t=>[t]
 | _=>[]
def im (F F':Nat->AV) (ts:List Nat):Prop:=∀ t,t∈ts->F' t=F t/\∀ t',(F t).uses t'=true->∀ k cs,F t'=.hold k cs->F' t'=.hold k cs
theorem im.mono {F F':Nat->AV} {ts ts':List Nat} (h:im F F' ts) (hs:∀ t,t∈ts'->t∈ts):im F F' ts':=fun t ht=>h t (hs t ht)
theorem im.ev {F F':Nat->AV} {x:Operand} (h:im F F' (tm x)):lA F' x=lA F x:=by
 cases x with
 | tmp t=>exact(h t (by simp[tm])).1
 | _=>rfl
def d6 (F:Nat->AV) (ts:List Nat) (av:AV):Prop:=∀ d,av.uses d=true->d∈ts\/∃ t,t∈ts/\(F t).uses d=true
theorem d6.hold (F:Nat->AV) (ts:List Nat) (k:Kd) (cs:List C):d6 F ts (.hold k cs):=fun d h=>by cases h
theorem d6.iref (F:Nat->AV) (ts:List Nat) (r:List C) (o:Nat):d6 F ts (.iref r o):=fun d h=>by cases h
def mC (p:(Nat->AV)->(AV->Prop)->Prop) (F:Nat->AV) (ts:List Nat) (K:AV->Prop):Prop:=∃ av,K av/\d6 F ts av/\∀ F',im F F' ts->∀ K':AV->Prop,K' av->p F' K'
section
variable {F:Nat->AV} {K:AV->Prop} {TE:Nat->Option TI} {P:Program}
theorem wl {t off:Nat} {st:cm} {k:List C->Nat->Prop} (h:tf F t off st k):∃ r j,k r j/\∀ F':Nat->AV,(∀ k cs,F t=.hold k cs->F' t=.hold k cs)->∀ k':List C->Nat->Prop,k' r j->tf F' t off st k':=by
 obtain⟨kd,cs,r,j,hF,hr,hk⟩:=nS h;refine⟨r,j,hk,fun F' hF' k' hk'=>?_⟩;unfold tf;rw[hF' kd cs hF];cases st with
 | nil=>
  simp only[bQ,T0,Prod.mk.injEq]at hr;obtain⟨rfl,rfl⟩:=hr;exact hk'
 | cons s st=>exact Rw.mk hr hk'
theorem km (v:Value) (d:Nat):(jJ v).uses d=false:=by
 cases v with
 | agg arr=>
  simp only[jJ];cases arr.all (·.oneCell')<;>rfl
 | pointer p=>cases p<;>rfl
 | _=>rfl
theorem ci {x:Operand} {k:Option Nat->List C->Prop} (h:gE F (lA F x) k):∃ ag cs,k ag cs/\∀ F':Nat->AV,im F F' (tm x)->∀ k':Option Nat->List C->Prop,k' ag cs->gE F' (lA F' x) k':=by
 cases hx:lA F x with
 | hold kd cs=>
  rw[hx]at h;cases kd with
  | one=>exact⟨_,_,h,fun F' hF k' hk=>by rw[hF.ev,hx];exact hk⟩
  | agg=>exact⟨_,_,h,fun F' hF k' hk=>by rw[hF.ev,hx];exact hk⟩
  | _=>exact h.elim
 | bor t off st ag=>
  rw[hx]at h;replace h:tf F t off st fun r j=>k ag (bq r j (ag.getD 1)):=h
  obtain⟨r,j,hk,hl⟩:=wl h;refine⟨_,_,hk,fun F' hF k' hk'=>?_⟩;rw[hF.ev,hx];refine hl F' (fun kd cs hh=>?_) (fun r j=>k' ag (bq r j (ag.getD 1))) hk';cases x with
  | tmp t0=>
   have hx':F t0=.bor t off st ag:=hx;exact(hF t0 (by simp[tm])).2 t (by rw[hx'];simp[AV.uses]) kd cs hh
  | const v=>
   have:=km v t;rw[show jJ v=.bor t off st ag from hx]at this;simp[AV.uses]at this
  | global g=>cases hx
  | func f=>cases hx
 | dead=>rw[hx]at h;exact h.elim
 | ref=>rw[hx]at h;exact h.elim
 | iref=>rw[hx]at h;exact h.elim
 | fn f caps=>
  rw[hx]at h;cases caps with
  | cons c cs=>exact h.elim
  | nil=>exact⟨_,_,h,fun F' hF k' hk=>by rw[hF.ev,hx];exact hk⟩
 | fv=>rw[hx]at h;exact h.elim
theorem hB {x:Operand} {k:Value->Prop} (h:DL F x k):∃ z,k z/\∀ F':Nat->AV,im F F' (tm x)->∀ k':Value->Prop,k' z->DL F' x k':=by
 obtain⟨ag,cs,hk,hl⟩:=ci h
 match ag,cs,hk with
 | none,[.v z],hk=>exact⟨z,hk,fun F' hF k' hk'=>hl F' hF _ hk'⟩
theorem G4 {F':Nat->AV} {t:Nat} (h:F' t=F t):bm F' (.tmp t) K=bm F (.tmp t) K:=by simp only[bm,h]
theorem iN {x:Operand} (h:bm F x K):mC (fun F K=>bm F x K) F (tm x) K:=by
 cases x with
 | tmp t=>
  have ht:t∈tm (.tmp t):=by simp[tm]
  have fin:∀ av,K av->d6 F (tm (.tmp t)) av->(∀ K':AV->Prop,K' av->bm F (.tmp t) K')->mC (fun F K=>bm F (.tmp t) K) F (tm (.tmp t)) K:=fun av h1 h2 h3=>
   ⟨av,h1,h2,fun F' hA K' hK=>by
     show bm F' (.tmp t) _;rw[G4 (hA t ht).1];exact h3 K' hK⟩
  have loc:∀ d,d=t->d∈tm (.tmp t):=fun d e=>by subst e;exact ht
  cases hF:F t with
  | hold k cs=>
   cases k with
   | box=>
    have e:∀ K',bm F (.tmp t) K'=K' (.ref t 0 []):=fun K'=>by simp only[bm,hF]
    rw[e]at h;exact fin _ h (fun d hd=>.inl (loc d (by simp[AV.uses]at hd;exact hd.symm))) (fun K' hK=>by rw[e];exact hK)
   | one=>
    cases hn:aV cs with
    | true=>
     have e:∀ K',bm F (.tmp t) K'=K' (.hold .one cs):=fun K'=>by simp only[bm,hF,hn,cond_true]
     rw[e]at h;exact fin _ h (d6.hold _ _ _ _) (fun K' hK=>by rw[e];exact hK)
    | false=>
     have e:∀ K',bm F (.tmp t) K'=K' (.bor t 0 [] none):=fun K'=>by simp only[bm,hF,hn,cond_false]
     rw[e]at h;exact fin _ h (fun d hd=>.inl (loc d (by simp[AV.uses]at hd;exact hd.symm))) (fun K' hK=>by rw[e];exact hK)
   | agg=>
    cases hn:aV cs with
    | true=>
     have e:∀ K',bm F (.tmp t) K'=K' (.hold .agg cs):=fun K'=>by simp only[bm,hF,hn,cond_true]
     rw[e]at h;exact fin _ h (d6.hold _ _ _ _) (fun K' hK=>by rw[e];exact hK)
    | false=>
     have e:∀ K',bm F (.tmp t) K'=K' (.bor t 0 [] (some cs.length)):=fun K'=>by simp only[bm,hF,hn,cond_false]
     rw[e]at h;exact fin _ h (fun d hd=>.inl (loc d (by simp[AV.uses]at hd;exact hd.symm))) (fun K' hK=>by rw[e];exact hK)
   | tup sh=>
    cases hn:aV cs with
    | true=>
     have e:∀ K',bm F (.tmp t) K'=K' (.hold (.tup sh) cs):=fun K'=>by simp only[bm,hF,hn,cond_true]
     rw[e]at h;exact fin _ h (d6.hold _ _ _ _) (fun K' hK=>by rw[e];exact hK)
    | false=>simp only[bm,hF,hn,cond_false]at h
  | dead=>
   have e:∀ K',bm F (.tmp t) K'=K' .dead:=fun K'=>by simp only[bm,hF]
   rw[e]at h;exact fin _ h (fun d hd=>by cases hd) (fun K' hK=>by rw[e];exact hK)
  | ref t' off st=>
   have e:∀ K',bm F (.tmp t) K'=K' (.ref t' off st):=fun K'=>by simp only[bm,hF]
   rw[e]at h;exact fin _ h (fun d hd=>.inr ⟨t,ht,by rw[hF];exact hd⟩) (fun K' hK=>by rw[e];exact hK)
  | bor t' off st ag=>
   have e:∀ K',bm F (.tmp t) K'=K' (.bor t' off st ag):=fun K'=>by simp only[bm,hF]
   rw[e]at h;exact fin _ h (fun d hd=>.inr ⟨t,ht,by rw[hF];exact hd⟩) (fun K' hK=>by rw[e];exact hK)
  | iref r off=>
   have e:∀ K',bm F (.tmp t) K'=K' (.iref r off):=fun K'=>by simp only[bm,hF]
   rw[e]at h;exact fin _ h (fun d hd=>by cases hd) (fun K' hK=>by rw[e];exact hK)
  | fn f caps=>
   have e:∀ K',bm F (.tmp t) K'=K' (.fn f caps):=fun K'=>by simp only[bm,hF]
   rw[e]at h;exact fin _ h (fun d hd=>.inr ⟨t,ht,by rw[hF];exact hd⟩) (fun K' hK=>by rw[e];exact hK)
  | fv Ok=>
   have e:∀ K',bm F (.tmp t) K'=K' (.fv Ok):=fun K'=>by simp only[bm,hF]
   rw[e]at h;exact fin _ h (fun d hd=>by cases hd) (fun K' hK=>by rw[e];exact hK)
 | const v=>
  refine⟨_,h,fun d hd=>?_,fun F' _ K' hK=>hK⟩;have:=km v d;rw[show(jJ v).uses d=true from hd]at this;cases this
 | global g=>exact⟨_,h,(fun d hd=>by cases hd),fun F' _ K' hK=>hK⟩
 | func f=>exact⟨_,h,(fun d hd=>by cases hd),fun F' _ K' hK=>hK⟩
theorem FM {i:TI} {t off:Nat} {st:cm} {ts:List Nat} (ht:t∈ts\/∃ t0,t0∈ts/\(F t0).uses t=true) (h:M0 F i t off st K) :
  ∃ av,K av/\d6 F ts av/\∀ F':Nat->AV,(∀ k cs,F t=.hold k cs->F' t=.hold k cs)->∀ K':AV->Prop,K' av->M0 F' i t off st K':=by
 obtain⟨r,j,hk,hl⟩:=wl h;cases hb:Nat.beq (bq r j i.size).length i.size with
 | false=>rw[hb]at hk;exact hk.elim
 | true=>
  rw[hb]at hk;simp only[cond_true]at hk;cases hn:aV (bq r j i.size) with
  | true=>rw[hn]at hk;exact⟨_,hk,d6.hold _ _ _ _,fun F' hF K' hK=>hl F' hF _ (by rw[hb,hn];exact hK)⟩
  | false=>rw[hn]at hk;exact⟨_,hk,fun d hd=>by simp[AV.uses]at hd;subst hd;exact ht,fun F' hF K' hK=>hl F' hF _ (by rw[hb,hn];exact hK)⟩
theorem Jk {T:Nat} {x:Operand} (h:sB TE F T x K):mC (fun F K=>sB TE F T x K) F (tm x) K:=by
 unfold sB at h;cases hT:TE T with
 | none=>rw[hT]at h;exact h.elim
 | some i=>
  rw[hT]at h;simp only at h;cases ha:(i.agg || Nat.beq i.size 1) with
  | false=>rw[ha]at h;exact h.elim
  | true=>
   rw[ha]at h;simp only[cond_true]at h;cases x with
   | tmp t=>
    have ht:t∈tm (.tmp t):=by simp[tm]
    simp only at h;have same:∀ {F'},im F F' (tm (.tmp t))->F' t=F t:=fun hF=>(hF t ht).1
    have unf:∀ {F'} {K':AV->Prop},im F F' (tm (.tmp t))->(match F t with|.hold .box _=>M0 F' i t 0 [] K'|.ref t off st=>M0 F' i t off st K'|.iref r off=>bif Nat.beq (bq r off i.size).length i.size then K' (.hold (jY (ot i)) (bq r off i.size)) else False|_=>False)->sB TE F' T (.tmp t) K':=fun hA hh=>by
     unfold sB;rw[hT];simp only[ha,cond_true];rw[same hA];exact hh
    cases hF:F t with
    | hold k cs=>
     rw[hF]at h;cases k with
     | box=>
      obtain⟨av,h1,h2,h3⟩:=FM (ts:=tm (.tmp t)) (.inl ht) h;exact⟨av,h1,h2,fun F' hA K' hK=>unf hA (by rw[hF];exact h3 F' (fun k cs hh=>(same hA).trans hh) K' hK)⟩
     | _=>exact h.elim
    | ref t' off st=>
     rw[hF]at h;have hu:(F t).uses t'=true:=by rw[hF];simp[AV.uses]
     obtain⟨av,h1,h2,h3⟩:=FM (ts:=tm (.tmp t)) (.inr ⟨t,ht,hu⟩) h;exact⟨av,h1,h2,fun F' hA K' hK=>unf hA (by rw[hF];exact h3 F' (fun k cs hh=>(hA t ht).2 t' hu k cs hh) K' hK)⟩
    | iref r off=>
     rw[hF]at h;simp only at h;cases hb:Nat.beq (bq r off i.size).length i.size with
     | false=>rw[hb]at h;exact h.elim
     | true=>
      rw[hb]at h;exact⟨_,h,d6.hold _ _ _ _,fun F' hA K' hK=>unf hA (by rw[hF];simp only[hb,cond_true];exact hK)⟩
    | dead=>rw[hF]at h;exact h.elim
    | bor=>rw[hF]at h;exact h.elim
    | fn=>rw[hF]at h;exact h.elim
    | fv=>rw[hF]at h;exact h.elim
   | _=>exact h.elim
theorem DN {x:Operand} {o:Nat} (h:nA F x o K):mC (fun F K=>nA F x o K) F (tm x) K:=by
 cases x with
 | tmp t=>
  have ht:t∈tm (.tmp t):=by simp[tm]
  simp only[nA]at h;cases hF:F t with
  | hold k cs=>
   rw[hF]at h;cases k with
   | box=>exact⟨_,h,fun d hd=>.inl (by simp[AV.uses]at hd;subst hd;exact ht),fun F' hA K' hK=>by simp only[nA,(hA t ht).1,hF];exact hK⟩
   | _=>exact h.elim
  | ref t' off st=>rw[hF]at h;exact⟨_,h,fun d hd=>.inr ⟨t,ht,by rw[hF];exact hd⟩,fun F' hA K' hK=>by simp only[nA,(hA t ht).1,hF];exact hK⟩
  | iref r off=>rw[hF]at h;exact⟨_,h,d6.iref _ _ _ _,fun F' hA K' hK=>by simp only[nA,(hA t ht).1,hF];exact hK⟩
  | dead=>rw[hF]at h;exact h.elim
  | bor=>rw[hF]at h;exact h.elim
  | fn=>rw[hF]at h;exact h.elim
  | fv=>rw[hF]at h;exact h.elim
 | _=>exact h.elim
theorem wR {T:Nat} {x:Operand} {f:Nat} (h:gC TE F T x f K):mC (fun F K=>gC TE F T x f K) F (tm x) K:=by
 unfold gC at h;unfold mC gC;split at h
 case h_2=>exact h.elim
 split at h
 case h_2=>exact h.elim
 rename_i o ft _;split at h
 case h_2=>exact h.elim
 rename_i fi _;cases h0:Nat.beq fi.size 0 with
 | true=>rw[h0]at h;exact h.elim
 | false=>
  rw[h0]at h;simp only[cond_false]at h |-;exact DN h
theorem Bp {size t off:Nat} {st:cm} {c:C} {i:Int} {ts:List Nat} (ht:t∈ts\/∃ t0,t0∈ts/\(F t0).uses t=true) (h:EA size t off st c i K):∃ av,K av/\d6 F ts av/\∀ K':AV->Prop,K' av->EA size t off st c i K':=by
 cases c with
 | s o rows=>
  obtain⟨h0,r,hr,hk⟩:=Ix.out h;cases hb:Nat.beq r.length size with
  | false=>rw[hb]at hk;exact hk.elim
  | true=>
   rw[hb]at hk;simp only[cond_true]at hk;cases hm:o.mine with
   | true=>rw[hm]at hk;exact⟨_,hk,fun d hd=>by simp[AV.uses]at hd;subst hd;exact ht,fun K' hK=>Ix.mk h0 hr (by rw[hb,hm];exact hK)⟩
   | false=>rw[hm]at hk;exact⟨_,hk,d6.iref _ _ _ _,fun K' hK=>Ix.mk h0 hr (by rw[hb,hm];exact hK)⟩
 | _=>exact h.elim
theorem D0 {size:Nat} {x:Operand} {i:Int} (h:me F size x i K):mC (fun F K=>me F size x i K) F (tm x) K:=by
 cases x with
 | tmp t=>
  have ht:t∈tm (.tmp t):=by simp[tm]
  simp only[me]at h;cases hF:F t with
  | hold k0 cs=>
   rw[hF]at h;cases k0 with
   | one=>
    match cs,h,hF with
    | [c],h,hF=>
     obtain⟨av,h1,h2,h3⟩:=Bp (ts:=tm (.tmp t)) (.inl ht) h;exact⟨av,h1,h2,fun F' hA K' hK=>by simp only[me,(hA t ht).1,hF];exact h3 K' hK⟩
   | _=>exact h.elim
  | bor t' off st ag=>
   rw[hF]at h;cases ag with
   | none=>
    replace h:tf F t' off st fun r j=>match r[j]? with|some c=>EA size t' off st c i K|none=>False:=h
    obtain⟨r,j,hk,hrl⟩:=wl h;have hu:(F t).uses t'=true:=by rw[hF];simp[AV.uses]
    cases hc:r[j]? with
    | none=>rw[hc]at hk;exact hk.elim
    | some c=>
     rw[hc]at hk;obtain⟨av,h1,h2,h3⟩:=Bp (ts:=tm (.tmp t)) (.inr ⟨t,ht,hu⟩) hk;exact⟨av,h1,h2,fun F' hA K' hK=>by simp only[me,(hA t ht).1,hF];exact hrl F' (fun k cs hh=>(hA t ht).2 t' hu k cs hh) _ (by rw[hc];exact h3 K' hK)⟩
   | some n=>exact h.elim
  | dead=>rw[hF]at h;exact h.elim
  | ref=>rw[hF]at h;exact h.elim
  | iref=>rw[hF]at h;exact h.elim
  | fn=>rw[hF]at h;exact h.elim
  | fv=>rw[hF]at h;exact h.elim
 | _=>exact h.elim
theorem wX {T:Nat} {x y:Operand} (h:gF TE F T x y K):mC (fun F K=>gF TE F T x y K) F (tm x++tm y) K:=by
 unfold gF at h;unfold mC gF;split at h
 case h_2=>exact h.elim
 split at h
 case h_2=>exact h.elim
 rename_i ei hei;obtain⟨z,hz,hl⟩:=hB h;cases z with
 | int kk i=>
  obtain⟨av,h1,h2,h3⟩:=D0 hz;refine⟨av,h1,fun d hd=>(h2 d hd).imp (fun h=>by simp[h]) (fun⟨t,ht,hu⟩=>⟨t,by simp[ht],hu⟩),fun F' hA K' hK=>?_⟩;exact hl F' (hA.mono (by simp +contextual)) _ (h3 F' (hA.mono (by simp +contextual)) K' hK)
 | _=>exact hz.elim
end
inductive D8 (bs:List C) (off:Nat) (K:List C->Prop):Prop
 |mk_ (h:∃ o rows rows' bs',bs[off]? = some (.s o rows)/\fz (.s o rows)=.s .imm rows'/\bs'=splice bs off [.s .imm rows']/\K bs')
theorem D8.mk {bs bs':List C} {off:Nat} {K:List C->Prop} {o:dz} {rows rows':List (List C)} (h1:bs[off]? = some (.s o rows)) (h2:fz (.s o rows)=.s .imm rows') (h3:bs'=splice bs off [.s .imm rows']) (hK:K bs'):D8 bs off K:=by refine .mk_ ?_;exact⟨o,rows,rows',bs',h1,h2,h3,hK⟩
theorem D8.out {bs:List C} {off:Nat} {K:List C->Prop} (h:D8 bs off K):∃ o rows,bs[off]? = some (.s o rows)/\K (splice bs off [fz (.s o rows)]):=by
 obtain⟨h⟩:=h;obtain⟨o,rows,rows',bs',h1,h2,rfl,h3⟩:=h;exact⟨o,rows,h1,by rw[h2];exact h3⟩
def pS (t:Nat):List Nat->((Nat->AV)->Prop)->(Nat->AV)->Prop
 | [],K,F=>K F
 | off::l,K,F=>(match F t with
   | .hold k bs=>D8 bs off fun bs'=>pS t l K (updH F t k bs')
   | _=>False)
theorem za {cs:List C} {off:Nat} {c c':C} (h:off<cs.length):splice (splice cs off [c]) off [c']=splice cs off [c']:=by
 apply List.ext_getElem?;intro j;have hl:(splice cs off [c]).length=cs.length:=by simp[splice];omega
 rw[fT (by rw[hl];simp;omega),fT (by simp;omega),fT (by simp;omega)];simp only[List.length_singleton];split
 ·rfl
 ·rfl
theorem He (t:Nat) (v:AV):qh t (qh t v)=qh t v:=by
 cases v with
 | bor t' off st ag=>simp only[qh];cases hb:Nat.beq t' t<;>simp[hb]
 | ref t' off st=>
  cases st with
  | nil=>rfl
  | cons s st=>simp only[qh];cases hb:Nat.beq t' t<;>simp[hb]
 | _=>rfl
theorem E4 (F:Nat->AV) (t:Nat) (k:Kd) (x y:List C):updH (updH F t k x) t k y=updH F t k y:=by
 funext s
 by_cases e:s=t
 ·subst e;rw[gd,gd]
 ·rw[eA _ _ _ e,eA _ _ _ e,eA _ _ _ e,He]
theorem bh.fzCell {w0 w:World} {M S0 S:ac} {N:eL} {φ:Nat->ac} {F:Nat->AV} {a:Act} (h:bh w0 M S0 N S φ F a w) {t off:Nat} {k:Kd} {bs:List C} {o:dz} {rows:List (List C)} (hF:F t=.hold k bs) (hb:bs[off]? = some (.s o rows)):St w0 M S0 N (updH F t k (splice bs off [fz (.s o rows)])) a w:=by
 have hlt:off<bs.length:=(R1.1 hb).1;have htk:bq bs off 1=[.s o rows]:=by
  unfold bq;rw[List.drop_eq_getElem_cons hlt,List.take_one];have:=R1.1 hb;simp[this.2]
 obtain⟨V,X,h1,h2,hX,h3,h4⟩:=h.take hF (off:=off) (n:=1) (by omega);rw[htk]at h3;have hV:Free w0 M S (fun s=>if s=t then X else φ s) w V:=fun b o hb=>by
  refine⟨fun s hs=>?_,h.disS t b o (h1 b o hb),h.ex t b o (h1 b o hb)⟩;replace hs:(if s=t then X else φ s) b o:=hs;by_cases e:s=t
  ·rw[if_pos e]at hs;exact h2 b o hb hs
  ·rw[if_neg e]at hs;exact h.dis s t e b o hs (h1 b o hb)
 have h5:=h4.addS (S':=fun b o=>S b o\/V b o) hV (fun _ _ h=>.inl h) (fun _ _ h=>h);have hsl:(splice bs off (List.replicate 1 C.x)).length=bs.length:=by simp[splice];omega
 obtain⟨φ',h6,-⟩:=h5.back (out:=[fz (.s o rows)]) (off:=off) (j:=off) (st:=[]) (r:=splice bs off (List.replicate 1 .x)) (gd ..) rfl trivial (by rw[hsl];simp;omega) (V:=NO) (fun _ _ h=>h.elim) (h3.freeze.congr fun d _=>rfl);rw[E4]at h6;rw[<-za (c:=.x) hlt];exact⟨_,φ',h6⟩
theorem tZ {w0 w:World} {M S0:ac} {N:eL} {a:Act} {t:Nat} {K:(Nat->AV)->Prop} : ∀ {offs:List Nat} {F:Nat->AV},pS t offs K F->St w0 M S0 N F a w->∃ F',K F'/\St w0 M S0 N F' a w
 | [],F,hp,hs=>⟨F,hp,hs⟩
 | off::l,F,hp,hs=>by
  unfold pS at hp;cases hF:F t with
  | hold k bs=>
   rw[hF]at hp;obtain⟨o,rows,h1,h2⟩:=D8.out hp;obtain⟨S,φ,h⟩:=hs;exact tZ h2 (h.fzCell hF h1)
  | _=>rw[hF]at hp;exact hp.elim
def Hw (mo:List (Nat × List Nat)) (id:Nat) (K:(Nat->AV)->Prop) (F:Nat->AV):Prop:=
 match FN mo (id+2000000) with
 | some l=>(match l with
   | t::offs=>pS t offs K F
   | []=>K F)
 | none=>K F
theorem My {w0 w:World} {M S0:ac} {N:eL} {a:Act} {mo:List (Nat × List Nat)} {id:Nat} {K:(Nat->AV)->Prop} {F:Nat->AV} (hp:Hw mo id K F) (hs:St w0 M S0 N F a w):∃ F',K F'/\St w0 M S0 N F' a w:=by
 unfold Hw at hp;split at hp
 ·split at hp
  ·exact tZ hp hs
  ·exact⟨F,hp,hs⟩
 ·exact⟨F,hp,hs⟩
def lay:List (Nat × AV)->Nat->AV
 | [],_=>.dead
 | p::l,t=>bif Nat.beq t p.1 then p.2 else lay l t
def Lk:C->C->Prop
 | _,.x=>True
 | .z,.s .imm rows=>rows=[]
 | .z,.s .own rows=>rows=[]
 | .s (.tag _) rows,.s .own rows'=>rows=rows'
 | c,c'=>c=c'
def Jm:List C->List C->Prop
 | [],[]=>True
 | c::cs,c'::cs'=>Lk c c'/\Jm cs cs'
 | _,_=>False
def M5 (F F1:Nat->AV) (t:Nat) (av:AV):Prop:=
 match av with
 | .dead=>True
 | .hold k cs=>(match F t with|.hold k' cs'=>k'=k/\Jm cs' cs|_=>False)
 | .ref t' off st=>F t=.ref t' off st/\F1 t'=F t'
 | .bor t' off st ag=>F t=.bor t' off st ag/\F1 t'=F t'
 | .iref r off=>F t=.iref r off
 | .fn f caps=>F t=.fn f caps
 | .fv Ok=>F t=.fv Ok
def HX (F F1:Nat->AV):List (Nat × AV)->Prop
 | []=>True
 | p::l=>M5 F F1 p.1 p.2/\HX F F1 l
def Wk (F:Nat->AV) (L:List (Nat × AV)):Prop:=HX F (lay L) L
theorem vJ {F F1:Nat->AV} : ∀ {L:List (Nat × AV)},HX F F1 L->∀ t,lay L t=.dead\/M5 F F1 t (lay L t)
 | [],_,t=>.inl rfl
 | p::L,h,t=>by
  simp only[lay];cases hb:Nat.beq t p.1 with
  | true=>
   have:=P1 hb;subst this;exact .inr h.1
  | false=>exact vJ h.2 t
def fz1 (t:Nat) (F:Nat->AV):Nat->AV:=fun s=>bif Nat.beq s t then(match F s with|.hold k cs=>.hold k (d3 cs)|.dead=>.dead|.ref ..=>.dead|.bor ..=>.dead|.iref ..=>.dead|.fn ..=>.dead|.fv _=>.dead) else kl t (F s)
def fzA:List Nat->(Nat->AV)->Nat->AV
 | [],F=>F
 | t::ts,F=>fzA ts (fz1 t F)
def ND (F:Nat->AV) (x:Operand) (K:Bool->Prop):Prop:=DL F x fun v=>match v with|.bool b=>K b|_=>False
def Nb (K:(Nat->AV)->Prop) (Q:Exit->(Nat->AV)->Prop):Exit->(Nat->AV)->Prop:=fun e F=>match e with|.normal=>K F|e=>Q e F
def NU (id:Nat) (Q:Exit->(Nat->AV)->Prop):Exit->(Nat->AV)->Prop:=fun e F=>match e with|.exit i=>bif Nat.beq i id then Q .normal F else Q (.exit i) F|e=>Q e F
inductive Nx (ι:Type) (L:ι->List (Nat × AV)) (inv:ι->Prop) (μ:ι->Nat) (i:ι) (F:Nat->AV):Prop
 |mk_ (h:∃ i',inv i'/\μ i'<μ i/\Wk F (L i'))
theorem Nx.mk {ι:Type} {L:ι->List (Nat × AV)} {inv:ι->Prop} {μ:ι->Nat} {i:ι} {F:Nat->AV} (i':ι) (h1:inv i') (h2:μ i'<μ i) (h3:Wk F (L i')):Nx ι L inv μ i F:=by refine .mk_ ?_;exact⟨i',h1,h2,h3⟩
theorem Nx.out {ι:Type} {L:ι->List (Nat × AV)} {inv:ι->Prop} {μ:ι->Nat} {i:ι} {F:Nat->AV} (h:Nx ι L inv μ i F):∃ i',inv i'/\μ i'<μ i/\Wk F (L i'):=by obtain⟨h⟩:=h;exact h
inductive Lp (body:(Exit->(Nat->AV)->Prop)->(Nat->AV)->Prop) (Q:Exit->(Nat->AV)->Prop) (F:Nat->AV):Prop
 |mk_ (h:∃ (ts:List Nat) (ι:Type) (L:ι->List (Nat × AV)) (inv:ι->Prop) (μ:ι->Nat) (i0:ι),Wk (fzA ts F) (L i0)/\inv i0/\∀ i,inv i->body (Nb (Nx ι L inv μ i) Q) (lay (L i)))
theorem Lp.mk {body:(Exit->(Nat->AV)->Prop)->(Nat->AV)->Prop} {Q:Exit->(Nat->AV)->Prop} {F:Nat->AV} {ι:Type} (L:ι->List (Nat × AV)) (inv:ι->Prop) (μ:ι->Nat) (i0:ι) (h0:Wk F (L i0)) (h1:inv i0) (h2:∀ i,inv i->body (Nb (Nx ι L inv μ i) Q) (lay (L i))):Lp body Q F:=by refine .mk_ ?_;exact⟨[],ι,L,inv,μ,i0,h0,h1,h2⟩
theorem Lp.fz {body:(Exit->(Nat->AV)->Prop)->(Nat->AV)->Prop} {Q:Exit->(Nat->AV)->Prop} {F:Nat->AV} {ι:Type} (t:Nat) (L:ι->List (Nat × AV)) (inv:ι->Prop) (μ:ι->Nat) (i0:ι) (h0:Wk (fz1 t F) (L i0)) (h1:inv i0) (h2:∀ i,inv i->body (Nb (Nx ι L inv μ i) Q) (lay (L i))):Lp body Q F:=by refine .mk_ ?_;exact⟨[t],ι,L,inv,μ,i0,h0,h1,h2⟩
theorem Lp.out {body:(Exit->(Nat->AV)->Prop)->(Nat->AV)->Prop} {Q:Exit->(Nat->AV)->Prop} {F:Nat->AV} (h:Lp body Q F):∃ (ts:List Nat) (ι:Type) (L:ι->List (Nat × AV)) (inv:ι->Prop) (μ:ι->Nat) (i0:ι),Wk (fzA ts F) (L i0)/\inv i0/\∀ i,inv i->body (Nb (Nx ι L inv μ i) Q) (lay (L i)):=by obtain⟨h⟩:=h;exact h
def aw (P:Program) (TE:Nat->Option TI) (N:eL) (D:Nat->Array Oper->((Nat->AV)->Prop)->(Nat->AV)->Prop):Code->(Exit->(Nat->AV)->Prop)->(Nat->AV)->Prop
 | .skip,Q,F=>Q .normal F
 | .region id ops draw,Q,F=>bif draw then D id ops (Q .normal) F else Hw N.mo id (Ho P TE N ops ops.toList (Q .normal)) F
 | .seq x y,Q,F=>aw P TE N D x (Nb (aw P TE N D y Q) Q) F
 | .cond c x y,Q,F=>ND F c fun b=>Bf b (aw P TE N D x Q F) (aw P TE N D y Q F)
 | .block id c,Q,F=>aw P TE N D c (NU id Q) F
 | .loop c,Q,F=>Lp (aw P TE N D c) Q F
 | .exit id,Q,F=>Q (.exit id) F
 | .ret,Q,F=>Q .ret F
 | _,_,_=>False
section
variable {P:Program} {w0 w w1:World} {M S0 S:ac} {N:eL} {φ:Nat->ac} {F:Nat->AV} {a:Act} {TE:Nat->Option TI}
theorem KD {Y:ac} {c c':C} {v:Value} (hc:Lk c c') (h:dP w S Y c v):dP w S Y c' v:=by
 unfold Lk at hc;split at hc
 ·exact .x _ _ h.one
 ·subst hc
  obtain⟨b,rfl⟩:=uL h;exact .nil _ _ _ trivial
 ·subst hc
  obtain⟨b,rfl⟩:=uL h;exact .nil _ _ _ trivial
 ·subst hc
  rename_i v' rows;generalize he:C.s (.tag v') rows=c0 at h;cases h with
  | nil F o a ho=>cases he;exact .nil _ _ _ trivial
  | imm=>cases he
  | own F o g k n cap rows u f ho hn hk hcap hpos hF hu hf hd hc=>cases he;exact .own _ .own g k n cap rows u f trivial hn hk hcap hpos hF hu hf hd hc
  | _=>cases he
 ·subst hc;exact h
theorem qS:∀ {cs cs':List C},Jm cs cs'->cs.length=cs'.length/\∀ (j:Nat) (c':C),cs'[j]? = some c'->∃ c,cs[j]? = some c/\Lk c c'
 | [],[],_=>⟨rfl,fun j c' h=>by simp at h⟩
 | c::cs,c'::cs',h=>by
  obtain⟨h1,h2⟩:=qS h.2;refine⟨by simp[h1],fun j y hj=>?_⟩;cases j with
  | zero=>simp at hj;subst hj;exact⟨c,rfl,h.1⟩
  | succ j=>exact h2 j y (by simpa using hj)
 | [],_::_,h=>h.elim
 | _::_,[],h=>h.elim
theorem zl {Y:ac} {cs cs':List C} {u:Nat->Value} (hc:Jm cs cs') (h:cF w S Y cs u):cF w S Y cs' u:=by
 obtain⟨hl,hg⟩:=qS hc;obtain⟨f,h1,h2,h3⟩:=h;exact⟨f,fun j c hj=>by obtain⟨c0,e1,e2⟩:=hg j c hj;exact KD e2 (h1 j c0 e1),fun j hj=>h2 j (by omega),fun j j' hj hj'=>h3 j j' (by omega) (by omega)⟩
theorem St.weaken {L:List (Nat × AV)} (h:St w0 M S0 N F a w) (hw:Wk F L):St w0 M S0 N (lay L) a w:=by
 obtain⟨S,φ,h⟩:=h;refine⟨S,φ,fun t=>?_,h.dis,h.disS,h.ex,h.sub,h.sup,h.old,h.size,h.defers,h.par⟩;rcases vJ hw t with hd|hd
 ·rw[hd];trivial
 ·have hs:=h.slot t
  cases hav:lay L t with
  | dead=>trivial
  | hold k cs=>
   rw[hav]at hd;simp only[M5]at hd;split at hd
   case h_2=>exact hd.elim
   rename_i k' cs' hF;obtain⟨rfl,hcs⟩:=hd;rw[hF]at hs;obtain⟨X1,Y,h1,h2,h3,h4,h5⟩:=hs;exact⟨X1,Y,h1,h2,h3,by rw[<-(qS hcs).1];exact h4,zl hcs h5⟩
  | ref t' off st=>
   rw[hav]at hd;rw[hd.1]at hs;obtain⟨k,cs,r,j,g,o,h1,h2⟩:=hs;exact⟨k,cs,r,j,g,o,by rw[hd.2];exact h1,h2⟩
  | bor t' off st ag=>
   rw[hav]at hd;rw[hd.1]at hs;obtain⟨k,cs,r,j,h1,h2⟩:=hs;exact⟨k,cs,r,j,by rw[hd.2];exact h1,h2⟩
  | iref r off=>
   rw[hav]at hd;have hd:F t=.iref r off:=hd;rw[hd]at hs;exact hs
  | fn f caps=>
   rw[hav]at hd;have hd:F t=.fn f caps:=hd;rw[hd]at hs;exact hs
  | fv Ok=>
   rw[hav]at hd;have hd:F t=.fv Ok:=hd;rw[hd]at hs;exact hs
theorem St.fz1 (h:St w0 M S0 N F a w) (t:Nat):St w0 M S0 N (Ab.fz1 t F) a w:=by
 obtain⟨S,φ,h⟩:=h;have hne:∀ {s},s≠t->Ab.fz1 t F s=kl t (F s):=fun {s} hs=>by
  have:Nat.beq s t=false:=by rw[<-t4,Nat.beq_eq];exact hs
  simp[Ab.fz1,this]
 have hkeep:∀ (S':ac),(∀ b o,S b o->S' b o)->∀ s,s≠t->cn w S' (Ab.fz1 t F) (tvs a) (φ s) (Ab.fz1 t F s) (tvs a s):=fun S' hS s hs=>by
  rw[hne hs,xI];cases hu:(F s).uses t with
  | true=>trivial
  | false=>
   simp only[cond_false];refine(h.slot s).keep (φ:=φ) (fun t _ _ _=>h.slot t) (fun t' hu'=>?_) (fun _ _ _=>⟨rfl,rfl⟩) (fun _ _ _=>⟨rfl,rfl⟩) (fun _ _ h=>h) hS;have hn:t'≠t:=fun e=>by subst e;rw[hu]at hu';cases hu'
   exact⟨fun k cs he=>by rw[hne hn,he,Ar],rfl,fun _ _ _=>⟨rfl,rfl⟩⟩
 have hdead:(∀ k cs,F t≠.hold k cs)->St w0 M S0 N (Ab.fz1 t F) a w:=fun hn=>by
  refine⟨S,fun s=>if s=t then NO else φ s,fun s=>?_,fun s s' hss b o hb hb'=>?_,fun s b o hb=>?_,fun s b o hb=>?_,h.sub,h.sup,h.old,h.size,h.defers,h.par⟩
  ·by_cases hs:s=t
   ·subst hs
    have:Ab.fz1 s F s=.dead:=by
     unfold Ab.fz1;rw[Nat.beq_refl];simp only[cond_true];cases hF:F s with
     | hold k cs=>exact absurd hF (hn k cs)
     | _=>rfl
    rw[this];trivial
   ·rw[if_neg hs];exact hkeep S (fun _ _ h=>h) s hs
  ·split at hb
   ·exact hb.elim
   ·split at hb'
    ·exact hb'.elim
    ·exact h.dis s s' hss b o hb hb'
  ·split at hb
   ·exact hb.elim
   ·exact h.disS s b o hb
  ·split at hb
   ·exact hb.elim
   ·exact h.ex s b o hb
 cases hF:F t with
 | hold k cs=>
  have hs:=h.slot t;rw[hF]at hs;obtain⟨X1,Y,h1,h2,h3,h4,h5⟩:=hs;have hft:Ab.fz1 t F t=.hold k (d3 cs):=by
   unfold Ab.fz1;rw[Nat.beq_refl];simp only[cond_true,hF]
  refine⟨fun b o=>S b o\/Y b o,fun s=>if s=t then X1 else φ s,fun s=>?_,fun s s' hss b o hb hb'=>?_,fun s b o hb hS=>?_,fun s b o hb=>?_,fun b o hb=>.inl (h.sub b o hb),fun b o hb=>?_,h.old,h.size,h.defers,h.par⟩
  ·by_cases hs:s=t
   ·subst hs
    rw[hft,if_pos rfl];exact⟨X1,NO,fun _ _ h=>h,fun _ _ h=>h.elim,fun _ _ _ h=>h,by rw[bT,U0];exact h4,h5.freeze⟩
   ·rw[if_neg hs];exact hkeep _ (fun _ _ h=>.inl h) s hs
  ·by_cases hs:s=t
   ·rw[if_pos hs]at hb
    by_cases hs':s'=t
    ·exact hss (hs.trans hs'.symm)
    ·rw[if_neg hs']at hb';exact h.dis t s' (Ne.symm hs') b o (h1 b o hb) hb'
   ·rw[if_neg hs]at hb
    by_cases hs':s'=t
    ·rw[if_pos hs']at hb';exact h.dis s t hs b o hb (h1 b o hb')
    ·rw[if_neg hs']at hb';exact h.dis s s' hss b o hb hb'
  ·by_cases hs:s=t
   ·rw[if_pos hs]at hb
    exact hS.elim (h.disS t b o (h1 b o hb)) (h3 b o hb)
   ·rw[if_neg hs]at hb
    exact hS.elim (h.disS s b o hb) fun hy=>h.dis s t hs b o hb (h2 b o hy)
  ·split at hb
   ·exact h.ex t b o (h1 b o hb)
   ·exact h.ex s b o hb
  ·rcases hb with hb|hb
   ·exact h.sup b o hb
   ·exact⟨(h.ex t b o (h2 b o hb)).1,.inr (h.ex t b o (h2 b o hb)).2⟩
 | _=>exact hdead fun k cs e=>by rw[hF]at e;cases e
theorem St.fzA:∀ (ts:List Nat) {F:Nat->AV},St w0 M S0 N F a w->St w0 M S0 N (Ab.fzA ts F) a w
 | [],_,h=>h
 | t::ts,_,h=>St.fzA ts (h.fz1 t)
def fy (ck:Nat->Array Oper->Bool):Code->Bool
 | .region id ops draw=>bif draw then ck id ops else true
 | .seq x y=>fy ck x&&fy ck y
 | .cond _ x y=>fy ck x&&fy ck y
 | .block _ c=>fy ck c
 | .loop c=>fy ck c
 | _=>true
def vj (P:Program) (N:eL) (ck:Nat->Array Oper->Bool) (D:Nat->Array Oper->((Nat->AV)->Prop)->(Nat->AV)->Prop):Prop:=
 ∀ (id:Nat) (ops:Array Oper),ck id ops=true->∀ (K:(Nat->AV)->Prop) (w0:World) (M S0:ac) (F:Nat->AV) (a:Act) (w:World) (Q:Exit->Act->World->Prop),D id ops K F->St w0 M S0 N F a w->(∀ F' a' w',K F'->St w0 M S0 N F' a' w'->Q .normal a' w')->(Code.region id ops true).wp P Q a w
theorem ib (hTE:∀ t i,TE t=some i->bY P t i) {D:Nat->Array Oper->((Nat->AV)->Prop)->(Nat->AV)->Prop} {ck:Nat->Array Oper->Bool} (hD:vj P N ck D):∀ (c:Code),fy ck c=true->∀ (QA:Exit->(Nat->AV)->Prop) (Q:Exit->Act->World->Prop) (F:Nat->AV) (a:Act) (w:World),
  aw P TE N D c QA F->St w0 M S0 N F a w->(∀ e F' a' w',QA e F'->St w0 M S0 N F' a' w'->Q e a' w')->c.wp P Q a w
 | .skip,_,QA,Q,F,a,w,hp,hs,hq=>wp_skip (hq _ _ _ _ hp hs)
 | .region id ops draw,hc,QA,Q,F,a,w,hp,hs,hq=>by
  cases draw with
  | false=>
   obtain⟨F1,hp1,hs1⟩:=My hp hs;exact wp_region_list (BN hTE (fun F' a' w'=>hq .normal F' a' w') _ F1 a w hp1 hs1)
  | true=>exact hD id ops hc _ w0 M S0 F a w Q hp hs (fun F' a' w'=>hq .normal F' a' w')
 | .seq x y,hc,QA,Q,F,a,w,hp,hs,hq=>by
  simp only[fy,I0]at hc;refine wp_seq (ib hTE hD x hc.1 _ _ F a w hp hs fun e F' a' w' he hs'=>?_);cases e with
  | normal=>exact ib hTE hD y hc.2 QA Q F' a' w' he hs' hq
  | _=>exact hq _ F' a' w' he hs'
 | .cond c x y,hck,QA,Q,F,a,w,hp,⟨S,φ,h⟩,hq=>by
  simp only[fy,I0]at hck;obtain⟨hc,-⟩:=h.scalar hp;cases hv:a.eval c<;>rw[hv]at hc<;>try exact hc.elim
  rename_i b;exact wp_cond_split hv (fun hb=>ib hTE hD x hck.1 QA Q F a w (by subst hb;exact Bf.out hc) ⟨S,φ,h⟩ hq) (fun hb=>ib hTE hD y hck.2 QA Q F a w (by subst hb;exact Bf.out hc) ⟨S,φ,h⟩ hq)
 | .block id c,hc,QA,Q,F,a,w,hp,hs,hq=>by
  refine wp_block (ib hTE hD c hc _ _ F a w hp hs fun e F' a' w' he hs'=>?_);cases e with
  | exit i=>
   simp only[NU]at he;simp only[Exit.inBlock];by_cases hi:i=id
   ·subst hi
    rw[if_pos rfl];simp only[Nat.beq_refl,cond_true]at he;exact hq _ F' a' w' he hs'
   ·have hb:Nat.beq i id=false:=by rw[<-t4,Nat.beq_eq];exact hi
    rw[hb]at he;rw[if_neg hi];exact hq _ F' a' w' he hs'
  | _=>exact hq _ F' a' w' he hs'
 | .loop c,hc,QA,Q,F,a,w,hp,hs,hq=>by
  obtain⟨ts,ι,L,inv,μ,i0,h0,hi0,hround⟩:=Lp.out hp;refine wp_loop_ghost (fun n a w=>∃ i,μ i=n/\inv i/\St w0 M S0 N (lay (L i)) a w) (μ i0) ⟨i0,rfl,hi0,(hs.fzA ts).weaken h0⟩ fun n a w ⟨i,hn,hi,hs⟩=>?_
  refine ib hTE hD c hc _ _ (lay (L i)) a w (hround i hi) hs fun e F' a' w' he hs'=>?_
  cases e with
  | normal=>
   obtain⟨i',h1,h2,h3⟩:=Nx.out he;exact⟨μ i',by omega,i',rfl,h1,hs'.weaken h3⟩
  | _=>exact hq _ F' a' w' he hs'
 | .exit id,_,QA,Q,F,a,w,hp,hs,hq=>wp_exit (hq _ _ _ _ hp hs)
 | .ret,_,QA,Q,F,a,w,hp,hs,hq=>wp_ret (hq _ _ _ _ hp hs)
 | .rangeFunc ..,_,_,_,_,_,_,hp,_,_=>hp.elim
 | .scope _,_,_,_,_,_,_,hp,_,_=>hp.elim
 | .label _,_,_,_,_,_,_,hp,_,_=>hp.elim
 | .goto _,_,_,_,_,_,_,hp,_,_=>hp.elim
 | .refuse _,_,_,_,_,_,_,hp,_,_=>hp.elim
end
end Go.Proofs.YtembpgjjnioagaaGreat.Ab
