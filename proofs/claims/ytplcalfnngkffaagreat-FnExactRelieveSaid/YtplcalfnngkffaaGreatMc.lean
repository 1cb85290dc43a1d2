/- Calls that only read what they are handed, on abstract frames; all slot-only operations together. No condition. -/
import Derived.Test.YtplcalfnngkffaaGreatMb
set_option linter.unusedVariables false

namespace Go.Proofs.YtplcalfnngkffaaGreat.Ab
open Go.RowKit
inductive RA where
 |val (ag:Option Nat) (cs:List C)
 |ptr (cs:List C)
 |fn (Ok:ab→World→Value→Prop)
def nU (w:World) (S:ab):RA→Value→Prop
 | .val ag cs,v=>bv w S NO ag cs v
 | .ptr cs,v=>∃ g b u,v=.pointer (some ⟨g,b,none⟩)∧(∀ d,d<cs.length→S g (b+d)∧cel w g (b+d)=some (u d))∧co w S NO cs u
 | .fn Ok,v=>∃ (S1:ab) (w1:World),(∀ b o,S1 b o→S b o)∧bk S1 w1 w∧Ok S1 w1 v
def xa (w:World) (S:ab):List RA→List Value→Prop
 | [],[]=>True
 | A::As,v::vs=>nU w S A v∧xa w S As vs
 | _,_=>False
def Hk (P : Program) (f : Nat) : Prop := ∃ fn, P.funcs[f]? = some fn ∧ (fn.name == "runtime.NumGoroutine") = false ∧ fn.body.isSome = true
structure ah (P:Program) (f:Nat) (sh:Bool) (A:List RA) (k:Kd) (rcs:List C):Prop where
 has:Hk P f
 run:∀ (w:World) (S:ab) (vs:List Value),(∀ b o,S b o→b<w.heap.size)→xa w S A vs→
  Calls P f vs.toArray w fun e w1=>∃ v,e=.returned v∧bw NO w w1∧∃ X S1:ab,(∀ b o,X b o→b<w1.heap.size∧w.heap.size≤b)∧
   (∀ b o,S1 b o→(sh=true∧S b o)∨(b<w1.heap.size∧w.heap.size≤b))∧(∀ b o,X b o→¬S1 b o)∧fy w1 NO k rcs.length v∧co w1 S1 X rcs (bR w1 k v)
structure zU (P:Program) (f:Nat) (sh:Bool) (A:List RA) (k:Kd) (rcs:List C):Prop where
 has:Hk P f
 run:∀ (w:World) (S:ab) (vs:List Value),(∀ b o,S b o→b<w.heap.size)→xa w S A vs→
  Calls P f vs.toArray w fun e w1=>∃ v,e=.returned v∧bw NO w w1∧∃ X S1:ab,(∀ b o,X b o→b<w1.heap.size∧w.heap.size≤b)∧
   (∀ b o,S1 b o→(sh=true∧S b o)∨(b<w1.heap.size∧w.heap.size≤b))∧(∀ b o,X b o→¬S1 b o)∧∃ X1 Y:ab,(∀ b o,X1 b o→X b o)∧(∀ b o,Y b o→X b o)∧(∀ b o,X1 b o→¬Y b o)∧fy w1 X1 k rcs.length v∧co w1 S1 Y rcs (bR w1 k v)
theorem ah.toG {P:Program} {f:Nat} {sh:Bool} {A:List RA} {k:Kd} {rcs:List C} (h:ah P f sh A k rcs):zU P f sh A k rcs:=
 ⟨h.has,fun w S vs hS hA=>(h.run w S vs hS hA).mono fun _ _ ⟨v,he,hk,X,S1,h1,h2,h3,h4,h5⟩=>⟨v,he,hk,X,S1,h1,h2,h3,NO,X,fun _ _ h=>h.elim,fun _ _ h=>h,fun _ _ h=>h.elim,h4,h5⟩⟩
def uh (K:Bool→RA→Prop) (ag:Option Nat) (cs:List C):Prop:=bif aW cs then K true (.val ag cs) else K false (.val ag (ey cs))
def argV (F:Nat→AV) (x:Operand) (K:Bool→RA→Prop):Prop:=
 match nj F x with
 | .hold .box cs=>K false (.ptr (ey cs))
 | .hold .one cs=>uh K none cs
 | .hold .agg cs=>uh K (some cs.length) cs
 | .hold (.tup _) _=>False
 | .bor t off st ag=>iA F (.bor t off st ag) (uh K)
 | .ref t off st=>(match off,st,F t with|0,[],.hold .box cs=>K false (.ptr (ey cs))|_,_,_=>False)
 | .iref r off=>bif Nat.beq off 0 then K true (.ptr r) else False
 | .fv Ok=>K true (.fn Ok)
 | .fn _ _=>False
 | .dead=>False
def mh (F:Nat→AV):List Nat→(List RA→Prop)→Prop
 | [],K=>K []
 | c::cs,K=>(match F c with
   | .hold .box xs=>mh F cs fun D=>K (.ptr (ey xs)::D)
   | .hold .one xs=>mh F cs fun D=>K (.val none (ey xs)::D)
   | .hold .agg xs=>mh F cs fun D=>K (.val (some xs.length) (ey xs)::D)
   | _=>False)
def n7 (P:Program) (Q:List (Option Nat × List C)→Kd→List C→Prop) (S1:ab) (w1:World) (v:Value):Prop:=
 ∃ (f:Nat) (caps:List Value),v=.func (.func f) #[] caps.toArray∧Hk P f∧∀ L k rcs,Q L k rcs→∀ (w:World) (S:ab) (vs:List Value),(∀ b o,S1 b o→S b o)→bk S1 w1 w→(∀ b o,S b o→b<w.heap.size)→xa w S (L.map fun p=>.val p.1 p.2) vs→
  Calls P f (vs++caps).toArray w fun e w1=>∃ v,e=.returned v∧bw NO w w1∧∃ X S1:ab,(∀ b o,X b o→b<w1.heap.size∧w.heap.size≤b)∧
   (∀ b o,S1 b o→(false=true∧S b o)∨(b<w1.heap.size∧w.heap.size≤b))∧(∀ b o,X b o→¬S1 b o)∧fy w1 NO k rcs.length v∧co w1 S1 X rcs (bR w1 k v)
inductive Cq (P:Program) (f:Nat) (D:List RA) (K:(ab→World→Value→Prop)→Prop):Prop
 | mk_ (h:∃ Q:List (Option Nat × List C)→Kd→List C→Prop,Hk P f∧(∀ L k rcs,Q L k rcs→ah P f false (L.map (fun p=>RA.val p.1 p.2)++D) k rcs)∧K (n7 P Q))
theorem Cq.mk {P:Program} {f:Nat} {D:List RA} {K:(ab→World→Value→Prop)→Prop} (Q:List (Option Nat × List C)→Kd→List C→Prop) (h1:Hk P f) (h2:∀ L k rcs,Q L k rcs→ah P f false (L.map (fun p=>RA.val p.1 p.2)++D) k rcs) (hK:K (n7 P Q)):Cq P f D K:=.mk_ ⟨Q,h1,h2,hK⟩
inductive Fv (P:Program) (Ok:ab→World→Value→Prop) (L:List (Option Nat × List C)) (K:AV→Prop):Prop
 |mk_ (h:∃ (Q:List (Option Nat × List C)→Kd→List C→Prop) (k:Kd) (rcs:List C),Ok=n7 P Q∧Q L k rcs∧K (.hold k rcs))
theorem Fv.mk {P:Program} {Q:List (Option Nat × List C)→Kd→List C→Prop} {L:List (Option Nat × List C)} {K:AV→Prop} {k:Kd} {rcs:List C} (h:Q L k rcs) (hK:K (.hold k rcs)):Fv P (n7 P Q) L K:=.mk_ ⟨Q,k,rcs,rfl,h,hK⟩
def argA (P:Program) (F:Nat→AV) (x:Operand) (K:Bool→RA→Prop):Prop:=
 match nj F x with
 | .fn f caps=>mh F caps fun D=>Cq P f D fun Ok=>K false (.fn Ok)
 | _=>argV F x K
def zb (P:Program) (F:Nat→AV):List Operand→(Bool→List RA→Prop)→Prop
 | [],K=>K true []
 | x::xs,K=>argA P F x fun b1 A=>zb P F xs fun b As=>K (bif b1 then b else false) (A::As)
def argsV (F:Nat→AV):List Operand→(List (Option Nat × List C)→Prop)→Prop
 | [],K=>K []
 | x::xs,K=>iA F (nj F x) fun ag cs=>argsV F xs fun L=>K ((ag,bif aW cs then cs else ey cs)::L)
inductive Cl (P:Program) (f:Nat) (b:Bool) (A:List RA) (K:AV→Prop):Prop
 |mk_ (h:∃ sh k rcs,zU P f sh A k rcs∧(sh=false∨b=true)∧K (.hold k rcs))
theorem Cl.mk {P:Program} {f:Nat} {b:Bool} {A:List RA} {K:AV→Prop} {k:Kd} {rcs:List C} (h:ah P f false A k rcs) (hK:K (.hold k rcs)):Cl P f b A K:=by refine .mk_ ?_;exact⟨false,k,rcs,h.toG,.inl rfl,hK⟩
theorem Cl.sh {P:Program} {f:Nat} {b:Bool} {A:List RA} {K:AV→Prop} {k:Kd} {rcs:List C} (h:ah P f true A k rcs) (hb:b=true) (hK:K (.hold k rcs)):Cl P f b A K:=by refine .mk_ ?_;exact⟨true,k,rcs,h.toG,.inr hb,hK⟩
theorem Cl.g {P:Program} {f:Nat} {b sh:Bool} {A:List RA} {K:AV→Prop} {k:Kd} {rcs:List C} (h:zU P f sh A k rcs) (hb:sh=false∨b=true) (hK:K (.hold k rcs)):Cl P f b A K:=by refine .mk_ ?_;exact⟨sh,k,rcs,h,hb,hK⟩
theorem Cl.out {P:Program} {f:Nat} {b:Bool} {A:List RA} {K:AV→Prop} (h:Cl P f b A K):∃ sh k rcs,zU P f sh A k rcs∧(sh=false∨b=true)∧K (.hold k rcs):=by obtain⟨h⟩:=h;exact h
def Gv (P:Program) (F:Nat→AV) (f:Nat) (args:List Operand) (K:AV→Prop):Prop:=
 zb P F args fun b A=>Cl P f b A K
def lN (P:Program) (F:Nat→AV) (t:Nat) (args:List Operand) (K:AV→Prop):Prop:=
 match F t with
 | .fn f caps=>zb P F args fun _ A=>mh F caps fun D=>Cl P f false (A++D) K
 | .fv Ok=>argsV F args fun L=>Fv P Ok L K
 | _=>False
section
variable {P:Program} {w0 w w1:World} {M S0 S:ab} {N:fF} {φ:Nat→ab} {F:Nat→AV} {a:Act}
theorem bv.mono {S S' Y Y':ab} {ag:Option Nat} {cs:List C} {v:Value} (h:bv w S Y ag cs v) (hS:∀ b o,S b o→S' b o) (hY:∀ b o,Y b o→Y' b o):bv w S' Y' ag cs v:=
 ⟨h.1,h.2.choose,h.2.choose_spec.1,h.2.choose_spec.2.mono hS hY⟩
theorem bv.freeze {Y:ab} {ag:Option Nat} {cs:List C} {v:Value} (h:bv w S Y ag cs v):bv w (fun b o=>S b o∨Y b o) NO ag (ey cs) v:=
 ⟨by rw[cr,List.length_map];exact h.1,h.2.choose,h.2.choose_spec.1,h.2.choose_spec.2.freeze⟩
def mC (S:ab) (φ:Nat→ab):ab:=fun b o=>S b o∨∃ t,φ t b o
theorem bv.keepS {S':ab} {ag:Option Nat} {cs:List C} {v:Value} (h:bv w S NO ag cs v) (hS:bk S w w1) (hm:∀ b o,S b o→S' b o):bv w1 S' NO ag cs v:=by
 obtain⟨h1,u,h2,h3⟩:=h
 exact⟨h1,u,h2,(h3.keep hS (fun _ _ h=>h.elim)).mono hm (fun _ _ h=>h)⟩
theorem nU.keep {S':ab} {A:RA} {v:Value} (h:nU w S A v) (hS:bk S w w1) (hm:∀ b o,S b o→S' b o):nU w1 S' A v:=by
 cases A with
 | val ag cs=>exact bv.keepS h hS hm
 | ptr cs=>
  obtain⟨g,b,u,h1,h2,h3⟩:=h
  exact⟨g,b,u,h1,fun d hd=>⟨hm _ _ (h2 d hd).1,(hS _ _ (h2 d hd).1).1.trans (h2 d hd).2⟩,(h3.keep hS (fun _ _ h=>h.elim)).mono hm (fun _ _ h=>h)⟩
 | fn Ok=>
  obtain⟨S1,w2,h1,h2,h3⟩:=h
  exact⟨S1,w2,fun b o hb=>hm _ _ (h1 b o hb),fun b o hb=>⟨(hS b o (h1 b o hb)).1.trans (h2 b o hb).1,(hS b o (h1 b o hb)).2.trans (h2 b o hb).2⟩,h3⟩
theorem xa.keep {S':ab} (hS:bk S w w1) (hm:∀ b o,S b o→S' b o):∀ {A:List RA} {vs:List Value},xa w S A vs→xa w1 S' A vs
 | [],[],_=>trivial
 | _::_,_::_,h=>⟨h.1.keep hS hm,xa.keep hS hm h.2⟩
 | [],_::_,h=>h.elim
 | _::_,[],h=>h.elim
theorem xa.append:∀ {A B:List RA} {vs us:List Value},xa w S A vs→xa w S B us→xa w S (A++B) (vs++us)
 | [],_,[],_,_,h=>h
 | _::_,_,_::_,_,h,h'=>⟨h.1,xa.append h.2 h'⟩
 | [],_,_::_,_,h,_=>h.elim
 | _::_,_,[],_,h,_=>h.elim
theorem bk.rfl' (X:ab) (w:World):bk X w w:=fun _ _ _=>⟨rfl,rfl⟩
theorem Ay {cs:List C} {v:Value} {X:ab} {tv:Nat→Value} (h:cz w S F tv X (.hold .box cs) v) {T:ab} (hT:∀ b o,S b o∨X b o→T b o):nU w T (.ptr (ey cs)) v:=by
 obtain⟨X1,Y,h1,h2,h3,⟨g,o,hv,hb⟩,h5⟩:=h
 refine⟨g,o,bR w .box v,hv,fun d hd=>?_,h5.freeze.mono (fun b o hb=>hT b o (hb.imp id (h2 b o))) (fun _ _ h=>h)⟩
 rw[cr,List.length_map]at hd
 obtain⟨e1,⟨z,hz⟩,-⟩:=hb d hd
 exact⟨hT _ _ (.inr (h1 _ _ e1)),by rw[hv];simp only[bR,hz,Option.getD_some]⟩
theorem bj.argVal (h:bj w0 M S0 N S φ F a w) {av:AV} {v:Value} {X:ab} (hX:∀ b o,X b o→mC S φ b o) (hs:cz w S F (tvs a) X av v) {K:Bool→RA→Prop} (hp:iA F av (uh K)) :
  ∃ b A,K b A∧nU w (mC S φ) A v∧(b=true→nU w S A v):=by
 obtain⟨ag,cs,Y,hK,hv,hY⟩:=h.val hs hp
 have hY':∀ b o,Y b o→mC S φ b o:=fun b o hb=>(hY b o hb).elim (hX b o) .inr
 unfold uh at hK
 cases hn:aW cs with
 | true=>
  rw[hn]at hK
  exact⟨true,_,hK,(hv.bare hn).mono (fun _ _ h=>.inl h) (fun _ _ h=>h),fun _=>hv.bare hn⟩
 | false=>
  rw[hn]at hK
  exact⟨false,_,hK,hv.freeze.mono (fun b o h=>h.elim .inl (hY' b o)) (fun _ _ h=>h),fun hb=>by cases hb⟩
theorem bj.argV (h:bj w0 M S0 N S φ F a w) {x:Operand} {K:Bool→RA→Prop} (hp:Ab.argV F x K):∃ b A,K b A∧nU w (mC S φ) A (a.eval x)∧(b=true→nU w S A (a.eval x)):=by
 have hs:=h.ev x
 have hX:∀ b o,Pe φ x b o→mC S φ b o:=fun b o hb=>by
  cases x with
  | tmp t=>exact .inr ⟨t,hb⟩
  | _=>exact hb.elim
 unfold Ab.argV at hp
 cases hav:nj F x with
 | hold k cs=>
  rw[hav]at hp hs
  cases k with
  | box=>exact⟨false,_,hp,Ay hs fun b o hb=>hb.elim .inl (hX b o),fun hb=>by cases hb⟩
  | one=>exact h.argVal hX hs (show iA F (.hold .one cs) (uh K) from hp)
  | agg=>exact h.argVal hX hs (show iA F (.hold .agg cs) (uh K) from hp)
  | tup sh=>exact hp.elim
 | bor t off st ag=>rw[hav]at hp hs;exact h.argVal hX hs hp
 | ref t off st=>
  rw[hav]at hp hs
  simp only at hp
  split at hp
  ·rename_i cs hF
   have ht:=h.slot t
   rw[hF]at ht
   obtain⟨k,cs',r,j,g,o,e1,e2,e3,e4⟩:=hs
   rw[hF]at e1
   cases e1
   have hv:a.eval x=tvs a t:=by
    obtain⟨X1,Y,-,-,-,⟨g',o',hv,-⟩,-⟩:=ht
    rw[hv]at e3 ⊢
    simp only[plc,pn,Option.map_some,Option.some.injEq,Prod.mk.injEq,Nat.add_zero]at e3
    obtain⟨rfl,rfl⟩:=e3
    exact e4
   rw[hv]
   exact⟨false,_,hp,Ay ht fun b o hb=>hb.elim .inl (fun hb=>.inr ⟨t,hb⟩),fun hb=>by cases hb⟩
  ·exact hp.elim
 | iref r off=>
  rw[hav]at hp hs
  simp only at hp
  cases hb:Nat.beq off 0 with
  | false=>rw[hb]at hp;exact hp.elim
  | true=>
   rw[hb]at hp
   have:=Nat.eq_of_beq_eq_true hb
   subst this
   have hr:nU w S (.ptr r) (a.eval x):=by
    obtain⟨g,b,u,e1,e2,e3⟩:=hs
    exact⟨g,b,u,by rw[e1,Nat.add_zero],e2,e3⟩
   exact⟨true,_,hp,hr.keep (bk.rfl' _ _) (fun _ _ h=>.inl h),fun _=>hr⟩
 | fv Ok=>
  rw[hav]at hp hs
  have hr:nU w S (.fn Ok) (a.eval x):=hs
  exact⟨true,_,hp,hr.keep (bk.rfl' _ _) (fun _ _ h=>.inl h),fun _=>hr⟩
 | fn f caps=>rw[hav]at hp;exact hp.elim
 | dead=>rw[hav]at hp;exact hp.elim
theorem bj.caps (h:bj w0 M S0 N S φ F a w):∀ {cs:List Nat} {K:List RA→Prop},mh F cs K→∃ D,K D∧xa w (mC S φ) D (cs.map (tvs a))
 | [],K,hp=>⟨[],hp,trivial⟩
 | c::cs,K,hp=>by
  have hs:=h.slot c
  have hval:∀ (k:Kd) (xs:List C) (ag:Option Nat),F c=.hold k xs→iA F (.hold k xs) (fun ag' cs'=>ag'=ag∧cs'=xs)→nU w (mC S φ) (.val ag (ey xs)) (tvs a c):=fun k xs ag hF hv=>by
   rw[hF]at hs
   obtain⟨ag',cs',Y,⟨rfl,rfl⟩,hv,hY⟩:=h.val hs hv
   exact hv.freeze.mono (fun b o hb=>hb.elim .inl (fun hb=>(hY b o hb).elim (fun hb=>.inr ⟨c,hb⟩) .inr)) (fun _ _ h=>h)
  simp only[mh]at hp
  split at hp
  ·rename_i xs hF
   obtain⟨D,hK,hD⟩:=bj.caps h hp
   rw[hF]at hs
   exact⟨_,hK,Ay hs (fun b o hb=>hb.elim .inl fun hb=>.inr ⟨c,hb⟩),hD⟩
  ·rename_i xs hF
   obtain⟨D,hK,hD⟩:=bj.caps h hp
   exact⟨_,hK,hval _ _ _ hF ⟨rfl,rfl⟩,hD⟩
  ·rename_i xs hF
   obtain⟨D,hK,hD⟩:=bj.caps h hp
   exact⟨_,hK,hval _ _ _ hF ⟨rfl,rfl⟩,hD⟩
  ·exact hp.elim
theorem bj.argA (h:bj w0 M S0 N S φ F a w) {x:Operand} {K:Bool→RA→Prop} (hp:Ab.argA P F x K):∃ b A,K b A∧nU w (mC S φ) A (a.eval x)∧(b=true→nU w S A (a.eval x)):=by
 unfold Ab.argA at hp
 split at hp
 ·rename_i f caps hav
  have hs:=h.ev x
  rw[hav]at hs
  obtain⟨D,hK,hD⟩:=h.caps hp
  obtain⟨Q,q1,q2,q3⟩:=hK
  refine⟨false,_,q3,⟨mC S φ,w,fun _ _ h=>h,bk.rfl' _ _,f,caps.map (tvs a),hs,q1,fun L k rcs hQ w' S' vs hsub hsame hlt hvs=>?_⟩,fun hb=>by cases hb⟩
  exact(q2 L k rcs hQ).run w' S' _ hlt (xa.append hvs (xa.keep hsame hsub hD))
 ·exact h.argV hp
theorem bj.args (h:bj w0 M S0 N S φ F a w):∀ {xs:List Operand} {K:Bool→List RA→Prop},zb P F xs K→∃ b A,K b A∧xa w (mC S φ) A (xs.map a.eval)∧(b=true→xa w S A (xs.map a.eval))
 | [],K,hp=>⟨true,[],hp,trivial,fun _=>trivial⟩
 | x::xs,K,hp=>by
  obtain⟨b1,A,hK,h1,h2⟩:=h.argA hp
  obtain⟨b,As,hK,h3,h4⟩:=bj.args h hK
  refine⟨_,_,hK,⟨h1,h3⟩,fun hb=>?_⟩
  cases b1 with
  | false=>cases hb
  | true=>exact⟨h2 rfl,h4 hb⟩
theorem bj.argsV (h:bj w0 M S0 N S φ F a w):∀ {xs:List Operand} {K:List (Option Nat × List C)→Prop},Ab.argsV F xs K→∃ L,K L∧xa w (mC S φ) (L.map fun p=>.val p.1 p.2) (xs.map a.eval)
 | [],K,hp=>⟨[],hp,trivial⟩
 | x::xs,K,hp=>by
  obtain⟨ag,cs,Y,hK,hv,hY⟩:=h.val (h.ev x) hp
  obtain⟨L,hK,h1⟩:=bj.argsV h hK
  have hY':∀ b o,Y b o→mC S φ b o:=fun b o hb=>by
   rcases hY b o hb with hb|hb
   ·cases x with
    | tmp t=>exact .inr ⟨t,hb⟩
    | _=>exact hb.elim
   ·exact .inr hb
  refine⟨_,hK,?_,h1⟩
  cases hn:aW cs with
  | true=>exact(hv.bare hn).mono (fun _ _ h=>.inl h) (fun _ _ h=>h)
  | false=>exact hv.freeze.mono (fun b o h=>h.elim .inl (hY' b o)) (fun _ _ h=>h)
theorem DU {o:Oper} {f:Nat} {args:Array Operand} {ts:Array TypeId} (ho:o.op=.call ⟨.value (.func f),args,ts⟩) (hf:Hk P f) :
  (execOp a.eval o).run P w=.ok (.enter f (args.map a.eval)) w:=by
 obtain⟨fn,h1,h2,h3⟩:=hf
 have h2' : ¬ fn.name = "runtime.NumGoroutine" := by simpa using h2
 simp[execOp,ho,resolve,Act.eval,Deferred.ofValue,invoke,callFunc,h1,h2']
 intro e
 rw[e]at h3
 cases h3
theorem sM {o:Oper} {t f:Nat} {args:Array Operand} {ts:Array TypeId} {caps:List Value} (ho:o.op=.call ⟨.value (.tmp t),args,ts⟩) (hf:Hk P f) (hv:tvs a t=.func (.func f) #[] caps.toArray) :
  (execOp a.eval o).run P w=.ok (.enter f (args.toList.map a.eval++caps).toArray) w:=by
 obtain⟨fn,h1,h2,h3⟩:=hf
 have h2' : ¬ fn.name = "runtime.NumGoroutine" := by simpa using h2
 have hv':a.tmps.getD t undef=.func (.func f) #[] caps.toArray:=hv
 have he:args.map a.eval++caps.toArray=(args.toList.map a.eval++caps).toArray:=by
  apply Array.ext';simp
 rw[←he]
 simp[execOp,ho,resolve,Act.eval,hv',Deferred.ofValue,invoke,callFunc,h1,h2']
 intro e
 rw[e]at h3
 cases h3
theorem bj.enterG (h:bj w0 M S0 N S φ F a w) {o:Oper} {f:Nat} {vs:List Value} {k:Kd} {rcs:List C} {sh:Bool} (hrun:(execOp a.eval o).run P w=.ok (.enter f vs.toArray) w) {S2:ab} (hle:sh=true→∀ b o,S2 b o→S b o)
  (hc:Calls P f vs.toArray w fun e w1=>∃ v,e=.returned v∧bw NO w w1∧∃ X S1:ab,(∀ b o,X b o→b<w1.heap.size∧w.heap.size≤b)∧
    (∀ b o,S1 b o→(sh=true∧S2 b o)∨(b<w1.heap.size∧w.heap.size≤b))∧(∀ b o,X b o→¬S1 b o)∧∃ X1 Y:ab,(∀ b o,X1 b o→X b o)∧(∀ b o,Y b o→X b o)∧(∀ b o,X1 b o→¬Y b o)∧fy w1 X1 k rcs.length v∧co w1 S1 Y rcs (bR w1 k v)):uv P o a w (lV w S F a (.hold k rcs)):=by
 refine uv.enter hrun ?_
 refine hc.mono fun e w1 ⟨v,he,hk,X,S1,hX,hS1,hd,X1,Y,hX1,hY,hXY,hh,hr⟩=>⟨v,he,hk,X,fun b o=>S b o∨S1 b o,hX,fun _ _ h=>.inl h,fun b o hb=>?_,fun b o hb hS=>?_,?_⟩
 ·rcases hb with hb|hb
  ·exact .inl hb
  ·rcases hS1 b o hb with⟨h3,h4⟩|h3
   ·exact .inl (hle h3 b o h4)
   ·exact .inr h3
 ·rcases hS with hS|hS
  ·have:=(h.sup b o hS).1;have:=(hX b o hb).2;omega
  ·exact hd b o hb hS
 ·exact⟨X1,Y,hX1,hY,hXY,hh,hr.mono (fun _ _ h=>.inr h) (fun _ _ h=>h)⟩
theorem bj.enter (h:bj w0 M S0 N S φ F a w) {o:Oper} {f:Nat} {vs:List Value} {k:Kd} {rcs:List C} {sh:Bool} (hrun:(execOp a.eval o).run P w=.ok (.enter f vs.toArray) w) {S2:ab} (hle:sh=true→∀ b o,S2 b o→S b o)
  (hc:Calls P f vs.toArray w fun e w1=>∃ v,e=.returned v∧bw NO w w1∧∃ X S1:ab,(∀ b o,X b o→b<w1.heap.size∧w.heap.size≤b)∧
    (∀ b o,S1 b o→(sh=true∧S2 b o)∨(b<w1.heap.size∧w.heap.size≤b))∧(∀ b o,X b o→¬S1 b o)∧fy w1 NO k rcs.length v∧co w1 S1 X rcs (bR w1 k v)):uv P o a w (lV w S F a (.hold k rcs)):=
 h.enterG hrun hle (hc.mono fun _ _ ⟨v,he,hk,X,S1,h1,h2,h3,h4,h5⟩=>⟨v,he,hk,X,S1,h1,h2,h3,NO,X,fun _ _ h=>h.elim,fun _ _ h=>h,fun _ _ h=>h.elim,h4,h5⟩)
theorem bj.all_lt (h:bj w0 M S0 N S φ F a w):∀ b o,mC S φ b o→b<w.heap.size:=fun b o hb=>hb.elim (fun h'=>(h.sup b o h').1) (fun⟨t,h'⟩=>(h.ex t b o h').1)
theorem bj.call (h:bj w0 M S0 N S φ F a w) {o:Oper} {f:Nat} {args:Array Operand} {ts:Array TypeId} (ho:o.op=.call ⟨.value (.func f),args,ts⟩) {K:AV→Prop} (hp:Gv P F f args.toList K) :
  ∃ av,K av∧uv P o a w (lV w S F a av):=by
 obtain⟨b,A,hcl,h1,h2⟩:=h.args hp
 obtain⟨sh,k,rcs,hc,hsh,hK⟩:=hcl.out
 have hargs:args.map a.eval=(args.toList.map a.eval).toArray:=by apply Array.ext';rw[Array.toList_map]
 have hrun:=DU (a:=a) (w:=w) ho hc.1
 rw[hargs]at hrun
 refine⟨_,hK,?_⟩
 rcases hsh with rfl|hb
 ·exact h.enterG hrun (S2:=mC S φ) (fun h=>by cases h) (hc.2 w _ _ h.all_lt h1)
 ·exact h.enterG hrun (S2:=S) (fun _ _ _ h=>h) (hc.2 w S _ (fun b o hb=>(h.sup b o hb).1) (h2 hb))
theorem bj.callT (h:bj w0 M S0 N S φ F a w) {o:Oper} {t:Nat} {args:Array Operand} {ts:Array TypeId} (ho:o.op=.call ⟨.value (.tmp t),args,ts⟩) {K:AV→Prop} (hp:lN P F t args.toList K) :
  ∃ av,K av∧uv P o a w (lV w S F a av):=by
 have hs:=h.slot t
 unfold lN at hp
 split at hp
 ·rename_i f caps hF
  rw[hF]at hs
  obtain⟨b,A,hp,h1,-⟩:=h.args hp
  obtain⟨D,hcl,hD⟩:=h.caps hp
  obtain⟨sh,k,rcs,hc,hsh,hK⟩:=hcl.out
  have hsf:sh=false:=hsh.elim id (fun h=>by cases h)
  subst hsf
  exact⟨_,hK,h.enterG (sM ho hc.1 hs) (S2:=mC S φ) (fun h=>by cases h) (hc.2 w _ _ h.all_lt (xa.append h1 hD))⟩
 ·rename_i Ok hF
  rw[hF]at hs
  obtain⟨L,hq,h1⟩:=h.argsV hp
  obtain⟨Q,k,rcs,rfl,hQ,hK⟩:=hq
  obtain⟨S1,w1,e1,e2,f,caps,e3,e4,e5⟩:=hs
  exact⟨_,hK,h.enter (sM ho e4 e3) (S2:=mC S φ) (sh:=false) (fun h=>by cases h) (e5 L k rcs hQ w _ _ (fun b o hb=>.inl (e1 b o hb)) e2 h.all_lt h1)⟩
 ·exact hp.elim
def AB:List (Option Nat)→Nat→Option (Nat × Option Nat)
 | [],_=>none
 | ag::_,0=>some (0,ag)
 | ag::sh,i+1=>(AB sh i).map fun p=>(ag.getD 1+p.1,p.2)
def iW (F:Nat→AV) (x:Operand) (i:Nat) (K:AV→Prop):Prop:=
 match x with
 | .tmp t=>match F t with
  | .hold (.tup sh) cs=>match AB sh i with
   | some (s,ag)=>bif aW (bp cs s (ag.getD 1)) then K (.hold (jc ag) (bp cs s (ag.getD 1))) else K (.bor t s [] ag)
   | none=>False
  | _=>False
 | _=>False
theorem qb (ag:Option Nat) (sh:List (Option Nat)):o6 (ag::sh)=ag.getD 1+o6 sh:=by cases ag<;>rfl
theorem ED {ag:Option Nat} {sh:List (Option Nat)} {v:Value} {vs:List Value} (h:uU (ag::sh) (v::vs)):v.cells.toList.length=ag.getD 1∧(v=mkv ag fun j=>v.cells.toList.getD j undef)∧uU sh vs:=by
 cases ag with
 | none=>
  have h1:v.cells = #[v]:=h.1
  exact⟨by rw[h1];rfl,by rw[h1];rfl,h.2⟩
 | some n=>
  obtain⟨⟨arr,rfl,hs⟩,h2⟩:=h
  exact⟨by simp[Value.cells,hs],by have:=mW arr;rw[hs]at this;exact this,h2⟩
theorem Ka:∀ {sh:List (Option Nat)} {vs:List Value} {i s:Nat} {ag:Option Nat},uU sh vs→AB sh i=some (s,ag)→
  ∃ v,vs[i]? = some v∧s+ag.getD 1≤o6 sh∧v=mkv ag fun j=>(vs.flatMap fun v=>v.cells.toList).getD (s+j) undef
 | [],_,i,s,ag,_,hs=>by cases hs
 | ag0::sh,[],i,s,ag,h,_=>by cases ag0<;>exact h.elim
 | ag0::sh,v0::vs,i,s,ag,h,hs=>by
  obtain⟨h1,h2,h3⟩:=ED h
  cases i with
  | zero=>
   simp only[AB,Option.some.injEq,Prod.mk.injEq]at hs
   obtain⟨rfl,rfl⟩:=hs
   refine⟨v0,rfl,by rw[qb];omega,h2.trans (hJ fun j hj=>?_)⟩
   simp only[List.flatMap_cons,Nat.zero_add,List.getD]
   rw[List.getElem?_append_left (by omega)]
  | succ i=>
   simp only[AB]at hs
   cases hsh:AB sh i with
   | none=>rw[hsh]at hs;cases hs
   | some p=>
    rw[hsh]at hs
    simp only[Option.map_some,Option.some.injEq,Prod.mk.injEq]at hs
    obtain⟨rfl,rfl⟩:=hs
    obtain⟨v,e1,e2,e3⟩:=Ka h3 (show AB sh i=some (p.1,p.2) from hsh)
    refine⟨v,by simpa using e1,by rw[qb];omega,e3.trans (hJ fun j _=>?_)⟩
    simp only[List.flatMap_cons,List.getD]
    rw[List.getElem?_append_right (by omega)]
    congr 2
    omega
theorem bj.extract (h:bj w0 M S0 N S φ F a w) {x:Operand} {i:Nat} {K:AV→Prop} (hp:iW F x i K) :
  ∃ av v,K av∧(Instr.extract (a.eval x) i).run P w=.ok v w∧cz w S F (tvs a) NO av v:=by
 cases x with
 | tmp t=>
  have hs:=h.slot t
  show ∃ av v,K av∧(Instr.extract (tvs a t) i).run P w=.ok v w∧_
  simp only[iW]at hp
  cases hF:F t with
  | hold k cs=>
   rw[hF]at hp hs
   cases k with
   | tup sh=>
    simp only at hp
    obtain⟨X1,Y,h1,h2,h3,⟨vs,hv,hT,hL⟩,h5⟩:=hs
    cases hsh:AB sh i with
    | none=>rw[hsh]at hp;exact hp.elim
    | some p=>
     obtain⟨s,ag⟩:=p
     rw[hsh]at hp
     simp only at hp
     obtain⟨v,hvi,hle,hve⟩:=Ka hT hsh
     have hrun:(Instr.extract (tvs a t) i).run P w=.ok v w:=by
      have:vs[i]? = some v:=by rw[←Array.getElem?_toList];exact hvi
      simp[hv,Instr.extract,this]
     have hu:v=mkv ag fun j=>bR w (.tup sh) (tvs a t) (s+j):=by rw[hve,hv];rfl
     cases hn:aW (bp cs s (ag.getD 1)) with
     | true=>
      rw[hn]at hp
      refine⟨_,v,hp,hrun,bv.slot ⟨by simp[bp];omega,_,hu,?_⟩⟩
      exact(h5.part s (ag.getD 1)).bare hn
     | false=>
      rw[hn]at hp
      exact⟨_,v,hp,hrun,.tup sh,cs,cs,s,hF,rfl,by omega,hu⟩
   | _=>exact hp.elim
  | _=>rw[hF]at hp;exact hp.elim
 | _=>exact hp.elim
inductive Es (x:ByteArray) (K:ByteArray→Prop):Prop
 |mk_ (h:∃ z,x=z∧K z)
theorem Es.mk {x z:ByteArray} {K:ByteArray→Prop} (h:x=z) (hK:K z):Es x K:=by refine .mk_ ?_;exact⟨z,h,hK⟩
theorem Es.out {x:ByteArray} {K:ByteArray→Prop} (h:Es x K):∃ z,x=z∧K z:=by obtain⟨h⟩:=h;exact h
def Dz (TE:Nat→Option TI) (op:BinOp) (T:Nat) (vx vy:Value) (K:Value→Prop):Prop:=
 match vx,vy with
 | .bool a,.bool b=>(match TE T with
   | some ⟨_,_,_,.sc .bool⟩=>(match op with
     | .eql=>K (.bool (a == b))
     | .neq=>K (.bool (a != b))
     | _=>False)
   | _=>False)
 | .string a,.string b=>(match op with
   | .eql=>K (.bool (a.toList == b.toList))
   | .neq=>K (.bool (!(a.toList == b.toList)))
   | .add=>Cd (((a.size+b.size:Nat):Int)≤9223372036854775807) (Es (a++b) fun z=>K (.string z))
   | _=>False)
 | vx,vy=>zz op vx vy K
theorem KE {TE:Nat→Option TI} (hTE:∀ t i,TE t=some i→bA P t i) {op:BinOp} {T:Nat} {vx vy:Value} {K:Value→Prop} {x y:Operand} (hp:Dz TE op T vx vy K):∃ v,K v∧v.oneCell'=true∧(do eqGuard op T x y vx vy;binOp op T vx vy:Sem Value).run P w=.ok v w:=by
 unfold Dz at hp
 split at hp
 ·rename_i a b
  split at hp
  case h_2=>exact hp.elim
  rename_i hT
  have hu:P.underlying T=some .bool:=(hTE _ _ hT).2.2.1
  have hg:(eqGuard op T x y (.bool a) (.bool b)).run P w=.ok () w:=by
   unfold eqGuard;split<;>rfl
  rw[Sem.run_bind,hg]
  have he:(Op.equal T (.bool a) (.bool b)).run P w=.ok (a == b) w:=by
   unfold Op.equal
   rw[show Op.maxDepth=(Op.maxDepth - 1)+1 from rfl,Op.equalIn]
   rw[Sem.run_bind,run_underlying hu]
   rfl
  cases op<;>simp only at hp<;>try exact hp.elim
  case eql=>exact⟨_,hp,rfl,by simp only[Result.andThen_ok,binOp,Sem.run_bind,he,Sem.run_pure]⟩
  case neq=>exact⟨_,hp,rfl,by simp only[Result.andThen_ok,binOp,Sem.run_bind,he,Sem.run_pure];rfl⟩
 ·rename_i a b
  have hg:(eqGuard op T x y (.string a) (.string b)).run P w=.ok () w:=by
   unfold eqGuard;split<;>rfl
  rw[Sem.run_bind,hg]
  cases op<;>simp only at hp<;>try exact hp.elim
  case eql=>exact⟨_,hp,rfl,by simp[binOp,Op.stringOp]⟩
  case neq=>exact⟨_,hp,rfl,by simp[binOp,Op.stringOp]⟩
  case add=>
   obtain⟨h1,h2⟩:=hp.out
   obtain⟨z,rfl,h2⟩:=h2.out
   refine⟨_,h2,rfl,?_⟩
   have:¬((a.size+b.size:Nat):Int) > IntKind.i64.max:=by
    have:IntKind.i64.max=9223372036854775807:=by decide
    omega
   simp only[Result.andThen_ok,binOp,Op.stringOp]
   rw[if_neg this]
   rfl
 ·exact KF hp
inductive Nn (rows:List (List C)) (K:Prop):Prop
 |mk_ (h:rows≠[]∧K)
theorem Nn.mk {rows:List (List C)} {K:Prop} (h:rows≠[]) (hK:K):Nn rows K:=by refine .mk_ ?_;exact⟨h,hK⟩
theorem Nn.out {rows:List (List C)} {K:Prop} (h:Nn rows K):rows≠[]∧K:=by obtain⟨h⟩:=h;exact h
def M5:Operand→Bool
 | .const (.slice none 0 0)=>true
 | _=>false
def vh (op:BinOp) (y:Operand):Bool:=
 match op with
 | .eql=>M5 y
 | _=>false
def Fx (TE:Nat→Option TI) (F:Nat→AV) (T:Nat) (x:Operand) (K:AV→Prop):Prop:=
 match TE T with
 | some ⟨_,_,_,.sl _⟩=>iA F (nj F x) fun ag cs=>match ag,cs with
  | none,[.s _ rows]=>Nn rows (K (.hold .one [.v (.bool false)]))
  | _,_=>False
 | _=>False
theorem Hr {op:BinOp} {y:Operand} (h:vh op y=true):op=.eql∧y=.const (.slice none 0 0):=by
 unfold vh at h
 split at h
 ·refine⟨rfl,?_⟩
  unfold M5 at h
  split at h
  ·rfl
  ·cases h
 ·cases h
theorem ez.slice_some {w:World} {S F:ab} {o:dE} {rows:List (List C)} {v:Value} (h:ez w S F (.s o rows) v) (hne:rows≠[]):∃ ad cap,v=.slice (some ad) rows.length cap:=by
 generalize hc:C.s o rows=c at h
 cases h with
 | v=>cases hc
 | x=>cases hc
 | z=>cases hc
 | m=>cases hc
 | it=>cases hc
 | nil=>cases hc;exact absurd rfl hne
 | own=>cases hc;subst_vars;exact⟨_,_,rfl⟩
 | imm=>cases hc;subst_vars;exact⟨_,_,rfl⟩
theorem bj.nilq (h:bj w0 M S0 N S φ F a w) {TE:Nat→Option TI} (hTE:∀ t i,TE t=some i→bA P t i) {T:Nat} {x:Operand} {K:AV→Prop} (hp:Fx TE F T x K) :
  K (.hold .one [.v (.bool false)])∧(do eqGuard .eql T x (.const (.slice none 0 0)) (a.eval x) (.slice none 0 0);binOp .eql T (a.eval x) (.slice none 0 0):Sem Value).run P w=.ok (.bool false) w:=by
 unfold Fx at hp
 split at hp
 ·rename_i hT
  have hu:=(hTE _ _ hT).2.2
  obtain⟨ag,cs,Y,hK,⟨hl,u,hv,f,h1,-⟩,-⟩:=h.val (h.ev x) hp
  match ag,cs,hK with
  | none,[.s o rows],hK=>
   obtain⟨hne,hK⟩:=hK.out
   obtain⟨ad,cap,hs⟩:=(h1 0 _ rfl).slice_some hne
   have:a.eval x=.slice (some ad) rows.length cap:=hv.trans hs
   rw[this]
   refine⟨hK,?_⟩
   have hg:(eqGuard .eql T x (.const (.slice none 0 0)) (.slice (some ad) rows.length cap) (.slice none 0 0)).run P w=.ok () w:=by
    unfold eqGuard;split<;>rfl
   rw[Sem.run_bind,hg]
   have he:(Op.equal T (.slice (some ad) rows.length cap) (.slice none 0 0)).run P w=.ok false w:=by
    unfold Op.equal
    rw[show Op.maxDepth=(Op.maxDepth - 1)+1 from rfl,Op.equalIn]
    rw[Sem.run_bind,run_underlying hu]
    rfl
   simp only[Result.andThen_ok,binOp,Sem.run_bind,he,Sem.run_pure]
 ·exact hp.elim
def GF:List Operand→(List Nat→Prop)→Prop
 | [],K=>K []
 | .tmp t::xs,K=>GF xs fun l=>K (t::l)
 | _,_=>False
theorem Eo:∀ (l:List Nat) {K:List Nat→Prop},K l→GF (l.map .tmp) K
 | [],_,h=>h
 | t::l,K,h=>Eo l (K:=fun l=>K (t::l)) h
theorem qi:∀ {xs:List Operand} {K:List Nat→Prop},GF xs K→∃ l,K l∧xs=l.map .tmp
 | [],K,h=>⟨[],h,rfl⟩
 | .tmp t::xs,K,h=>by
  obtain⟨l,h1,h2⟩:=qi (xs:=xs) h
  exact⟨_,h1,by rw[h2];rfl⟩
 | .const _::_,_,h=>h.elim
 | .global _::_,_,h=>h.elim
 | .func _::_,_,h=>h.elim
def dL (P:Program) (TE:Nat→Option TI) (F:Nat→AV) (o:Op) (K:AV→Prop):Prop:=
 match o with
 | .move x=>bo F x K
 | .assign x=>bo F x K
 | .nilCheck x=>(match x with|.tmp t=>(match F t with|.ref ..=>bo F x K|.iref ..=>bo F x K|.hold .box _=>bo F x K|_=>False)|_=>False)
 | .load T x=>ta TE F T x K
 | .fieldAddr T x f=>gV TE F T x f K
 | .indexAddr T x y=>gY TE F T x y K
 | .binOp op T x y _=>bif vh op y then Fx TE F T x K else EE F x fun vx=>EE F y fun vy=>Dz TE op T vx vy fun v=>K (.hold .one [.v v])
 | .unOp op _ x=>EE F x fun vx=>LU op vx fun v=>K (.hold .one [.v v])
 | .pick c x y=>G3 F c x y K
 | .alloc T=>wU TE T K
 | .box _ x=>LX F x K
 | .extract x i=>iW F x i K
 | .build T ps=>qd TE F T ps.toList K
 | .buildSlice T n ps=>u4 TE F T n ps.toList K
 | .makeSlice T x y=>G2 TE F T x y K
 | .makeFunc fn fs cs=>(match fn,fs.toList with|.func f,[]=>GF cs.toList fun l=>K (.fn f l)|_,_=>False)
 | .makeMap T r=>qX TE T r K
 | .lookup T x y ok=>uM TE F T x y ok K
 | .slice T x lo hi mx=>(match mx with|none=>AE TE F T x lo hi K|some m=>(match lo,hi with|none,some y=>LP TE F T x y m K|_,_=>False))
 | .field T x f=>pT TE F T x f K
 | .convert T1 T2 x=>wb TE F T1 T2 x K
 | .call c=>match c.callee with
  | .value (.func f)=>Gv P F f c.args.toList K
  | .value (.tmp t)=>lN P F t c.args.toList K
  | .builtin .len=>(match c.args.toList,c.argTypes.toList with|[x],[T]=>FU TE F T x K|_,_=>False)
  | .builtin .append=>(match c.args.toList,c.argTypes.toList with|[x,y],[T,T2]=>bif Nat.beq T T2 then Gs TE F T x y K else False|_,_=>False)
  | .builtin .min=>(match c.args.toList with|[x,y]=>NI false F x y K|_=>False)
  | .builtin .max=>(match c.args.toList with|[x,y]=>NI true F x y K|_=>False)
  | _=>False
 | _=>False
theorem bj.pure_ (h:bj w0 M S0 N S φ F a w) {TE:Nat→Option TI} (hTE:∀ t i,TE t=some i→bA P t i) {o:Oper} {K:AV→Prop} (hp:dL P TE F o.op K):∃ av,K av∧uv P o a w (lV w S F a av):=by
 cases ho:o.op with
 | move x=>rw[ho]at hp;obtain⟨av,hK,hs⟩:=h.move hp;exact⟨av,hK,.same (by simp[execOp,ho]) hs⟩
 | assign x=>rw[ho]at hp;obtain⟨av,hK,hs⟩:=h.move hp;exact⟨av,hK,.same (by simp[execOp,ho]) hs⟩
 | nilCheck x=>
  rw[ho]at hp
  cases x with
  | tmp t=>
   have hs0:=h.slot t
   simp only[dL]at hp
   have hptr:bo F (.tmp t) K∧∃ ad,a.eval (.tmp t)=.pointer (some ad):=by
    show _∧∃ ad,tvs a t=_
    cases hF:F t with
    | hold k cs=>
     rw[hF]at hp hs0
     cases k with
     | box=>obtain⟨X1,Y,-,-,-,⟨g,b,hv,-⟩,-⟩:=hs0;exact⟨hp,_,hv⟩
     | _=>exact hp.elim
    | ref=>rw[hF]at hp hs0;obtain⟨k,cs,r,j,g,b,-,-,-,hv⟩:=hs0;exact⟨hp,_,hv⟩
    | iref=>rw[hF]at hp hs0;obtain⟨g,b,u,hv,-⟩:=hs0;exact⟨hp,_,hv⟩
    | _=>rw[hF]at hp;exact hp.elim
   obtain⟨hm,ad,had⟩:=hptr
   obtain⟨av,hK,hs⟩:=h.move hm
   exact⟨av,hK,.same (v:=a.eval (.tmp t)) (by simp[execOp,ho,had]) hs⟩
  | _=>exact hp.elim
 | load T x=>rw[ho]at hp;obtain⟨av,v,hK,hr,hs⟩:=h.load hTE hp;exact⟨av,hK,.same (by simp[execOp,ho,hr]) hs⟩
 | fieldAddr T x f=>rw[ho]at hp;obtain⟨av,v,hK,hr,hs⟩:=h.fieldAddr hTE hp;exact⟨av,hK,.same (by simp[execOp,ho,hr]) hs⟩
 | indexAddr T x y=>rw[ho]at hp;obtain⟨av,v,hK,hr,hs⟩:=h.indexAddr hTE hp;exact⟨av,hK,.same (by simp[execOp,ho,hr]) hs⟩
 | binOp op T x y yT=>
  rw[ho]at hp
  simp only[dL]at hp
  cases hb:vh op y with
  | true=>
   rw[hb]at hp
   obtain⟨rfl,rfl⟩:=Hr hb
   obtain⟨hK,hr⟩:=h.nilq hTE hp
   refine⟨_,hK,.same (v:=.bool false) ?_ (lg rfl)⟩
   simp only[execOp,ho]
   rw[Sem.run_bind]
   have e1:a.eval (.const (.slice none 0 0))=.slice none 0 0:=rfl
   rw[e1,hr]
   rfl
  | false=>
   rw[hb]at hp
   obtain⟨hx,-⟩:=h.scalar hp
   obtain⟨hy,-⟩:=h.scalar hx
   obtain⟨v,hK,h1,hr⟩:=KE (P:=P) (w:=w) hTE (T:=T) (x:=x) (y:=y) hy
   refine⟨_,hK,.same (v:=v) ?_ (lg h1)⟩
   simp only[execOp,ho]
   rw[Sem.run_bind,hr]
   rfl
 | unOp op T x=>
  rw[ho]at hp
  obtain⟨hx,-⟩:=h.scalar hp
  obtain⟨v,hK,h1,hr⟩:=Mp (P:=P) (w:=w) hx
  exact⟨_,hK,.same (v:=v) (by simp[execOp,ho,hr]) (lg h1)⟩
 | pick c x y=>
  rw[ho]at hp
  obtain⟨av,b,hK,hb,hs⟩:=h.pick hp
  exact⟨av,hK,.same (v:=if b then a.eval x else a.eval y) (by simp[execOp,ho,hb,asBool]) hs⟩
 | alloc T=>rw[ho]at hp;obtain⟨av,v,w1,hK,hr,hs⟩:=h.alloc hTE hp;exact⟨av,hK,.value (by simp[execOp,ho,hr]) hs⟩
 | box T x=>rw[ho]at hp;obtain⟨av,v,w1,hK,hr,hs⟩:=h.box (P:=P) (T:=T) hp;exact⟨av,hK,.value (by simp[execOp,ho,hr]) hs⟩
 | extract x i=>rw[ho]at hp;obtain⟨av,v,hK,hr,hs⟩:=h.extract (P:=P) hp;exact⟨av,hK,.same (by simp[execOp,ho,hr]) hs⟩
 | build T ps=>rw[ho]at hp;obtain⟨av,v,hK,hr,hs⟩:=h.build hTE hp;exact⟨av,hK,.same (by simp only[execOp,ho];rw[Sem.run_bind,hr];rfl) hs⟩
 | buildSlice T n ps=>rw[ho]at hp;obtain⟨av,v,w1,hK,hr,hs⟩:=h.buildS hTE hp;exact⟨av,hK,.value (by simp only[execOp,ho];rw[Sem.run_bind,hr];rfl) hs⟩
 | makeMap T r=>rw[ho]at hp;obtain⟨av,v,w1,hK,hr,hs⟩:=h.makeMap hTE hp;exact⟨av,hK,.value (by simp[execOp,ho,hr]) hs⟩
 | lookup T x y ok=>rw[ho]at hp;obtain⟨v,hK,h1,hr⟩:=h.look hTE hp;exact⟨_,hK,.same (v:=v) (by simp[execOp,ho,hr]) (lg h1)⟩
 | makeSlice T x y=>rw[ho]at hp;obtain⟨av,v,w1,hK,hr,hs⟩:=h.make hTE hp;exact⟨av,hK,.value (by simp[execOp,ho,hr]) hs⟩
 | slice T x lo hi mx=>
  rw[ho]at hp
  cases mx with
  | none=>obtain⟨av,v,hK,hr,hs⟩:=h.slice hTE hp;exact⟨av,hK,.same (by simp only[execOp,ho];rw[Sem.run_bind,Option.map_none,hr];rfl) hs⟩
  | some m=>
   cases lo with
   | some _=>exact hp.elim
   | none=>
    cases hi with
    | none=>exact hp.elim
    | some y=>obtain⟨v,hK,hr,hs⟩:=h.slice0 hTE hp;exact⟨_,hK,.same (by simp only[execOp,ho];rw[Sem.run_bind,Option.map_none,Option.map_some,Option.map_some,hr];rfl) hs⟩
 | field T x f=>rw[ho]at hp;obtain⟨av,v,hK,hr,hs⟩:=h.field hTE hp;exact⟨av,hK,.same (by simp[execOp,ho,hr]) hs⟩
 | convert T1 T2 x=>rw[ho]at hp;obtain⟨v,hK,h1,hr⟩:=h.conv hTE hp;exact⟨_,hK,.same (v:=v) (by simp[execOp,ho,hr]) (lg h1)⟩
 | makeFunc fn fs cs=>
  rw[ho]at hp
  simp only[dL]at hp
  split at hp
  ·rename_i f hfs
   obtain⟨l,hK,hl⟩:=qi hp
   have e1:fs = #[]:=by apply Array.ext';simpa using hfs
   have e2:cs.map a.eval=(l.map (tvs a)).toArray:=by
    apply Array.ext'
    rw[Array.toList_map,hl,List.map_map]
    rfl
   subst e1
   exact⟨_,hK,.same (v:=.func (.func f) #[] (l.map (tvs a)).toArray) (by simp[execOp,ho,Instr.makeFunc,e2]) rfl⟩
  ·exact hp.elim
 | call c=>
  rw[ho]at hp
  obtain⟨callee,args,ts⟩:=c
  simp only[dL]at hp
  split at hp
  ·exact h.call ho hp
  ·exact h.callT ho hp
  ·split at hp
   ·rename_i x T hx hT
    obtain⟨v,hK,h1,hr⟩:=h.len (ty:=o.type) hTE hp
    have e1:args = #[x]:=by apply Array.ext';simpa using hx
    have e2:ts = #[T]:=by apply Array.ext';simpa using hT
    subst e1 e2
    refine⟨_,hK,.same (v:=v) ?_ (lg h1)⟩
    simp[execOp,ho,resolve,invoke,builtin,hr]
   ·exact hp.elim
  ·split at hp
   ·rename_i x y T T2 hx hT
    cases hb:Nat.beq T T2 with
    | false=>rw[hb]at hp;exact hp.elim
    | true=>
     rw[hb]at hp
     have:=Nat.eq_of_beq_eq_true hb
     subst this
     obtain⟨av,v,w1,hK,hr,hs⟩:=h.appP (ty:=o.type) hTE hp
     have e1:args = #[x,y]:=by apply Array.ext';simpa using hx
     have e2:ts = #[T,T]:=by apply Array.ext';simpa using hT
     subst e1 e2
     exact⟨av,hK,.value (by simp[execOp,ho,resolve,invoke,builtin,hr]) hs⟩
   ·exact hp.elim
  ·split at hp
   ·rename_i x y hx
    obtain⟨v,hK,h1,hr⟩:=h.mm (P:=P) (ts:=ts) (ty:=o.type) hp
    have e1:args = #[x,y]:=by apply Array.ext';simpa using hx
    subst e1
    refine⟨_,hK,.same (v:=v) ?_ (lg h1)⟩
    simp only[Bool.false_eq_true,if_false]at hr
    simp[execOp,ho,resolve,invoke,builtin,hr]
   ·exact hp.elim
  ·split at hp
   ·rename_i x y hx
    obtain⟨v,hK,h1,hr⟩:=h.mm (P:=P) (ts:=ts) (ty:=o.type) hp
    have e1:args = #[x,y]:=by apply Array.ext';simpa using hx
    subst e1
    refine⟨_,hK,.same (v:=v) ?_ (lg h1)⟩
    simp only[if_true]at hr
    simp[execOp,ho,resolve,invoke,builtin,hr]
   ·exact hp.elim
  ·exact hp.elim
 | _=>rw[ho]at hp;exact hp.elim
end
end Go.Proofs.YtplcalfnngkffaaGreat.Ab
/- Abstract runs: one operation, a region in the text's order, code, a whole function. No condition. -/
namespace Go.Proofs.YtplcalfnngkffaaGreat.Ab
open Go.RowKit
inductive Lq (bs:List C) (off:Nat) (st:cm) (n:Nat) (K:List C→List C→Prop):Prop
 |mk_ (h:∃ r j cs bs',bS bs off st=some (r,j)∧jI bs off st∧j+n≤r.length∧cs=bp r j n∧bs'=fA bs off st (splice r j (List.replicate n .x))∧K cs bs')
theorem Lq.one {bs cs bs':List C} {off i k j n:Nat} {K:List C→List C→Prop} {o:dE} {rows:List (List C)} {r:List C} (h1:bs[off]? = some (.s o rows)) (ho:o.mine=true) (h2:rows[i]? = some r) (h3:r.length=k) (h4:j+n≤k)
  (h5:cs=bp r j n) (h6:bs'=bs.set off (.s o (rows.set i (splice r j (List.replicate n .x))))) (hK:K cs bs'):Lq bs off [(i,k,j)] n K:=by
 have hoi:o≠.imm:=fun e=>by subst e;cases ho
 refine .mk_ ?_
 exact⟨r,j,cs,bs',by simp[bS,h1,h2,h3],by simp[jI,h1,h2,hoi],by omega,h5,by rw[h6];simp[fA,h1,h2],hK⟩
theorem Lq.out {bs:List C} {off:Nat} {st:cm} {n:Nat} {K:List C→List C→Prop} (h:Lq bs off st n K):∃ r j,bS bs off st=some (r,j)∧jI bs off st∧j+n≤r.length∧K (bp r j n) (fA bs off st (splice r j (List.replicate n .x))):=by
 obtain⟨h⟩:=h;obtain⟨r,j,cs,bs',h1,h2,h3,rfl,rfl,h4⟩:=h;exact⟨r,j,h1,h2,h3,h4⟩
def Ly (t:Nat):AV→AV
 | .bor t' off (s::st) ag=>bif Nat.beq t' t then .dead else .bor t' off (s::st) ag
 | .bor t' off [] ag=>.bor t' off [] ag
 | .ref t' off (s::st)=>bif Nat.beq t' t then .dead else .ref t' off (s::st)
 | .ref t' off []=>.ref t' off []
 | .hold k cs=>.hold k cs
 | .iref r off=>.iref r off
 | .fn f caps=>.fn f caps
 | .fv Ok=>.fv Ok
 | .dead=>.dead
def updN (F:Nat→AV) (t:Nat) (k:Kd) (cs:List C):Nat→AV:=fun s=>bif Nat.beq s t then .hold k cs else Ly t (F s)
theorem sS (F:Nat→AV) (t:Nat) (k:Kd) (cs:List C):updN F t k cs t=.hold k cs:=by simp[updN]
theorem wt (F:Nat→AV) {t s:Nat} (k:Kd) (cs:List C) (h:s≠t):updN F t k cs s=Ly t (F s):=by
 unfold updN
 rw[show Nat.beq s t=false by rw[←Bool.not_eq_true,Nat.beq_eq];exact h];rfl
def LH (F:Nat→AV) (t:Nat) (k:Kd) (cs:List C):Nat→AV:=match k with
 | .box=>updH F t .box cs
 | .one=>updN F t .one cs
 | .agg=>updN F t .agg cs
 | .tup l=>updN F t (.tup l) cs
theorem oX {F:Nat→AV} {t:Nat} {k:Kd} {cs:List C} {t':Nat} {k2:Kd} {cs2:List C} (h:updH F t k cs t'=.hold k2 cs2):updN F t k cs t'=.hold k2 cs2:=by
 by_cases e:t'=t
 ·subst e;rw[gr]at h;rw[sS];exact h
 ·rw[eU _ _ _ e]at h
  rw[wt _ _ _ e]
  cases hF:F t' with
  | hold k3 cs3=>rw[hF]at h;exact h
  | bor t1 off st ag=>rw[hF]at h;simp only[qW]at h;cases hb:Nat.beq t1 t<;>rw[hb]at h<;>cases h
  | ref t1 off st=>
   rw[hF]at h
   cases st with
   | nil=>cases h
   | cons s st=>simp only[qW]at h;cases hb:Nat.beq t1 t<;>rw[hb]at h<;>cases h
  | _=>rw[hF]at h;cases h
theorem yJ (cs:List C) (off:Nat) (s:Nat × Nat × Nat) (st:cm) (r:List C):(fA cs off (s::st) r).length=cs.length:=by
 obtain⟨i,k,j⟩:=s
 simp only[fA]
 (repeat' split)<;>simp
def gx (F:Nat→AV) (y:Operand) (K:(Nat→AV)→Option Nat→List C→Prop):Prop:=
 match y with
 | .tmp t=>match F t with
  | .hold .one cs=>K (updH F t .one (splice cs 0 (List.replicate cs.length .x))) none cs
  | .hold .agg cs=>K (updH F t .agg (splice cs 0 (List.replicate cs.length .x))) (some cs.length) cs
  | .bor t2 off [] ag=>(match F t2 with
    | .hold k cs=>bif Nat.ble (off+ag.getD 1) cs.length then K (updN F t2 k (splice cs off (List.replicate (ag.getD 1) .x))) ag (bp cs off (ag.getD 1)) else False
    | _=>False)
  | .bor t2 off (s::st) ag=>(match F t2 with
    | .hold k cs=>Lq cs off (s::st) (ag.getD 1) fun xs bs'=>K (updN F t2 k bs') ag xs
    | _=>False)
  | _=>False
 | _=>False
def bO (N:fF) (F:Nat→AV) (d:Nat) (av:AV) (K:(Nat→AV)→Prop):Prop:=bif N.free d&&!av.uses d then K (put F d av) else False
def fF.al (N:fF) (d:Nat):Bool:=N.mo.any fun p=>Nat.beq p.1 (1000000+d)
def jX (N:fF) (F:Nat→AV) (d:Nat) (x:Operand) (K:(Nat→AV)→Prop):Prop:=
 match x with
 | .tmp t=>match F t with
  | .bor ..=>bif N.al d then bo F x fun av=>bO N F d av K else gx F x fun F' ag cs=>bO N F' d (.hold (jc ag) cs) K
  | .hold .one cs=>bif aW cs then bo F x fun av=>bO N F d av K else gx F x fun F' ag cs=>bO N F' d (.hold (jc ag) cs) K
  | .hold .agg cs=>bif aW cs then bo F x fun av=>bO N F d av K else gx F x fun F' ag cs=>bO N F' d (.hold (jc ag) cs) K
  | _=>bo F x fun av=>bO N F d av K
 | x=>bo F x fun av=>bO N F d av K
inductive Pu (bs:List C) (off:Nat) (st:cm) (xs:List C) (K:List C→Prop):Prop
 |mk_ (h:∃ r j bs',bS bs off st=some (r,j)∧jI bs off st∧j+xs.length≤r.length∧bs'=fA bs off st (splice r j xs)∧K bs')
theorem Pu.mk {bs bs':List C} {off:Nat} {st:cm} {xs:List C} {K:List C→Prop} {r:List C} {j:Nat} (h1:bS bs off st=some (r,j)) (h2:jI bs off st) (h3:j+xs.length≤r.length) (h4:bs'=fA bs off st (splice r j xs)) (hK:K bs'):Pu bs off st xs K:=by
 refine .mk_ ?_;exact⟨r,j,bs',h1,h2,h3,h4,hK⟩
theorem Pu.one {bs bs':List C} {off i k j:Nat} {xs:List C} {K:List C→Prop} {o:dE} {rows:List (List C)} {r:List C} (h1:bs[off]? = some (.s o rows)) (ho:o.mine=true) (h2:rows[i]? = some r) (h3:r.length=k) (h4:j+xs.length≤k)
  (h5:bs'=bs.set off (.s o (rows.set i (splice r j xs)))) (hK:K bs'):Pu bs off [(i,k,j)] xs K:=by
 have hoi:o≠.imm:=fun e=>by subst e;cases ho
 refine Pu.mk (r:=r) (j:=j) (by simp[bS,h1,h2,h3]) (by simp[jI,h1,h2,hoi]) (by omega) (by rw[h5];simp[fA,h1,h2]) hK
theorem Pu.out {bs:List C} {off:Nat} {st:cm} {xs:List C} {K:List C→Prop} (h:Pu bs off st xs K):∃ r j,bS bs off st=some (r,j)∧jI bs off st∧j+xs.length≤r.length∧K (fA bs off st (splice r j xs)):=by
 obtain⟨h⟩:=h;obtain⟨r,j,bs',h1,h2,h3,rfl,h4⟩:=h;exact⟨r,j,h1,h2,h3,h4⟩
def pD (F:Nat→AV) (x:Operand) (cs:List C) (K:(Nat→AV)→Prop):Prop:=
 match x with
 | .tmp tx=>match F tx with
  | .hold .box bs=>bif Nat.ble cs.length bs.length then fc (splice bs 0 cs) fun bs'=>K (updH F tx .box bs') else False
  | .ref t off []=>(match F t with
    | .hold .box bs=>bif Nat.ble (off+cs.length) bs.length then fc (splice bs off cs) fun bs'=>K (updH F t .box bs') else False
    | _=>False)
  | .ref t off (s::st)=>(match F t with
    | .hold k bs=>Pu bs off (s::st) cs fun bs'=>K (LH F t k bs')
    | _=>False)
  | _=>False
 | _=>False
def mR (TE:Nat→Option TI) (F:Nat→AV) (T:Nat) (x y:Operand) (K:(Nat→AV)→Prop):Prop:=
 match TE T with
 | some i=>iA F (nj F y) fun _ cs=>bif Nat.beq cs.length i.size then(bif aW cs then pD F x cs K else gx F y fun F' _ cs=>bif Nat.beq cs.length i.size then pD F' x cs K else False) else False
 | none=>False
section
variable {P:Program} {w0 w w1:World} {M S0 S:ab} {N:fF} {φ:Nat→ab} {F:Nat→AV} {a:Act} {TE:Nat→Option TI}
theorem bj.toN {S1:ab} {φ1:Nat→ab} {t:Nat} {k:Kd} {cs cs':List C} {w':World} (h:bj w0 M S0 N S1 φ1 (updH F t k cs') a w') (h0:bj w0 M S0 N S φ F a w) (hw:∀ v,bR w' k v=bR w k v) (hF:F t=.hold k cs) (hl:cs'.length=cs.length):bj w0 M S0 N S1 φ1 (updN F t k cs') a w':=by
 refine⟨fun s=>?_,h.dis,h.disS,h.ex,h.sub,h.sup,h.old,h.size,h.defers,h.par⟩
 have hs:=h.slot s
 by_cases e:s=t
 ·subst e;rw[gr]at hs;rw[sS];exact hs
 ·rw[eU _ _ _ e]at hs
  rw[wt _ _ _ e]
  cases hFs:F s with
  | dead=>trivial
  | hold k3 cs3=>rw[hFs]at hs;exact hs
  | iref r off=>rw[hFs]at hs;exact hs
  | fn f caps=>rw[hFs]at hs;exact hs
  | fv Ok=>rw[hFs]at hs;exact hs
  | ref t1 off st=>
   rw[hFs]at hs
   cases st with
   | nil=>
    obtain⟨k2,cs2,r,j,g,o,h1,h2⟩:=hs
    exact⟨k2,cs2,r,j,g,o,oX h1,h2⟩
   | cons s2 st=>
    simp only[qW]at hs
    simp only[Ly]
    cases hb:Nat.beq t1 t with
    | true=>trivial
    | false=>
     rw[hb]at hs
     obtain⟨k2,cs2,r,j,g,o,h1,h2⟩:=hs
     exact⟨k2,cs2,r,j,g,o,oX h1,h2⟩
  | bor t1 off st ag=>
   rw[hFs]at hs
   simp only[qW]at hs
   cases st with
   | nil=>
    simp only[Ly]
    cases hb:Nat.beq t1 t with
    | true=>
     have:=Nat.eq_of_beq_eq_true hb
     subst this
     have h1:=h0.slot s
     rw[hFs]at h1
     obtain⟨k2,cs2,r,j,g1,g2,g3,g4⟩:=h1
     rw[hF]at g1
     cases g1
     simp only[bS,Option.some.injEq,Prod.mk.injEq]at g2
     obtain⟨rfl,rfl⟩:=g2
     exact⟨_,_,_,_,sS ..,rfl,by omega,by rw[hw];exact g4⟩
    | false=>
     rw[hb]at hs
     obtain⟨k2,cs2,r,j,h1,h2⟩:=hs
     exact⟨k2,cs2,r,j,oX h1,h2⟩
   | cons s2 st=>
    simp only[Ly]
    cases hb:Nat.beq t1 t with
    | true=>trivial
    | false=>
     rw[hb]at hs
     obtain⟨k2,cs2,r,j,h1,h2⟩:=hs
     exact⟨k2,cs2,r,j,oX h1,h2⟩
theorem bj.toP {S1:ab} {φ1:Nat→ab} {t:Nat} {k:Kd} {cs cs':List C} {w':World} (h:bj w0 M S0 N S1 φ1 (updH F t k cs') a w') (h0:bj w0 M S0 N S φ F a w) (hF:F t=.hold k cs) (hl:cs'.length=cs.length):bj w0 M S0 N S1 φ1 (LH F t k cs') a w':=by
 cases k with
 | box=>exact h
 | _=>exact h.toN h0 (fun _=>rfl) hF hl
theorem bj.taken (h:bj w0 M S0 N S φ F a w) {y:Operand} {K:(Nat→AV)→Option Nat→List C→Prop} (hp:gx F y K) :
  ∃ F' ag cs V φ',K F' ag cs∧bj w0 M S0 N S φ' F' a w∧bv w S V ag cs (a.eval y)∧(∀ b o,V b o→(∀ t,¬φ' t b o)∧¬S b o∧b<w.heap.size∧(w0.heap.size≤b∨M b o))∧(∀ t b o,φ' t b o→φ t b o)∧(∀ b o,V b o→∃ t,φ t b o):=by
 cases y with
 | tmp t=>
  have hs:=h.slot t
  simp only[gx]at hp
  have fin:∀ (t2 off n:Nat) (k:Kd) (cs:List C),F t2=.hold k cs→off+n≤cs.length→∀ (ag:Option Nat),ag.getD 1=n→(a.eval (.tmp t)=mkv ag fun j=>bR w k (tvs a t2) (off+j))→
    K (updH F t2 k (splice cs off (List.replicate n .x))) ag (bp cs off n)→
    ∃ F' ag cs V φ',K F' ag cs∧bj w0 M S0 N S φ' F' a w∧bv w S V ag cs (a.eval (.tmp t))∧(∀ b o,V b o→(∀ t,¬φ' t b o)∧¬S b o∧b<w.heap.size∧(w0.heap.size≤b∨M b o))∧(∀ t b o,φ' t b o→φ t b o)∧(∀ b o,V b o→∃ t,φ t b o):=by
   intro t2 off n k cs hF hl ag hag hv hK
   obtain⟨V,X,h1,h2,hX,h3,h4⟩:=h.take hF hl
   refine⟨_,ag,_,V,_,hK,h4,⟨by simp[bp];omega,_,hv,h3⟩,fun b o hb=>⟨fun t' hb'=>?_,h.disS t2 b o (h1 b o hb),h.ex t2 b o (h1 b o hb)⟩,fun t' b o hb=>?_,fun b o hb=>⟨t2,h1 b o hb⟩⟩
   ·by_cases ht:t'=t2
    ·rw[if_pos ht]at hb';exact h2 b o hb hb'
    ·rw[if_neg ht]at hb';exact h.dis t' t2 ht b o hb' (h1 b o hb)
   ·by_cases ht:t'=t2
    ·subst ht;rw[if_pos rfl]at hb;exact hX b o hb
    ·rw[if_neg ht]at hb;exact hb
  have dS:∀ (t2 off n:Nat) (k:Kd) (cs:List C),F t2=.hold k cs→off+n≤cs.length→∀ (ag:Option Nat),ag.getD 1=n→(a.eval (.tmp t)=mkv ag fun j=>bR w k (tvs a t2) (off+j))→
    K (updN F t2 k (splice cs off (List.replicate n .x))) ag (bp cs off n)→
    ∃ F' ag cs V φ',K F' ag cs∧bj w0 M S0 N S φ' F' a w∧bv w S V ag cs (a.eval (.tmp t))∧(∀ b o,V b o→(∀ t,¬φ' t b o)∧¬S b o∧b<w.heap.size∧(w0.heap.size≤b∨M b o))∧(∀ t b o,φ' t b o→φ t b o)∧(∀ b o,V b o→∃ t,φ t b o):=by
   intro t2 off n k cs hF hl ag hag hv hK
   obtain⟨V,X,h1,h2,hX,h3,h4⟩:=h.take hF hl
   refine⟨_,ag,_,V,_,hK,h4.toN h (fun _=>rfl) hF (by simp[splice];omega),⟨by simp[bp];omega,_,hv,h3⟩,fun b o hb=>⟨fun t' hb'=>?_,h.disS t2 b o (h1 b o hb),h.ex t2 b o (h1 b o hb)⟩,fun t' b o hb=>?_,fun b o hb=>⟨t2,h1 b o hb⟩⟩
   ·by_cases ht:t'=t2
    ·rw[if_pos ht]at hb';exact h2 b o hb hb'
    ·rw[if_neg ht]at hb';exact h.dis t' t2 ht b o hb' (h1 b o hb)
   ·by_cases ht:t'=t2
    ·subst ht;rw[if_pos rfl]at hb;exact hX b o hb
    ·rw[if_neg ht]at hb;exact hb
  cases hF:F t with
  | hold k cs=>
   rw[hF]at hp hs
   obtain⟨X1,Y,-,-,-,h4,-⟩:=hs
   cases k with
   | one=>
    have hl:cs.length=1:=h4
    refine fin t 0 cs.length .one cs hF (by omega) none (by simp[hl]) rfl ?_
    rw[show bp cs 0 cs.length=cs by simp[bp]];exact hp
   | agg=>
    obtain⟨arr,hv,hsz⟩:=h4
    refine fin t 0 cs.length .agg cs hF (by omega) (some cs.length) rfl ?_ ?_
    ·show tvs a t=_
     rw[hv]
     have:=mW arr
     rw[hsz]at this
     exact this.trans (hJ fun j _=>by simp[bR,Value.cells])
    ·rw[show bp cs 0 cs.length=cs by simp[bp]];exact hp
   | _=>exact hp.elim
  | bor t2 off st ag=>
   rw[hF]at hp hs
   cases st with
   | cons s st=>
    simp only at hp
    obtain⟨k,cs,r,j,h1,h2,h3,h4⟩:=hs
    rw[h1]at hp
    simp only at hp
    obtain⟨r',j',e1,e2,e3,hK⟩:=Lq.out hp
    obtain⟨V,φ',g1,g2,g3,g4,g5⟩:=h.lend h1 e1 e2 e3
    exact⟨_,ag,_,V,φ',hK,g2.toN h (fun _=>rfl) h1 (yJ ..),⟨by simp[bp];omega,_,h4,g1⟩,g3,g4,fun b o hb=>⟨t2,g5 b o hb⟩⟩
   | nil=>
    simp only at hp
    obtain⟨k,cs,r,j,h1,h2,h3,h4⟩:=hs
    rw[h1]at hp
    simp only[bS,Option.some.injEq,Prod.mk.injEq]at h2
    obtain⟨rfl,rfl⟩:=h2
    simp only at hp
    cases hb:Nat.ble (off+ag.getD 1) cs.length with
    | false=>rw[hb]at hp;exact hp.elim
    | true=>
     rw[hb]at hp
     exact dS t2 off (ag.getD 1) k cs h1 h3 ag rfl (h4.trans rfl) hp
  | _=>rw[hF]at hp;exact hp.elim
 | _=>exact hp.elim
theorem bj.putD_new (h:bj w0 M S0 N S φ F a w) {d:Nat} {av:AV} {v:Value} {K:(Nat→AV)→Prop} (hv:lV w S F a av v w1) (hp:bO N F d av K):∃ F',K F'∧St w0 M S0 N F' (a.put (some d) v) w1:=by
 unfold bO at hp
 cases hc:(N.free d&&!av.uses d) with
 | false=>rw[hc]at hp;exact hp.elim
 | true=>
  rw[hc]at hp
  simp only[Bool.and_eq_true,Bool.not_eq_true']at hc
  exact⟨_,hp,h.put_newR hc.1 hv hc.2⟩
theorem bj.putD_taken {φ':Nat→ab} {F':Nat→AV} (h:bj w0 M S0 N S φ' F' a w) {d:Nat} {ag:Option Nat} {cs:List C} {v:Value} {V:ab} {K:(Nat→AV)→Prop} (hv:bv w S V ag cs v)
  (hV:∀ b o,V b o→(∀ t,¬φ' t b o)∧¬S b o∧b<w.heap.size∧(w0.heap.size≤b∨M b o)) (hp:bO N F' d (.hold (jc ag) cs) K):∃ F2,K F2∧St w0 M S0 N F2 (a.put (some d) v) w:=by
 unfold bO at hp
 cases hc:(N.free d&&!(AV.hold (jc ag) cs).uses d) with
 | false=>rw[hc]at hp;exact hp.elim
 | true=>
  rw[hc]at hp
  simp only[Bool.and_eq_true,Bool.not_eq_true']at hc
  exact⟨_,hp,S,_,h.put_gen (bw.refl _ _) hc.1 hv.slot hc.2 (fun b o hb=>(hV b o hb).2.2) (fun t _ b o hb=>(hV b o hb).1 t) (fun b o hb=>(hV b o hb).2.1)⟩
theorem bj.assign (h:bj w0 M S0 N S φ F a w) {d:Nat} {x:Operand} {K:(Nat→AV)→Prop} (hp:jX N F d x K):∃ F',K F'∧St w0 M S0 N F' (a.put (some d) (a.eval x)) w:=by
 have mv:bo F x (fun av=>bO N F d av K)→∃ F',K F'∧St w0 M S0 N F' (a.put (some d) (a.eval x)) w:=fun hm=>by
  obtain⟨av,hK,hs⟩:=h.move hm
  exact h.putD_new (lV.same hs) hK
 have tk:gx F x (fun F' ag cs=>bO N F' d (.hold (jc ag) cs) K)→∃ F',K F'∧St w0 M S0 N F' (a.put (some d) (a.eval x)) w:=fun hm=>by
  obtain⟨F',ag,cs,V,φ',hK,h',hv,hV,-⟩:=h.taken hm
  exact h'.putD_taken hv hV hK
 cases x with
 | tmp t=>
  simp only[jX]at hp
  split at hp
  ·cases hn:N.al d with
   | true=>rw[hn]at hp;exact mv hp
   | false=>rw[hn]at hp;exact tk hp
  ·rename_i cs _
   cases hn:aW cs with
   | true=>rw[hn]at hp;exact mv hp
   | false=>rw[hn]at hp;exact tk hp
  ·rename_i cs _
   cases hn:aW cs with
   | true=>rw[hn]at hp;exact mv hp
   | false=>rw[hn]at hp;exact tk hp
  ·exact mv hp
 | const v=>exact mv hp
 | global g=>exact mv hp
 | func f=>exact mv hp
theorem bj.storeSt (h:bj w0 M S0 N S φ F a w) {t:Nat} {k:Kd} {bs cs r:List C} {off j:Nat} {st:cm} (hF:F t=.hold k bs) (hst:st≠[]) (hr:bS bs off st=some (r,j)) (ho:jI bs off st) (hl:j+cs.length≤r.length) {V:ab} {u:Nat→Value} (hrow:co w S V cs u)
  (hV:Free w0 M S φ w V) {T:Nat} (hsz:(P.info? T).map (·.size)=some cs.length) {v:Value} (hv:v.cells.toList=(List.range cs.length).map u) {g o:Nat} (hp:plc w (bR w k (tvs a t)) (pn k (tvs a t)) off st=some (g,o)) :
  ∃ w1,(Instr.storeAt T (.pointer (some ⟨g,o,none⟩)) v).run P w=.ok () w1∧St w0 M S0 N (updH F t k (fA bs off st (splice r j cs))) a w1:=by
 obtain⟨g',b,u',Y,e1,e2,e3,e4,e5,e6⟩:=h.focus hF hst hr ho
 rw[e4]at hp
 simp only[Option.some.injEq,Prod.mk.injEq]at hp
 obtain⟨rfl,rfl⟩:=hp
 have hvl:v.cells.toList.length=cs.length:=by rw[hv];simp
 have hvs:v.cells.size=cs.length:=by simpa using hvl
 have hin:∀ d,d<cs.length→(∃ z,cel w g' (b+j+d)=some z)∧fro w g' (b+j+d)=NF:=fun d hd=>by
  obtain⟨-,-,a3,a4⟩:=e5 (j+d) (by omega)
  rw[Nat.add_assoc]
  exact⟨⟨_,a3⟩,a4⟩
 have hone:∀ x∈v.cells.toList,x.oneCell'=true:=fun x hx=>by
  rw[hv]at hx
  obtain⟨d,hd,rfl⟩:=List.mem_map.1 hx
  exact hrow.one (List.mem_range.1 hd)
 have hrun:=run_storeCells_cells (P:=P) g' (b+j) v.cells.toList 0 w (fun d hd=>by obtain⟨z,hz⟩:=(hin d (by omega)).1;simp only[Nat.add_zero];show(cel w g' (b+j+d)).isSome=true;rw[hz];rfl)
  (fun d hd=>by simp only[Nat.add_zero];exact congrArg Prod.fst (hin d (by omega)).2) hone
 simp only[Nat.add_zero]at hrun
 have hk:bw (fun x o=>x=g'∧b+j≤o∧o<b+j+cs.length) w (w.setCells g' (b+j) v.cells.toList):=im _ _ _ fun d hd=>⟨rfl,by omega,by omega⟩
 have hgv:∀ d,d<cs.length→v.cells.toList[d]? = some (u d):=fun d hd=>by rw[hv,List.getElem?_map,List.getElem?_range hd];rfl
 have hSS:bk S w (w.setCells g' (b+j) v.cells.toList):=fun x o hx=>⟨hk.cel x o (h.sup x o hx).1 (fun hc=>by
   have:=(e5 (o - b) (by omega)).1
   rw[show b+(o - b)=o by omega,←hc.1]at this
   exact h.disS t x o this hx),dr _ _ _ _ _ _⟩
 have hYY:bk Y w (w.setCells g' (b+j) v.cells.toList):=fun x o hx=>⟨hk.cel x o (h.ex t x o (e1 x o hx)).1 (fun hc=>by
   have:=(e5 (o - b) (by omega)).2.1
   rw[show b+(o - b)=o by omega,←hc.1]at this
   exact this hx),dr _ _ _ _ _ _⟩
 have hVV:bk V w (w.setCells g' (b+j) v.cells.toList):=fun x o hx=>⟨hk.cel x o (hV x o hx).2.2.1 (fun hc=>by
   have:=(e5 (o - b) (by omega)).1
   rw[show b+(o - b)=o by omega,←hc.1]at this
   exact(hV x o hx).1 t this),dr _ _ _ _ _ _⟩
 refine⟨_,by simp[Instr.storeAt,Instr.sureAddr,storeVar,jf hsz,hvs,hrun],S,_,e6 _ (splice r j cs) (fun d=>if j≤d∧d<j+cs.length then u (d - j) else u' d) (fun x o=>Y x o∨V x o) _ hk (fun x o hx=>.inr ⟨hx.1,by omega,by omega⟩) (fun d hd=>⟨?_,by rw[dr];exact(e5 d hd).2.2.2⟩) (bW hl) ((e2.keep hSS hYY).join (hrow.keep hSS hVV) hl (fun x o hx hx'=>(hV x o hx').1 t (e1 x o hx))) (fun x o hx=>hx.imp id (hV x o))⟩
 by_cases hq:j≤d∧d<j+cs.length
 ·rw[if_pos hq]
  have:=dY (w:=w) (g:=g') (o:=b+j) (vs:=v.cells.toList) (fun d hd=>(hin d (by omega)).1) (hgv (d - j) (by omega))
  rw[show b+j+(d - j)=b+d by omega]at this
  exact this
 ·rw[if_neg hq,cB (by omega)]
  exact(e5 d hd).2.2.1
theorem bj.putB (h:bj w0 M S0 N S φ F a w) {T:Nat} {x:Operand} {cs:List C} {v:Value} {V:ab} {ag:Option Nat} {K:(Nat→AV)→Prop} (hv:bv w S V ag cs v)
  (hV:∀ b o,V b o→(∀ t,¬φ t b o)∧¬S b o∧b<w.heap.size∧(w0.heap.size≤b∨M b o)) (hsz:(P.info? T).map (·.size)=some cs.length) (hp:pD F x cs K) :
  ∃ F' w1,K F'∧(Instr.storeAt T (a.eval x) v).run P w=.ok () w1∧St w0 M S0 N F' a w1:=by
 obtain⟨u,hu,hr⟩:=hv.cells
 cases x with
 | tmp tx=>
  have hs:=h.slot tx
  show ∃ F' w1,K F'∧(Instr.storeAt T (tvs a tx) v).run P w=.ok () w1∧_
  simp only[pD]at hp
  cases hF:F tx with
  | hold k bs=>
   rw[hF]at hp hs
   cases k with
   | box=>
    simp only at hp
    cases hb:Nat.ble cs.length bs.length with
    | false=>rw[hb]at hp;exact hp.elim
    | true=>
     rw[hb]at hp
     simp only[cond_true,ek]at hp
     obtain⟨X1,Y,-,-,-,⟨g,o,hpt,-⟩,-⟩:=hs
     obtain⟨w1,hrun,hst⟩:=h.store (P:=P) hF (off:=0) (by simpa using Nat.le_of_ble_eq_true hb) hr hV hsz hu (g:=g) (o:=o) (by rw[hpt];rfl)
     exact⟨_,w1,hp,by rw[hpt];exact hrun,hst⟩
   | _=>exact hp.elim
  | ref t off st=>
   rw[hF]at hp hs
   cases st with
   | cons s st=>
    simp only at hp
    obtain⟨k,cs',r,j,g,o,h1,h2,h3,h4⟩:=hs
    rw[h1]at hp
    obtain⟨r',j',e1,e2,e3,hK⟩:=hp.out
    obtain⟨w1,hrun,S1,φ1,hst⟩:=h.storeSt (P:=P) h1 (by simp) e1 e2 e3 hr hV hsz hu h3
    exact⟨_,w1,hK,by rw[h4];exact hrun,S1,φ1,hst.toP h h1 (yJ ..)⟩
   | nil=>
    simp only at hp
    obtain⟨k,cs',r,j,g,o,h1,h2,h3,h4⟩:=hs
    rw[h1]at hp
    cases k with
    | box=>
     simp only at hp
     cases hb:Nat.ble (off+cs.length) cs'.length with
     | false=>rw[hb]at hp;exact hp.elim
     | true=>
      rw[hb]at hp
      simp only[cond_true,ek]at hp
      obtain⟨w1,hrun,hst⟩:=h.store (P:=P) h1 (Nat.le_of_ble_eq_true hb) hr hV hsz hu h3
      exact⟨_,w1,hp,by rw[h4];exact hrun,hst⟩
    | _=>exact hp.elim
  | _=>rw[hF]at hp;exact hp.elim
 | _=>exact hp.elim
theorem bj.storeOp (h:bj w0 M S0 N S φ F a w) (hTE:∀ t i,TE t=some i→bA P t i) {T:Nat} {x y:Operand} {K:(Nat→AV)→Prop} (hp:mR TE F T x y K) :
  ∃ F' w1,K F'∧(Instr.storeAt T (a.eval x) (a.eval y)).run P w=.ok () w1∧St w0 M S0 N F' a w1:=by
 unfold mR at hp
 split at hp
 case h_2=>exact hp.elim
 rename_i i hT
 have hsz:=(hTE _ _ hT).size
 obtain⟨ag,cs,Y,hK,hv,-⟩:=h.val (h.ev y) hp
 cases hl:Nat.beq cs.length i.size with
 | false=>rw[hl]at hK;exact hK.elim
 | true=>
  rw[hl]at hK
  simp only[cond_true]at hK
  cases hn:aW cs with
  | true=>
   rw[hn]at hK
   exact h.putB (V:=NO) (hv.bare hn) (fun _ _ h=>h.elim) (by rw[hsz,Nat.eq_of_beq_eq_true hl]) hK
  | false=>
   rw[hn]at hK
   simp only[cond_false]at hK
   obtain⟨F',ag',cs',V,φ',hK',h',hv',hV,-⟩:=h.taken hK
   cases hl':Nat.beq cs'.length i.size with
   | false=>rw[hl']at hK';exact hK'.elim
   | true=>
    rw[hl']at hK'
    exact h'.putB hv' hV (by rw[hsz,Nat.eq_of_beq_eq_true hl']) hK'
end
end Go.Proofs.YtplcalfnngkffaaGreat.Ab
/- build, slice literals and append with parts that are the call's own, on abstract frames. No condition. -/
namespace Go.Proofs.YtplcalfnngkffaaGreat.Ab
open Go.RowKit
def tG (F:Nat→AV) (x:Operand) (K:(Nat→AV)→Option Nat→List C→Prop):Prop:=iA F (nj F x) fun ag cs=>bif aW cs then K F ag cs else gx F x K
def fillW (pl:Nat→Option (Nat × Nat)):List (Nat × Operand)→List C→((Nat→AV)→List C→Prop)→(Nat→AV)→Prop
 | [],cs,K,F=>K F cs
 | p::rest,cs,K,F=>match pl p.1 with
  | some q=>tG F p.2 fun F' _ xs=>bif Nat.beq xs.length q.2&&Nat.ble (q.1+q.2) cs.length then fc (splice cs q.1 xs) fun cs'=>fillW pl rest cs' K F' else False
  | none=>False
def jP (TE:Nat→Option TI) (N:fF) (F:Nat→AV) (d T:Nat) (parts:List (Nat × Operand)) (K:(Nat→AV)→Prop):Prop:=
 match TE T with
 | some ⟨_,_,zero,.st flds⟩=>bif vm TE flds then fillW (Np TE flds) parts zero (fun F' cs=>bO N F' d (.hold .agg cs) K) F else False
 | _=>False
def ir (TE:Nat→Option TI) (N:fF) (F:Nat→AV) (d T n:Nat) (parts:List (Nat × Operand)) (K:(Nat→AV)→Prop):Prop:=
 G7 TE T fun _ ie=>bif Nat.ble (n*ie.size) 16777216 then(match n,parts with
   | 0,[]=>bO N F d (.hold .one [.z]) K
   | n+1,parts=>fc (rep ie.zero (n+1)) fun cs=>fillW (Pf ie.size) parts cs (fun F' cs'=>NC ie.size (n+1) cs' fun rows=>bO N F' d (.hold .one [.s .own rows]) K) F
   | _,_=>False) else False
def K2 (N:fF) (F:Nat→AV) (d:Nat) (x:Operand) (K:(Nat→AV)→Prop):Prop:=tG F x fun F' _ cs=>bO N F' d (.hold .box cs) K
inductive Ap (flat:Bool) (rows xr:List (List C)) (sz by_:Nat) (K:List (List C)→Prop):Prop
 |mk_ (h:(∀ r∈rows,r.length=sz)∧(∀ r∈xr,r.length=sz)∧(flat=true→∀ r∈xr,aW r=true)∧rows.length+xr.length≤140737488355328∧(rows.length+xr.length)*by_≤140737488355328∧∃ rs,rs=rows++xr∧K rs)
theorem Ap.mk {flat:Bool} {rows xr rs:List (List C)} {sz by_:Nat} {K:List (List C)→Prop} (h1:∀ r∈rows,r.length=sz) (h2:∀ r∈xr,r.length=sz) (h3:flat=true→∀ r∈xr,aW r=true) (h4:rows.length+xr.length≤140737488355328)
  (h5:(rows.length+xr.length)*by_≤140737488355328) (h6:rs=rows++xr) (hK:K rs):Ap flat rows xr sz by_ K:=by refine .mk_ ?_;exact⟨h1,h2,h3,h4,h5,rs,h6,hK⟩
theorem Ap.out {flat:Bool} {rows xr:List (List C)} {sz by_:Nat} {K:List (List C)→Prop} (h:Ap flat rows xr sz by_ K) :
  (∀ r∈rows,r.length=sz)∧(∀ r∈xr,r.length=sz)∧(flat=true→∀ r∈xr,aW r=true)∧rows.length+xr.length≤140737488355328∧(rows.length+xr.length)*by_≤140737488355328∧K (rows++xr):=by
 obtain⟨h⟩:=h;obtain⟨h1,h2,h3,h4,h5,rs,rfl,h6⟩:=h;exact⟨h1,h2,h3,h4,h5,h6⟩
def AQ (F:Nat→AV) (y:Operand) (K:Bool→(Nat→AV)→List (List C)→Prop):Prop:=
 match nj F y with
 | .hold .one [.s .own _]=>gx F y fun F' ag cs=>match ag,cs with|none,[.s .own rows]=>K false F' rows|_,_=>False
 | av=>iA F av fun ag cs=>match ag,cs with
  | none,[.s _ rows]=>K true F rows
  | none,[.z]=>K true F []
  | _,_=>False
def yA (F:Nat→AV) (x:Operand) (K:(Nat→AV)→List (List C)→Prop):Prop:=
 iA F (nj F x) fun ag cs=>match ag,cs with
  | none,[.z]=>K F []
  | none,[.s .own _]=>gx F x fun F' ag cs=>match ag,cs with|none,[.s .own rows]=>K F' rows|_,_=>False
  | _,_=>False
def yH (TE:Nat→Option TI) (N:fF) (F:Nat→AV) (d T:Nat) (x y:Operand) (K:(Nat→AV)→Prop):Prop:=
 G7 TE T fun _ ie=>AQ F y fun fl F' xr=>yA F' x fun F'' rows=>Ap fl rows xr ie.size ie.bytes fun rs=>bO N F'' d (.hold .one [.s .own rs]) K
section
variable {P:Program} {w0 w w1:World} {M S0 S:ab} {N:fF} {φ:Nat→ab} {F:Nat→AV} {a:Act} {TE:Nat→Option TI}
theorem bj.give (h:bj w0 M S0 N S φ F a w) {x:Operand} {K:(Nat→AV)→Option Nat→List C→Prop} (hp:tG F x K) :
  ∃ F' ag cs V φ',K F' ag cs∧bj w0 M S0 N S φ' F' a w∧bv w S V ag cs (a.eval x)∧Free w0 M S φ' w V∧(∀ t b o,φ' t b o→φ t b o)∧(∀ b o,V b o→∃ t,φ t b o):=by
 obtain⟨ag,cs,Y,hK,hv,-⟩:=h.val (h.ev x) hp
 cases hn:aW cs with
 | true=>rw[hn]at hK;exact⟨F,ag,cs,NO,φ,hK,h,hv.bare hn,fun _ _ h=>h.elim,fun _ _ _ h=>h,fun _ _ h=>h.elim⟩
 | false=>rw[hn]at hK;exact h.taken hK
theorem bj.fillW {pl:Nat→Option (Nat × Nat)} : ∀ {parts:List (Nat × Operand)} {cs:List C} {K:(Nat→AV)→List C→Prop} {F:Nat→AV} {φ:Nat→ab} {u:Nat→Value} {cells:Array Value} {Y:ab},bj w0 M S0 N S φ F a w→Ab.fillW pl parts cs K F→co w S Y cs u→Free w0 M S φ w Y→
  cells.toList=(List.range cs.length).map u→
  ∃ F' φ' cs' u' cells' Y',K F' cs'∧bj w0 M S0 N S φ' F' a w∧cs'.length=cs.length∧co w S Y' cs' u'∧Free w0 M S φ' w Y'∧Instr.fill pl cells (parts.map fun p=>(p.1,a.eval p.2))=some cells'∧cells'.toList=(List.range cs'.length).map u'
 | [],cs,K,F,φ,u,cells,Y,h,hp,hr,hY,hc=>⟨F,φ,cs,u,cells,Y,hp,h,rfl,hr,hY,rfl,hc⟩
 | p::rest,cs,K,F,φ,u,cells,Y,h,hp,hr,hY,hc=>by
  simp only[Ab.fillW]at hp
  split at hp
  case h_2=>exact hp.elim
  rename_i q hq
  obtain⟨F',ag,xs,V,φ',hK,h',hv,hV,hs,hVt⟩:=h.give hp
  cases hb:(Nat.beq xs.length q.2&&Nat.ble (q.1+q.2) cs.length) with
  | false=>rw[hb]at hK;exact hK.elim
  | true=>
   rw[hb]at hK
   simp only[Bool.and_eq_true]at hb
   have h1:=Nat.eq_of_beq_eq_true hb.1
   have h2:=Nat.le_of_ble_eq_true hb.2
   simp only[cond_true,ek]at hK
   obtain⟨u2,hu2,hr2⟩:=hv.cells
   obtain⟨cells1,hf,hc1⟩:=zi (rest:=rest.map fun p=>(p.1,a.eval p.2)) hq hc hu2 h1 h2
   have hr3:=hr.join hr2 (off:=q.1) (by omega) (fun b o hb hb'=>by obtain⟨t,ht⟩:=hVt b o hb';exact(hY b o hb).1 t ht)
   obtain⟨F2,φ2,cs',u',cells',Y',e1,e2,e3,e4,e5,e6,e7⟩:=bj.fillW h' hK hr3 ((hY.less hs).or hV) hc1
   exact⟨F2,φ2,cs',u',cells',Y',e1,e2,by rw[e3,bW (by omega)],e4,e5,by rw[List.map_cons,hf];exact e6,e7⟩
theorem bj.putD_free (h:bj w0 M S0 N S φ F a w) {d:Nat} {k:Kd} {cs:List C} {v:Value} {X:ab} {K:(Nat→AV)→Prop} (hv:cz w S F (tvs a) X (.hold k cs) v) (hX:Free w0 M S φ w X) (hp:bO N F d (.hold k cs) K) :
  ∃ F2,K F2∧St w0 M S0 N F2 (a.put (some d) v) w:=by
 unfold bO at hp
 cases hc:(N.free d&&!(AV.hold k cs).uses d) with
 | false=>rw[hc]at hp;exact hp.elim
 | true=>
  rw[hc]at hp
  simp only[Bool.and_eq_true,Bool.not_eq_true']at hc
  exact⟨_,hp,S,_,h.put_gen (bw.refl _ _) hc.1 hv hc.2 (fun b o hb=>(hX b o hb).2.2) (fun t _ b o hb=>(hX b o hb).1 t) (fun b o hb=>(hX b o hb).2.1)⟩
theorem Fz {zero:List C} {cells:Array Value} (hc:cells.toList=zero.map cval):cells.toList=(List.range zero.length).map (fun j=>(zero.map cval).getD j undef):=by
 rw[hc]
 apply List.ext_getElem?
 intro j
 rw[List.getElem?_map,List.getElem?_map]
 by_cases hj:j<zero.length
 ·rw[List.getElem?_range hj,List.getElem?_eq_getElem hj];simp[List.getD,hj]
 ·rw[List.getElem?_eq_none (by omega),List.getElem?_eq_none (by simp;omega)];rfl
theorem bj.buildW (h:bj w0 M S0 N S φ F a w) (hTE:∀ t i,TE t=some i→bA P t i) {d T:Nat} {parts:Array (Nat × Operand)} {K:(Nat→AV)→Prop} (hp:jP TE N F d T parts.toList K) :
  ∃ v F',K F'∧(Instr.build T (parts.map fun(i,x)=>(i,a.eval x))).run P w=.ok v w∧St w0 M S0 N F' (a.put (some d) v) w:=by
 unfold jP at hp
 split at hp
 case h_2=>exact hp.elim
 rename_i size bytes zero flds hT
 cases ha:vm TE flds with
 | false=>rw[ha]at hp;exact hp.elim
 | true=>
  rw[ha]at hp
  have hzo:=(hTE _ _ hT).2.1
  obtain⟨F',φ',cs',u',cells',Y',e1,e2,e3,e4,e5,e6,e7⟩:=bj.fillW h hp (oD hzo S) (fun _ _ h=>h.elim) (Fz (cells:=(zero.map cval).toArray) (by simp))
  have hsz:cells'.size=cs'.length:=by have:=congrArg List.length e7;simpa using this
  have hval:bv w S Y' (some cs'.length) cs' (.agg cells'):=⟨rfl,u',by simp only[mkv];congr 1;apply Array.ext';rw[e7],e4⟩
  obtain⟨F2,hK,hst⟩:=e2.putD_free hval.slot e5 e1
  refine⟨.agg cells',F2,hK,vK hTE hT ha fun cells hc=>?_,hst⟩
  have:cells=(zero.map cval).toArray:=by apply Array.ext';simpa using hc
  rw[this,Array.toList_map]
  exact e6
theorem bj.buildSW (h:bj w0 M S0 N S φ F a w) (hTE:∀ t i,TE t=some i→bA P t i) {d T n:Nat} {parts:Array (Nat × Operand)} {K:(Nat→AV)→Prop} (hp:ir TE N F d T n parts.toList K) :
  ∃ v w1 F',K F'∧(Instr.buildSlice T n (parts.map fun(i,x)=>(i,a.eval x))).run P w=.ok v w1∧St w0 M S0 N F' (a.put (some d) v) w1:=by
 obtain⟨e,ie,q,z,hK,he,hu,ht,hl,hpos,hi,hz,hzc,hsz,hby,hzs⟩:=kn hTE hp
 cases hb:Nat.ble (n*ie.size) 16777216 with
 | false=>rw[hb]at hK;exact hK.elim
 | true=>
  rw[hb]at hK
  have hle:=Nat.le_of_ble_eq_true hb
  simp only[cond_true]at hK
  split at hK
  ·rename_i hparts
   have:parts = #[]:=by apply Array.ext';simpa using hparts
   subst this
   have h':=h.world (w1:=w.alloc (.cells #[] e)) (cQ w _) (fun _ _ h=>h.elim)
   obtain⟨F2,hK2,hst⟩:=h'.putD_free (X:=NO) (v:=.slice (some ⟨w.heap.size,0,none⟩) 0 0) (fW (.z _ _)) (fun _ _ h=>h.elim) hK
   exact⟨_,_,F2,hK2,by rw[Array.map_empty];exact tF hu hi,hst⟩
  ·rename_i n
   rw[Nat.succ_eq_add_one]at hle
   rw[ek]at hK
   obtain⟨F',φ',cs',u',cells',Y',e1,e2,e3,e4,e5,e6,e7⟩:=bj.fillW h hK (rS ht.2.1 S _) (fun _ _ h=>h.elim) (oq hzc (by omega) (rep ie.zero (n+1)).length)
   rw[qo]at e1
   have hcl:cs'.length=(n+1)*ie.size:=by rw[e3,mL,hl]
   have h':=e2.world (w1:=w.alloc (.cells cells' e)) (cQ w _) (fun _ _ h=>h.elim)
   have hrep:=vc (e:=e) e4 hcl (by omega) e7 (fun b o hb=>(e2.sup b o hb).1) (fun b o hb=>(e5 b o hb).2.2.1)
   obtain⟨F2,hK2,hst⟩:=h'.putD_free (fW hrep) (fun b o hb=>by
     rcases hb with hb|hb
     · obtain⟨a1,a2,a3,a4⟩:=e5 b o hb
       exact⟨a1,a2,by rw[f0];omega,a4⟩
     · exact⟨fun t ht=>by have:=(e2.ex t b o ht).1;omega,fun hS=>by have:=(e2.sup b o hS).1;omega,hb.2,.inl (Nat.le_trans e2.old.size hb.1)⟩) e1
   refine⟨_,_,F2,hK2,run_buildSlice w T e (n+1) _ cells' q z hu hi hz (by rw[hsz];omega) (by rw[hsz];have:0<(n+1)*ie.size:=Nat.mul_pos (by omega) hpos;omega) ?_,hst⟩
   rw[hsz,Array.toList_map]
   rw[mL,hl]at e6
   exact e6
  ·exact hK.elim
theorem bj.boxW (h:bj w0 M S0 N S φ F a w) {d T:Nat} {x:Operand} {K:(Nat→AV)→Prop} (hp:K2 N F d x K) :
  ∃ v w1 F',K F'∧(Instr.box T (a.eval x)).run P w=.ok v w1∧St w0 M S0 N F' (a.put (some d) v) w1:=by
 obtain⟨F1,ag,cs,V,φ',hK,h',hv,hV,hs,hVt⟩:=h.give hp
 obtain⟨u,hu,hr⟩:=hv.cells
 have hsz:(a.eval x).cells.size=cs.length:=by have:=congrArg List.length hu;simpa using this
 have h2:=h'.world (w1:=w.alloc (.cells (a.eval x).cells T)) (cQ w _) (fun _ _ h=>h.elim)
 have hcell:∀ j,j<cs.length→cel (w.alloc (.cells (a.eval x).cells T)) w.heap.size j=some (u j):=fun j hj=>by
  rw[gM,←Array.getElem?_toList,hu,List.getElem?_map,List.getElem?_range hj];rfl
 have hVlt:∀ b o,V b o→b<w.heap.size:=fun b o hb=>(hV b o hb).2.2.1
 obtain⟨F2,hK2,hst⟩:=h2.putD_free (X:=fun b o=>V b o∨(b=w.heap.size∧o<cs.length)) (k:=.box) (cs:=cs) (v:=.pointer (some ⟨w.heap.size,0,none⟩)) (F:=F1) ⟨fun b o=>b=w.heap.size∧o<cs.length,V,fun _ _ h=>.inr h,fun _ _ h=>.inl h,fun b o hb hb'=>by have:=hVlt b o hb';omega,
   ⟨_,_,rfl,fun j hj=>⟨⟨rfl,by omega⟩,by rw[Nat.zero_add];exact⟨_,hcell j hj⟩,by rw[Nat.zero_add,iO]⟩⟩,(hr.keep (hB (cQ w _) fun b o hb=>(h'.sup b o hb).1) (hB (cQ w _) hVlt)).congr fun j hj=>by simp only[bR,Nat.zero_add,hcell j hj,Option.getD_some]⟩ (fun b o hb=>by
   rcases hb with hb|hb
   · obtain⟨a1,a2,a3,a4⟩:=hV b o hb
     exact⟨a1,a2,by rw[f0];omega,a4⟩
   · exact⟨fun t ht=>by have:=(h'.ex t b o ht).1;omega,fun hS=>by have:=(h'.sup b o hS).1;omega,by rw[f0];omega,.inl (by rw[hb.1];exact h'.old.size)⟩) hK
 exact⟨_,_,F2,hK2,by simp[Instr.box,newVar,newRow],hst⟩
theorem bj.src (h:bj w0 M S0 N S φ F a w) {y:Operand} {sz:Nat} {K:Bool→(Nat→AV)→List (List C)→Prop} (hp:AQ F y K) :
  ∃ fl F' xr φ',K fl F' xr∧bj w0 M S0 N S φ' F' a w∧(∀ t b o,φ' t b o→φ t b o)∧((∀ r∈xr,r.length=sz)→(fl=true→∀ r∈xr,aW r=true)→
    ∃ b c u2 f2 V,a.eval y=.slice b xr.length c∧nL w b (xr.length*sz) ((List.range (xr.length*sz)).map u2)∧Bc w S V xr sz u2 f2∧Free w0 M S φ' w V∧(∀ b o,V b o→∃ t,φ t b o)):=by
 unfold AQ at hp
 split at hp
 ·obtain⟨F',ag,cs,V,φ',hK,h',hv,hV,hs,hVt⟩:=h.taken hp
  match ag,cs,hK with
  | none,[.s .own rows],hK=>
   refine⟨false,F',rows,φ',hK,h',hs,fun hk _=>?_⟩
   rcases hv.rep1.els (by simp) hk with⟨rfl,a0,e⟩|⟨g,cap,u,f,e,hpos,hcap,hcell,hu,hE⟩
   ·exact⟨a0,0,fun _=>undef,fun _=>NO,NO,e,⟨by simp,fun _=>by simp,fun ad j u _ hj=>by simp at hj⟩,⟨fun r hr=>(by cases hr),fun _ _ _ _ h=>h.elim,fun _ _ _ _ _ _ _ h=>h.elim,fun i j r c hi=>(by simp at hi)⟩,fun _ _ h=>h.elim,fun _ _ h=>h.elim⟩
   ·refine⟨_,cap,u,f,_,e,⟨by simp,fun h=>(by cases h),fun ad j y had hj=>?_⟩,hE,fun b o hb=>hV b o hb.1,fun b o hb=>hVt b o hb.1⟩
    cases had
    rw[List.getElem?_map]at hj
    have hjl:j<rows.length*sz:=by
     rcases Nat.lt_or_ge j (rows.length*sz) with h|h
     ·exact h
     ·rw[List.getElem?_eq_none (by simpa using h)]at hj;cases hj
    rw[List.getElem?_range hjl]at hj
    simp only[Option.map_some,Option.some.injEq]at hj
    subst hj
    rw[ja,Nat.zero_add]
    exact hu j hjl
 ·obtain⟨ag,cs,Y,hK,hv,-⟩:=h.val (h.ev y) hp
  match ag,cs,hK with
  | none,[.s o rows],hK=>
   refine⟨true,F,rows,φ,hK,h,fun _ _ _ h=>h,fun hk hn=>?_⟩
   obtain⟨b,c,u,e1,e2,e3⟩:=hv.rep1.flat (fun r hr=>⟨hk r hr,hn rfl r hr⟩)
   exact⟨b,c,u,_,NO,e1,e2,e3,fun _ _ h=>h.elim,fun _ _ h=>h.elim⟩
  | none,[.z],hK=>
   obtain⟨b,hb⟩:=vV hv.rep1
   exact⟨true,F,[],φ,hK,h,fun _ _ _ h=>h,fun _ _=>⟨b,0,fun _=>undef,fun _=>NO,NO,hb,⟨by simp,fun _=>by simp,fun ad j u _ hj=>by simp at hj⟩,⟨fun r hr=>(by cases hr),fun _ _ _ _ h=>h.elim,fun _ _ _ _ _ _ _ h=>h.elim,fun i j r c hi=>(by simp at hi)⟩,fun _ _ h=>h.elim,fun _ _ h=>h.elim⟩⟩
theorem bj.base (h:bj w0 M S0 N S φ F a w) {x:Operand} {K:(Nat→AV)→List (List C)→Prop} (hp:yA F x K) :
  ∃ F' rows φ' V,K F' rows∧bj w0 M S0 N S φ' F' a w∧(∀ t b o,φ' t b o→φ t b o)∧ez w S V (.s .own rows) (a.eval x)∧Free w0 M S φ' w V∧(∀ b o,V b o→∃ t,φ t b o):=by
 obtain⟨ag,cs,Y,hK,hv,-⟩:=h.val (h.ev x) hp
 match ag,cs,hK with
 | none,[.z],hK=>
  obtain⟨b,hb⟩:=vV hv.rep1
  exact⟨F,[],φ,NO,hK,h,fun _ _ _ h=>h,by rw[hb];exact .nil _ _ _ trivial,fun _ _ h=>h.elim,fun _ _ h=>h.elim⟩
 | none,[.s .own _],hK=>
  obtain⟨F',ag,cs,V,φ',hK,h',hv,hV,hs,hVt⟩:=h.taken hK
  match ag,cs,hK with
  | none,[.s .own rows],hK=>exact⟨F',rows,φ',V,hK,h',hs,hv.rep1,hV,hVt⟩
theorem bj.appW (h:bj w0 M S0 N S φ F a w) (hTE:∀ t i,TE t=some i→bA P t i) {d T ty:Nat} {x y:Operand} {K:(Nat→AV)→Prop} (hp:yH TE N F d T x y K) :
  ∃ v w1 F',K F'∧(Builtin.append_ #[T,T] ty #[a.eval x,a.eval y]).run P w=.ok v w1∧St w0 M S0 N F' (a.put (some d) v) w1:=by
 obtain⟨e,ie,q,z,hK,he,hu,ht,hl,hpos,hi,hz,hzc,hsz,hby,hzs⟩:=kn hTE hp
 obtain⟨fl,F1,xr,φ1,hK,s1,hs1,hsrc⟩:=h.src (sz:=ie.size) hK
 obtain⟨F2,rows,φ2,V,hK,s2,hs2,hrep,hV,hVt⟩:=s1.base hK
 obtain⟨h1,h2,h3,h4,h5,hK⟩:=hK.out
 obtain⟨b,c,u2,f2,V2,hy,hR,hE,hV2,hVt2⟩:=hsrc h2 h3
 have hz1:∀ x∈z.cells.toList,x.oneCell'=true:=by rw[hzc];exact Be ht.2.1
 rw[←hsz]at hR hE
 obtain⟨v',w',hrun,hkk,hrep'⟩:=vp (P:=P) (ty:=ty) (c:=c) hu hi hz hzs hz1 hrep (by rw[hsz];exact h1) hE hR (fun b o hb hb'=>by obtain⟨t,ht⟩:=hVt b o hb;exact(hV2 b o hb').1 t ht) (fun b o hb=>(hV b o hb).2.1) (fun b o hb=>(hV b o hb).2.2.1)
  (fun b o hb=>(hV2 b o hb).2.2.1) (fun b o hb=>(s2.sup b o hb).1) h4 (by rw[hby];exact h5)
 have s3:=s2.world hkk hV
 obtain⟨F3,hK3,hst⟩:=s3.putD_free (fW hrep') (fun b o hb=>by
   rcases hb with hb|hb|hb
   · obtain⟨a1,a2,a3,a4⟩:=hV b o hb
     exact⟨a1,a2,Nat.lt_of_lt_of_le a3 hkk.size,a4⟩
   · obtain⟨a1,a2,a3,a4⟩:=(hV2.less hs2) b o hb
     exact⟨a1,a2,Nat.lt_of_lt_of_le a3 hkk.size,a4⟩
   · exact⟨fun t ht=>by have:=(s2.ex t b o ht).1;omega,fun hS=>by have:=(s2.sup b o hS).1;omega,hb.2,.inl (Nat.le_trans s2.old.size hb.1)⟩) hK
 exact⟨v',w',F3,hK3,by rw[hy];exact hrun,hst⟩
end
end Go.Proofs.YtplcalfnngkffaaGreat.Ab
