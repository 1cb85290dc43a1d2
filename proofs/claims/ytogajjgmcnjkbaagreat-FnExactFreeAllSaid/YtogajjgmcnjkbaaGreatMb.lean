/- Calls that only read what they are handed, on abstract frames; all slot-only operations together. No condition. -/
import Derived.Test.YtogajjgmcnjkbaaGreatMa
import Derived.Deep.LoopGhost
namespace Go.Proofs.YtogajjgmcnjkbaaGreat.Ab
open Go.RowKit
inductive RA where
 |val (ag:Option Nat) (cs:List C)
 |ptr (cs:List C)
 |fn (Ok:ab→World→Value→Prop)
def md (w:World) (S:ab):RA→Value→Prop
 | .val ag cs,v=>bo w S NO ag cs v
 | .ptr cs,v=>∃ g b u,v=.pointer (some ⟨g,b,none⟩)∧(∀ d,d<cs.length→S g (b+d)∧cel w g (b+d)=some (u d))∧cm w S NO cs u
 | .fn Ok,v=>∃ (S1:ab) (w1:World),(∀ b o,S1 b o→S b o)∧ba S1 w1 w∧Ok S1 w1 v
def tR (w:World) (S:ab):List RA→List Value→Prop
 | [],[]=>True
 | A::As,v::vs=>md w S A v∧tR w S As vs
 | _,_=>False
def G7 (P : Program) (f : Nat) : Prop := ∃ fn, P.funcs[f]? = some fn ∧ (fn.name == "runtime.NumGoroutine") = false ∧ fn.body.isSome = true
structure af (P:Program) (f:Nat) (sh:Bool) (A:List RA) (k:Kd) (rcs:List C):Prop where
 has:G7 P f
 run:∀ (w:World) (S:ab) (vs:List Value),(∀ b o,S b o→b<w.heap.size)→tR w S A vs→
  Calls P f vs.toArray w fun e w1=>∃ v,e=.returned v∧bu NO w w1∧∃ X S1:ab,(∀ b o,X b o→b<w1.heap.size∧w.heap.size≤b)∧
   (∀ b o,S1 b o→(sh=true∧S b o)∨(b<w1.heap.size∧w.heap.size≤b))∧(∀ b o,X b o→¬S1 b o)∧fI w1 NO k rcs.length v∧cm w1 S1 X rcs (cA w1 k v)
def rm (K:Bool→RA→Prop) (ag:Option Nat) (cs:List C):Prop:=bif aQ cs then K true (.val ag cs) else K false (.val ag (dV cs))
def argV (F:Nat→AV) (x:Operand) (K:Bool→RA→Prop):Prop:=
 match lW F x with
 | .hold .box cs=>K false (.ptr (dV cs))
 | .hold .one cs=>rm K none cs
 | .hold .agg cs=>rm K (some cs.length) cs
 | .hold (.tup _) _=>False
 | .bor t off st ag=>gx F (.bor t off st ag) (rm K)
 | .ref t off st=>(match off,st,F t with|0,[],.hold .box cs=>K false (.ptr (dV cs))|_,_,_=>False)
 | .iref r off=>bif Nat.beq off 0 then K true (.ptr r) else False
 | .fv Ok=>K true (.fn Ok)
 | .fn _ _=>False
 | .dead=>False
def k7 (F:Nat→AV):List Nat→(List RA→Prop)→Prop
 | [],K=>K []
 | c::cs,K=>(match F c with
   | .hold .box xs=>k7 F cs fun D=>K (.ptr (dV xs)::D)
   | .hold .one xs=>k7 F cs fun D=>K (.val none (dV xs)::D)
   | .hold .agg xs=>k7 F cs fun D=>K (.val (some xs.length) (dV xs)::D)
   | _=>False)
def mg (P:Program) (Q:List (Option Nat × List C)→Kd→List C→Prop) (S1:ab) (w1:World) (v:Value):Prop:=
 ∃ (f:Nat) (caps:List Value),v=.func (.func f) #[] caps.toArray∧G7 P f∧∀ L k rcs,Q L k rcs→∀ (w:World) (S:ab) (vs:List Value),(∀ b o,S1 b o→S b o)→ba S1 w1 w→(∀ b o,S b o→b<w.heap.size)→tR w S (L.map fun p=>.val p.1 p.2) vs→
  Calls P f (vs++caps).toArray w fun e w1=>∃ v,e=.returned v∧bu NO w w1∧∃ X S1:ab,(∀ b o,X b o→b<w1.heap.size∧w.heap.size≤b)∧
   (∀ b o,S1 b o→(false=true∧S b o)∨(b<w1.heap.size∧w.heap.size≤b))∧(∀ b o,X b o→¬S1 b o)∧fI w1 NO k rcs.length v∧cm w1 S1 X rcs (cA w1 k v)
inductive Cq (P:Program) (f:Nat) (D:List RA) (K:(ab→World→Value→Prop)→Prop):Prop
 | mk_ (h:∃ Q:List (Option Nat × List C)→Kd→List C→Prop,G7 P f∧(∀ L k rcs,Q L k rcs→af P f false (L.map (fun p=>RA.val p.1 p.2)++D) k rcs)∧K (mg P Q))
theorem Cq.mk {P:Program} {f:Nat} {D:List RA} {K:(ab→World→Value→Prop)→Prop} (Q:List (Option Nat × List C)→Kd→List C→Prop) (h1:G7 P f) (h2:∀ L k rcs,Q L k rcs→af P f false (L.map (fun p=>RA.val p.1 p.2)++D) k rcs) (hK:K (mg P Q)):Cq P f D K:=.mk_ ⟨Q,h1,h2,hK⟩
inductive Fv (P:Program) (Ok:ab→World→Value→Prop) (L:List (Option Nat × List C)) (K:AV→Prop):Prop
 |mk_ (h:∃ (Q:List (Option Nat × List C)→Kd→List C→Prop) (k:Kd) (rcs:List C),Ok=mg P Q∧Q L k rcs∧K (.hold k rcs))
theorem Fv.mk {P:Program} {Q:List (Option Nat × List C)→Kd→List C→Prop} {L:List (Option Nat × List C)} {K:AV→Prop} {k:Kd} {rcs:List C} (h:Q L k rcs) (hK:K (.hold k rcs)):Fv P (mg P Q) L K:=.mk_ ⟨Q,k,rcs,rfl,h,hK⟩
def argA (P:Program) (F:Nat→AV) (x:Operand) (K:Bool→RA→Prop):Prop:=
 match lW F x with
 | .fn f caps=>k7 F caps fun D=>Cq P f D fun Ok=>K false (.fn Ok)
 | _=>argV F x K
def vo (P:Program) (F:Nat→AV):List Operand→(Bool→List RA→Prop)→Prop
 | [],K=>K true []
 | x::xs,K=>argA P F x fun b1 A=>vo P F xs fun b As=>K (bif b1 then b else false) (A::As)
def argsV (F:Nat→AV):List Operand→(List (Option Nat × List C)→Prop)→Prop
 | [],K=>K []
 | x::xs,K=>gx F (lW F x) fun ag cs=>argsV F xs fun L=>K ((ag,bif aQ cs then cs else dV cs)::L)
inductive Cl (P:Program) (f:Nat) (b:Bool) (A:List RA) (K:AV→Prop):Prop
 |mk_ (h:∃ sh k rcs,af P f sh A k rcs∧(sh=false∨b=true)∧K (.hold k rcs))
theorem Cl.mk {P:Program} {f:Nat} {b:Bool} {A:List RA} {K:AV→Prop} {k:Kd} {rcs:List C} (h:af P f false A k rcs) (hK:K (.hold k rcs)):Cl P f b A K:=by refine .mk_ ?_;exact⟨false,k,rcs,h,.inl rfl,hK⟩
theorem Cl.sh {P:Program} {f:Nat} {b:Bool} {A:List RA} {K:AV→Prop} {k:Kd} {rcs:List C} (h:af P f true A k rcs) (hb:b=true) (hK:K (.hold k rcs)):Cl P f b A K:=by refine .mk_ ?_;exact⟨true,k,rcs,h,.inr hb,hK⟩
theorem Cl.out {P:Program} {f:Nat} {b:Bool} {A:List RA} {K:AV→Prop} (h:Cl P f b A K):∃ sh k rcs,af P f sh A k rcs∧(sh=false∨b=true)∧K (.hold k rcs):=by obtain⟨h⟩:=h;exact h
def Ds (P:Program) (F:Nat→AV) (f:Nat) (args:List Operand) (K:AV→Prop):Prop:=
 vo P F args fun b A=>Cl P f b A K
def km (P:Program) (F:Nat→AV) (t:Nat) (args:List Operand) (K:AV→Prop):Prop:=
 match F t with
 | .fn f caps=>vo P F args fun _ A=>k7 F caps fun D=>Cl P f false (A++D) K
 | .fv Ok=>argsV F args fun L=>Fv P Ok L K
 | _=>False
section
variable {P:Program} {w0 w w1:World} {M S0 S:ab} {N:fq} {φ:Nat→ab} {F:Nat→AV} {a:Act}
theorem bo.mono {S S' Y Y':ab} {ag:Option Nat} {cs:List C} {v:Value} (h:bo w S Y ag cs v) (hS:∀ b o,S b o→S' b o) (hY:∀ b o,Y b o→Y' b o):bo w S' Y' ag cs v:=
 ⟨h.1,h.2.choose,h.2.choose_spec.1,h.2.choose_spec.2.mono hS hY⟩
theorem bo.freeze {Y:ab} {ag:Option Nat} {cs:List C} {v:Value} (h:bo w S Y ag cs v):bo w (fun b o=>S b o∨Y b o) NO ag (dV cs) v:=
 ⟨by rw[cR,List.length_map];exact h.1,h.2.choose,h.2.choose_spec.1,h.2.choose_spec.2.freeze⟩
def lr (S:ab) (φ:Nat→ab):ab:=fun b o=>S b o∨∃ t,φ t b o
theorem bo.keepS {S':ab} {ag:Option Nat} {cs:List C} {v:Value} (h:bo w S NO ag cs v) (hS:ba S w w1) (hm:∀ b o,S b o→S' b o):bo w1 S' NO ag cs v:=by
 obtain⟨h1,u,h2,h3⟩:=h
 exact⟨h1,u,h2,(h3.keep hS (fun _ _ h=>h.elim)).mono hm (fun _ _ h=>h)⟩
theorem md.keep {S':ab} {A:RA} {v:Value} (h:md w S A v) (hS:ba S w w1) (hm:∀ b o,S b o→S' b o):md w1 S' A v:=by
 cases A with
 | val ag cs=>exact bo.keepS h hS hm
 | ptr cs=>
  obtain⟨g,b,u,h1,h2,h3⟩:=h
  exact⟨g,b,u,h1,fun d hd=>⟨hm _ _ (h2 d hd).1,(hS _ _ (h2 d hd).1).1.trans (h2 d hd).2⟩,(h3.keep hS (fun _ _ h=>h.elim)).mono hm (fun _ _ h=>h)⟩
 | fn Ok=>
  obtain⟨S1,w2,h1,h2,h3⟩:=h
  exact⟨S1,w2,fun b o hb=>hm _ _ (h1 b o hb),fun b o hb=>⟨(hS b o (h1 b o hb)).1.trans (h2 b o hb).1,(hS b o (h1 b o hb)).2.trans (h2 b o hb).2⟩,h3⟩
theorem tR.keep {S':ab} (hS:ba S w w1) (hm:∀ b o,S b o→S' b o):∀ {A:List RA} {vs:List Value},tR w S A vs→tR w1 S' A vs
 | [],[],_=>trivial
 | _::_,_::_,h=>⟨h.1.keep hS hm,tR.keep hS hm h.2⟩
 | [],_::_,h=>h.elim
 | _::_,[],h=>h.elim
theorem tR.append:∀ {A B:List RA} {vs us:List Value},tR w S A vs→tR w S B us→tR w S (A++B) (vs++us)
 | [],_,[],_,_,h=>h
 | _::_,_,_::_,_,h,h'=>⟨h.1,tR.append h.2 h'⟩
 | [],_,_::_,_,h,_=>h.elim
 | _::_,_,[],_,h,_=>h.elim
theorem ba.rfl' (X:ab) (w:World):ba X w w:=fun _ _ _=>⟨rfl,rfl⟩
theorem wc {cs:List C} {v:Value} {X:ab} {tv:Nat→Value} (h:cb w S F tv X (.hold .box cs) v) {T:ab} (hT:∀ b o,S b o∨X b o→T b o):md w T (.ptr (dV cs)) v:=by
 obtain⟨X1,Y,h1,h2,h3,⟨g,o,hv,hb⟩,h5⟩:=h
 refine⟨g,o,cA w .box v,hv,fun d hd=>?_,h5.freeze.mono (fun b o hb=>hT b o (hb.imp id (h2 b o))) (fun _ _ h=>h)⟩
 rw[cR,List.length_map]at hd
 obtain⟨e1,⟨z,hz⟩,-⟩:=hb d hd
 exact⟨hT _ _ (.inr (h1 _ _ e1)),by rw[hv];simp only[cA,hz,Option.getD_some]⟩
theorem aZ.argVal (h:aZ w0 M S0 N S φ F a w) {av:AV} {v:Value} {X:ab} (hX:∀ b o,X b o→lr S φ b o) (hs:cb w S F (tvs a) X av v) {K:Bool→RA→Prop} (hp:gx F av (rm K)) :
  ∃ b A,K b A∧md w (lr S φ) A v∧(b=true→md w S A v):=by
 obtain⟨ag,cs,Y,hK,hv,hY⟩:=h.val hs hp
 have hY':∀ b o,Y b o→lr S φ b o:=fun b o hb=>(hY b o hb).elim (hX b o) .inr
 unfold rm at hK
 cases hn:aQ cs with
 | true=>
  rw[hn]at hK
  exact⟨true,_,hK,(hv.bare hn).mono (fun _ _ h=>.inl h) (fun _ _ h=>h),fun _=>hv.bare hn⟩
 | false=>
  rw[hn]at hK
  exact⟨false,_,hK,hv.freeze.mono (fun b o h=>h.elim .inl (hY' b o)) (fun _ _ h=>h),fun hb=>by cases hb⟩
theorem aZ.argV (h:aZ w0 M S0 N S φ F a w) {x:Operand} {K:Bool→RA→Prop} (hp:Ab.argV F x K):∃ b A,K b A∧md w (lr S φ) A (a.eval x)∧(b=true→md w S A (a.eval x)):=by
 have hs:=h.ev x
 have hX:∀ b o,J3 φ x b o→lr S φ b o:=fun b o hb=>by
  cases x with
  | tmp t=>exact .inr ⟨t,hb⟩
  | _=>exact hb.elim
 unfold Ab.argV at hp
 cases hav:lW F x with
 | hold k cs=>
  rw[hav]at hp hs
  cases k with
  | box=>exact⟨false,_,hp,wc hs fun b o hb=>hb.elim .inl (hX b o),fun hb=>by cases hb⟩
  | one=>exact h.argVal hX hs (show gx F (.hold .one cs) (rm K) from hp)
  | agg=>exact h.argVal hX hs (show gx F (.hold .agg cs) (rm K) from hp)
  | tup sh=>exact hp.elim
 | bor t off st ag=>rw[hav]at hp hs;exact h.argVal hX hs hp
 | ref t off st=>
  rw[hav]at hp hs
  simp only at hp
  split at hp
  ·rename_i cs hF
   have ht:=h.slot t
   rw[hF]at ht
   obtain⟨k,cs',r,j,g,o,e1,e2,e3,e4⟩:=hs
   rw[hF]at e1
   cases e1
   have hv:a.eval x=tvs a t:=by
    obtain⟨X1,Y,-,-,-,⟨g',o',hv,-⟩,-⟩:=ht
    rw[hv]at e3 ⊢
    simp only[plc,nU,Option.map_some,Option.some.injEq,Prod.mk.injEq,Nat.add_zero]at e3
    obtain⟨rfl,rfl⟩:=e3
    exact e4
   rw[hv]
   exact⟨false,_,hp,wc ht fun b o hb=>hb.elim .inl (fun hb=>.inr ⟨t,hb⟩),fun hb=>by cases hb⟩
  ·exact hp.elim
 | iref r off=>
  rw[hav]at hp hs
  simp only at hp
  cases hb:Nat.beq off 0 with
  | false=>rw[hb]at hp;exact hp.elim
  | true=>
   rw[hb]at hp
   have:=Nat.eq_of_beq_eq_true hb
   subst this
   have hr:md w S (.ptr r) (a.eval x):=by
    obtain⟨g,b,u,e1,e2,e3⟩:=hs
    exact⟨g,b,u,by rw[e1,Nat.add_zero],e2,e3⟩
   exact⟨true,_,hp,hr.keep (ba.rfl' _ _) (fun _ _ h=>.inl h),fun _=>hr⟩
 | fv Ok=>
  rw[hav]at hp hs
  have hr:md w S (.fn Ok) (a.eval x):=hs
  exact⟨true,_,hp,hr.keep (ba.rfl' _ _) (fun _ _ h=>.inl h),fun _=>hr⟩
 | fn f caps=>rw[hav]at hp;exact hp.elim
 | dead=>rw[hav]at hp;exact hp.elim
theorem aZ.caps (h:aZ w0 M S0 N S φ F a w):∀ {cs:List Nat} {K:List RA→Prop},k7 F cs K→∃ D,K D∧tR w (lr S φ) D (cs.map (tvs a))
 | [],K,hp=>⟨[],hp,trivial⟩
 | c::cs,K,hp=>by
  have hs:=h.slot c
  have hval:∀ (k:Kd) (xs:List C) (ag:Option Nat),F c=.hold k xs→gx F (.hold k xs) (fun ag' cs'=>ag'=ag∧cs'=xs)→md w (lr S φ) (.val ag (dV xs)) (tvs a c):=fun k xs ag hF hv=>by
   rw[hF]at hs
   obtain⟨ag',cs',Y,⟨rfl,rfl⟩,hv,hY⟩:=h.val hs hv
   exact hv.freeze.mono (fun b o hb=>hb.elim .inl (fun hb=>(hY b o hb).elim (fun hb=>.inr ⟨c,hb⟩) .inr)) (fun _ _ h=>h)
  simp only[k7]at hp
  split at hp
  ·rename_i xs hF
   obtain⟨D,hK,hD⟩:=aZ.caps h hp
   rw[hF]at hs
   exact⟨_,hK,wc hs (fun b o hb=>hb.elim .inl fun hb=>.inr ⟨c,hb⟩),hD⟩
  ·rename_i xs hF
   obtain⟨D,hK,hD⟩:=aZ.caps h hp
   exact⟨_,hK,hval _ _ _ hF ⟨rfl,rfl⟩,hD⟩
  ·rename_i xs hF
   obtain⟨D,hK,hD⟩:=aZ.caps h hp
   exact⟨_,hK,hval _ _ _ hF ⟨rfl,rfl⟩,hD⟩
  ·exact hp.elim
theorem aZ.argA (h:aZ w0 M S0 N S φ F a w) {x:Operand} {K:Bool→RA→Prop} (hp:Ab.argA P F x K):∃ b A,K b A∧md w (lr S φ) A (a.eval x)∧(b=true→md w S A (a.eval x)):=by
 unfold Ab.argA at hp
 split at hp
 ·rename_i f caps hav
  have hs:=h.ev x
  rw[hav]at hs
  obtain⟨D,hK,hD⟩:=h.caps hp
  obtain⟨Q,q1,q2,q3⟩:=hK
  refine⟨false,_,q3,⟨lr S φ,w,fun _ _ h=>h,ba.rfl' _ _,f,caps.map (tvs a),hs,q1,fun L k rcs hQ w' S' vs hsub hsame hlt hvs=>?_⟩,fun hb=>by cases hb⟩
  exact(q2 L k rcs hQ).run w' S' _ hlt (tR.append hvs (tR.keep hsame hsub hD))
 ·exact h.argV hp
theorem aZ.args (h:aZ w0 M S0 N S φ F a w):∀ {xs:List Operand} {K:Bool→List RA→Prop},vo P F xs K→∃ b A,K b A∧tR w (lr S φ) A (xs.map a.eval)∧(b=true→tR w S A (xs.map a.eval))
 | [],K,hp=>⟨true,[],hp,trivial,fun _=>trivial⟩
 | x::xs,K,hp=>by
  obtain⟨b1,A,hK,h1,h2⟩:=h.argA hp
  obtain⟨b,As,hK,h3,h4⟩:=aZ.args h hK
  refine⟨_,_,hK,⟨h1,h3⟩,fun hb=>?_⟩
  cases b1 with
  | false=>cases hb
  | true=>exact⟨h2 rfl,h4 hb⟩
theorem aZ.argsV (h:aZ w0 M S0 N S φ F a w):∀ {xs:List Operand} {K:List (Option Nat × List C)→Prop},Ab.argsV F xs K→∃ L,K L∧tR w (lr S φ) (L.map fun p=>.val p.1 p.2) (xs.map a.eval)
 | [],K,hp=>⟨[],hp,trivial⟩
 | x::xs,K,hp=>by
  obtain⟨ag,cs,Y,hK,hv,hY⟩:=h.val (h.ev x) hp
  obtain⟨L,hK,h1⟩:=aZ.argsV h hK
  have hY':∀ b o,Y b o→lr S φ b o:=fun b o hb=>by
   rcases hY b o hb with hb|hb
   ·cases x with
    | tmp t=>exact .inr ⟨t,hb⟩
    | _=>exact hb.elim
   ·exact .inr hb
  refine⟨_,hK,?_,h1⟩
  cases hn:aQ cs with
  | true=>exact(hv.bare hn).mono (fun _ _ h=>.inl h) (fun _ _ h=>h)
  | false=>exact hv.freeze.mono (fun b o h=>h.elim .inl (hY' b o)) (fun _ _ h=>h)
theorem zu {o:Oper} {f:Nat} {args:Array Operand} {ts:Array TypeId} (ho:o.op=.call ⟨.value (.func f),args,ts⟩) (hf:G7 P f) :
  (execOp a.eval o).run P w=.ok (.enter f (args.map a.eval)) w:=by
 obtain⟨fn,h1,h2,h3⟩:=hf
 have h2' : ¬ fn.name = "runtime.NumGoroutine" := by simpa using h2
 simp[execOp,ho,resolve,Act.eval,Deferred.ofValue,invoke,callFunc,h1,h2']
 intro e
 rw[e]at h3
 cases h3
theorem pL {o:Oper} {t f:Nat} {args:Array Operand} {ts:Array TypeId} {caps:List Value} (ho:o.op=.call ⟨.value (.tmp t),args,ts⟩) (hf:G7 P f) (hv:tvs a t=.func (.func f) #[] caps.toArray) :
  (execOp a.eval o).run P w=.ok (.enter f (args.toList.map a.eval++caps).toArray) w:=by
 obtain⟨fn,h1,h2,h3⟩:=hf
 have h2' : ¬ fn.name = "runtime.NumGoroutine" := by simpa using h2
 have hv':a.tmps.getD t undef=.func (.func f) #[] caps.toArray:=hv
 have he:args.map a.eval++caps.toArray=(args.toList.map a.eval++caps).toArray:=by
  apply Array.ext';simp
 rw[←he]
 simp[execOp,ho,resolve,Act.eval,hv',Deferred.ofValue,invoke,callFunc,h1,h2']
 intro e
 rw[e]at h3
 cases h3
theorem aZ.enter (h:aZ w0 M S0 N S φ F a w) {o:Oper} {f:Nat} {vs:List Value} {k:Kd} {rcs:List C} {sh:Bool} (hrun:(execOp a.eval o).run P w=.ok (.enter f vs.toArray) w) {S2:ab} (hle:sh=true→∀ b o,S2 b o→S b o)
  (hc:Calls P f vs.toArray w fun e w1=>∃ v,e=.returned v∧bu NO w w1∧∃ X S1:ab,(∀ b o,X b o→b<w1.heap.size∧w.heap.size≤b)∧
    (∀ b o,S1 b o→(sh=true∧S2 b o)∨(b<w1.heap.size∧w.heap.size≤b))∧(∀ b o,X b o→¬S1 b o)∧fI w1 NO k rcs.length v∧cm w1 S1 X rcs (cA w1 k v)):u7 P o a w (kH w S F a (.hold k rcs)):=by
 refine u7.enter hrun ?_
 refine hc.mono fun e w1 ⟨v,he,hk,X,S1,hX,hS1,hd,hh,hr⟩=>⟨v,he,hk,X,fun b o=>S b o∨S1 b o,hX,fun _ _ h=>.inl h,fun b o hb=>?_,fun b o hb hS=>?_,?_⟩
 ·rcases hb with hb|hb
  ·exact .inl hb
  ·rcases hS1 b o hb with⟨h3,h4⟩|h3
   ·exact .inl (hle h3 b o h4)
   ·exact .inr h3
 ·rcases hS with hS|hS
  ·have:=(h.sup b o hS).1;have:=(hX b o hb).2;omega
  ·exact hd b o hb hS
 ·exact⟨NO,X,fun _ _ h=>h.elim,fun _ _ h=>h,fun _ _ h=>h.elim,hh,hr.mono (fun _ _ h=>.inr h) (fun _ _ h=>h)⟩
theorem aZ.all_lt (h:aZ w0 M S0 N S φ F a w):∀ b o,lr S φ b o→b<w.heap.size:=fun b o hb=>hb.elim (fun h'=>(h.sup b o h').1) (fun⟨t,h'⟩=>(h.ex t b o h').1)
theorem aZ.call (h:aZ w0 M S0 N S φ F a w) {o:Oper} {f:Nat} {args:Array Operand} {ts:Array TypeId} (ho:o.op=.call ⟨.value (.func f),args,ts⟩) {K:AV→Prop} (hp:Ds P F f args.toList K) :
  ∃ av,K av∧u7 P o a w (kH w S F a av):=by
 obtain⟨b,A,hcl,h1,h2⟩:=h.args hp
 obtain⟨sh,k,rcs,hc,hsh,hK⟩:=hcl.out
 have hargs:args.map a.eval=(args.toList.map a.eval).toArray:=by apply Array.ext';rw[Array.toList_map]
 have hrun:=zu (a:=a) (w:=w) ho hc.1
 rw[hargs]at hrun
 refine⟨_,hK,?_⟩
 rcases hsh with rfl|hb
 ·exact h.enter hrun (S2:=lr S φ) (fun h=>by cases h) (hc.2 w _ _ h.all_lt h1)
 ·exact h.enter hrun (S2:=S) (fun _ _ _ h=>h) (hc.2 w S _ (fun b o hb=>(h.sup b o hb).1) (h2 hb))
theorem aZ.callT (h:aZ w0 M S0 N S φ F a w) {o:Oper} {t:Nat} {args:Array Operand} {ts:Array TypeId} (ho:o.op=.call ⟨.value (.tmp t),args,ts⟩) {K:AV→Prop} (hp:km P F t args.toList K) :
  ∃ av,K av∧u7 P o a w (kH w S F a av):=by
 have hs:=h.slot t
 unfold km at hp
 split at hp
 ·rename_i f caps hF
  rw[hF]at hs
  obtain⟨b,A,hp,h1,-⟩:=h.args hp
  obtain⟨D,hcl,hD⟩:=h.caps hp
  obtain⟨sh,k,rcs,hc,hsh,hK⟩:=hcl.out
  have hsf:sh=false:=hsh.elim id (fun h=>by cases h)
  subst hsf
  exact⟨_,hK,h.enter (pL ho hc.1 hs) (S2:=lr S φ) (fun h=>by cases h) (hc.2 w _ _ h.all_lt (tR.append h1 hD))⟩
 ·rename_i Ok hF
  rw[hF]at hs
  obtain⟨L,hq,h1⟩:=h.argsV hp
  obtain⟨Q,k,rcs,rfl,hQ,hK⟩:=hq
  obtain⟨S1,w1,e1,e2,f,caps,e3,e4,e5⟩:=hs
  exact⟨_,hK,h.enter (pL ho e4 e3) (S2:=lr S φ) (sh:=false) (fun h=>by cases h) (e5 L k rcs hQ w _ _ (fun b o hb=>.inl (e1 b o hb)) e2 h.all_lt h1)⟩
 ·exact hp.elim
def wM:List (Option Nat)→Nat→Option (Nat × Option Nat)
 | [],_=>none
 | ag::_,0=>some (0,ag)
 | ag::sh,i+1=>(wM sh i).map fun p=>(ag.getD 1+p.1,p.2)
def gX (F:Nat→AV) (x:Operand) (i:Nat) (K:AV→Prop):Prop:=
 match x with
 | .tmp t=>match F t with
  | .hold (.tup sh) cs=>match wM sh i with
   | some (s,ag)=>bif aQ (bp cs s (ag.getD 1)) then K (.hold (jK ag) (bp cs s (ag.getD 1))) else K (.bor t s [] ag)
   | none=>False
  | _=>False
 | _=>False
theorem oq (ag:Option Nat) (sh:List (Option Nat)):n0 (ag::sh)=ag.getD 1+n0 sh:=by cases ag<;>rfl
theorem AO {ag:Option Nat} {sh:List (Option Nat)} {v:Value} {vs:List Value} (h:sS (ag::sh) (v::vs)):v.cells.toList.length=ag.getD 1∧(v=mkv ag fun j=>v.cells.toList.getD j undef)∧sS sh vs:=by
 cases ag with
 | none=>
  have h1:v.cells = #[v]:=h.1
  exact⟨by rw[h1];rfl,by rw[h1];rfl,h.2⟩
 | some n=>
  obtain⟨⟨arr,rfl,hs⟩,h2⟩:=h
  exact⟨by simp[Value.cells,hs],by have:=lc arr;rw[hs]at this;exact this,h2⟩
theorem Gx:∀ {sh:List (Option Nat)} {vs:List Value} {i s:Nat} {ag:Option Nat},sS sh vs→wM sh i=some (s,ag)→
  ∃ v,vs[i]? = some v∧s+ag.getD 1≤n0 sh∧v=mkv ag fun j=>(vs.flatMap fun v=>v.cells.toList).getD (s+j) undef
 | [],_,i,s,ag,_,hs=>by cases hs
 | ag0::sh,[],i,s,ag,h,_=>by cases ag0<;>exact h.elim
 | ag0::sh,v0::vs,i,s,ag,h,hs=>by
  obtain⟨h1,h2,h3⟩:=AO h
  cases i with
  | zero=>
   simp only[wM,Option.some.injEq,Prod.mk.injEq]at hs
   obtain⟨rfl,rfl⟩:=hs
   refine⟨v0,rfl,by rw[oq];omega,h2.trans (ga fun j hj=>?_)⟩
   simp only[List.flatMap_cons,Nat.zero_add,List.getD]
   rw[List.getElem?_append_left (by omega)]
  | succ i=>
   simp only[wM]at hs
   cases hsh:wM sh i with
   | none=>rw[hsh]at hs;cases hs
   | some p=>
    rw[hsh]at hs
    simp only[Option.map_some,Option.some.injEq,Prod.mk.injEq]at hs
    obtain⟨rfl,rfl⟩:=hs
    obtain⟨v,e1,e2,e3⟩:=Gx h3 (show wM sh i=some (p.1,p.2) from hsh)
    refine⟨v,by simpa using e1,by rw[oq];omega,e3.trans (ga fun j _=>?_)⟩
    simp only[List.flatMap_cons,List.getD]
    rw[List.getElem?_append_right (by omega)]
    congr 2
    omega
theorem aZ.extract (h:aZ w0 M S0 N S φ F a w) {x:Operand} {i:Nat} {K:AV→Prop} (hp:gX F x i K) :
  ∃ av v,K av∧(Instr.extract (a.eval x) i).run P w=.ok v w∧cb w S F (tvs a) NO av v:=by
 cases x with
 | tmp t=>
  have hs:=h.slot t
  show ∃ av v,K av∧(Instr.extract (tvs a t) i).run P w=.ok v w∧_
  simp only[gX]at hp
  cases hF:F t with
  | hold k cs=>
   rw[hF]at hp hs
   cases k with
   | tup sh=>
    simp only at hp
    obtain⟨X1,Y,h1,h2,h3,⟨vs,hv,hT,hL⟩,h5⟩:=hs
    cases hsh:wM sh i with
    | none=>rw[hsh]at hp;exact hp.elim
    | some p=>
     obtain⟨s,ag⟩:=p
     rw[hsh]at hp
     simp only at hp
     obtain⟨v,hvi,hle,hve⟩:=Gx hT hsh
     have hrun:(Instr.extract (tvs a t) i).run P w=.ok v w:=by
      have:vs[i]? = some v:=by rw[←Array.getElem?_toList];exact hvi
      simp[hv,Instr.extract,this]
     have hu:v=mkv ag fun j=>cA w (.tup sh) (tvs a t) (s+j):=by rw[hve,hv];rfl
     cases hn:aQ (bp cs s (ag.getD 1)) with
     | true=>
      rw[hn]at hp
      refine⟨_,v,hp,hrun,bo.slot ⟨by simp[bp];omega,_,hu,?_⟩⟩
      exact(h5.part s (ag.getD 1)).bare hn
     | false=>
      rw[hn]at hp
      exact⟨_,v,hp,hrun,.tup sh,cs,cs,s,hF,rfl,by omega,hu⟩
   | _=>exact hp.elim
  | _=>rw[hF]at hp;exact hp.elim
 | _=>exact hp.elim
inductive Es (x:ByteArray) (K:ByteArray→Prop):Prop
 |mk_ (h:∃ z,x=z∧K z)
theorem Es.mk {x z:ByteArray} {K:ByteArray→Prop} (h:x=z) (hK:K z):Es x K:=by refine .mk_ ?_;exact⟨z,h,hK⟩
theorem Es.out {x:ByteArray} {K:ByteArray→Prop} (h:Es x K):∃ z,x=z∧K z:=by obtain⟨h⟩:=h;exact h
def zb (TE:Nat→Option TI) (op:BinOp) (T:Nat) (vx vy:Value) (K:Value→Prop):Prop:=
 match vx,vy with
 | .bool a,.bool b=>(match TE T with
   | some ⟨_,_,_,.sc .bool⟩=>(match op with
     | .eql=>K (.bool (a == b))
     | .neq=>K (.bool (a != b))
     | _=>False)
   | _=>False)
 | .string a,.string b=>(match op with
   | .eql=>K (.bool (a.toList == b.toList))
   | .neq=>K (.bool (!(a.toList == b.toList)))
   | .add=>Cd (((a.size+b.size:Nat):Int)≤9223372036854775807) (Es (a++b) fun z=>K (.string z))
   | _=>False)
 | vx,vy=>x9 op vx vy K
theorem Gv {TE:Nat→Option TI} (hTE:∀ t i,TE t=some i→b9 P t i) {op:BinOp} {T:Nat} {vx vy:Value} {K:Value→Prop} {x y:Operand} (hp:zb TE op T vx vy K):∃ v,K v∧v.oneCell'=true∧(do eqGuard op T x y vx vy;binOp op T vx vy:Sem Value).run P w=.ok v w:=by
 unfold zb at hp
 split at hp
 ·rename_i a b
  split at hp
  case h_2=>exact hp.elim
  rename_i hT
  have hu:P.underlying T=some .bool:=(hTE _ _ hT).2.2.1
  have hg:(eqGuard op T x y (.bool a) (.bool b)).run P w=.ok () w:=by
   unfold eqGuard;split<;>rfl
  rw[Sem.run_bind,hg]
  have he:(Op.equal T (.bool a) (.bool b)).run P w=.ok (a == b) w:=by
   unfold Op.equal
   rw[show Op.maxDepth=(Op.maxDepth - 1)+1 from rfl,Op.equalIn]
   rw[Sem.run_bind,run_underlying hu]
   rfl
  cases op<;>simp only at hp<;>try exact hp.elim
  case eql=>exact⟨_,hp,rfl,by simp only[Result.andThen_ok,binOp,Sem.run_bind,he,Sem.run_pure]⟩
  case neq=>exact⟨_,hp,rfl,by simp only[Result.andThen_ok,binOp,Sem.run_bind,he,Sem.run_pure];rfl⟩
 ·rename_i a b
  have hg:(eqGuard op T x y (.string a) (.string b)).run P w=.ok () w:=by
   unfold eqGuard;split<;>rfl
  rw[Sem.run_bind,hg]
  cases op<;>simp only at hp<;>try exact hp.elim
  case eql=>exact⟨_,hp,rfl,by simp[binOp,Op.stringOp]⟩
  case neq=>exact⟨_,hp,rfl,by simp[binOp,Op.stringOp]⟩
  case add=>
   obtain⟨h1,h2⟩:=hp.out
   obtain⟨z,rfl,h2⟩:=h2.out
   refine⟨_,h2,rfl,?_⟩
   have:¬((a.size+b.size:Nat):Int) > IntKind.i64.max:=by
    have:IntKind.i64.max=9223372036854775807:=by decide
    omega
   simp only[Result.andThen_ok,binOp,Op.stringOp]
   rw[if_neg this]
   rfl
 ·exact ER hp
inductive Nn (rows:List (List C)) (K:Prop):Prop
 |mk_ (h:rows≠[]∧K)
theorem Nn.mk {rows:List (List C)} {K:Prop} (h:rows≠[]) (hK:K):Nn rows K:=by refine .mk_ ?_;exact⟨h,hK⟩
theorem Nn.out {rows:List (List C)} {K:Prop} (h:Nn rows K):rows≠[]∧K:=by obtain⟨h⟩:=h;exact h
def Hp:Operand→Bool
 | .const (.slice none 0 0)=>true
 | _=>false
def sa (op:BinOp) (y:Operand):Bool:=
 match op with
 | .eql=>Hp y
 | _=>false
def BI (TE:Nat→Option TI) (F:Nat→AV) (T:Nat) (x:Operand) (K:AV→Prop):Prop:=
 match TE T with
 | some ⟨_,_,_,.sl _⟩=>gx F (lW F x) fun ag cs=>match ag,cs with
  | none,[.s _ rows]=>Nn rows (K (.hold .one [.v (.bool false)]))
  | _,_=>False
 | _=>False
theorem DS {op:BinOp} {y:Operand} (h:sa op y=true):op=.eql∧y=.const (.slice none 0 0):=by
 unfold sa at h
 split at h
 ·refine⟨rfl,?_⟩
  unfold Hp at h
  split at h
  ·rfl
  ·cases h
 ·cases h
theorem dK.slice_some {w:World} {S F:ab} {o:dy} {rows:List (List C)} {v:Value} (h:dK w S F (.s o rows) v) (hne:rows≠[]):∃ ad cap,v=.slice (some ad) rows.length cap:=by
 generalize hc:C.s o rows=c at h
 cases h with
 | v=>cases hc
 | x=>cases hc
 | z=>cases hc
 | m=>cases hc
 | it=>cases hc
 | nil=>cases hc;exact absurd rfl hne
 | own=>cases hc;subst_vars;exact⟨_,_,rfl⟩
 | imm=>cases hc;subst_vars;exact⟨_,_,rfl⟩
theorem aZ.nilq (h:aZ w0 M S0 N S φ F a w) {TE:Nat→Option TI} (hTE:∀ t i,TE t=some i→b9 P t i) {T:Nat} {x:Operand} {K:AV→Prop} (hp:BI TE F T x K) :
  K (.hold .one [.v (.bool false)])∧(do eqGuard .eql T x (.const (.slice none 0 0)) (a.eval x) (.slice none 0 0);binOp .eql T (a.eval x) (.slice none 0 0):Sem Value).run P w=.ok (.bool false) w:=by
 unfold BI at hp
 split at hp
 ·rename_i hT
  have hu:=(hTE _ _ hT).2.2
  obtain⟨ag,cs,Y,hK,⟨hl,u,hv,f,h1,-⟩,-⟩:=h.val (h.ev x) hp
  match ag,cs,hK with
  | none,[.s o rows],hK=>
   obtain⟨hne,hK⟩:=hK.out
   obtain⟨ad,cap,hs⟩:=(h1 0 _ rfl).slice_some hne
   have:a.eval x=.slice (some ad) rows.length cap:=hv.trans hs
   rw[this]
   refine⟨hK,?_⟩
   have hg:(eqGuard .eql T x (.const (.slice none 0 0)) (.slice (some ad) rows.length cap) (.slice none 0 0)).run P w=.ok () w:=by
    unfold eqGuard;split<;>rfl
   rw[Sem.run_bind,hg]
   have he:(Op.equal T (.slice (some ad) rows.length cap) (.slice none 0 0)).run P w=.ok false w:=by
    unfold Op.equal
    rw[show Op.maxDepth=(Op.maxDepth - 1)+1 from rfl,Op.equalIn]
    rw[Sem.run_bind,run_underlying hu]
    rfl
   simp only[Result.andThen_ok,binOp,Sem.run_bind,he,Sem.run_pure]
 ·exact hp.elim
def Dj:List Operand→(List Nat→Prop)→Prop
 | [],K=>K []
 | .tmp t::xs,K=>Dj xs fun l=>K (t::l)
 | _,_=>False
theorem xP:∀ (l:List Nat) {K:List Nat→Prop},K l→Dj (l.map .tmp) K
 | [],_,h=>h
 | t::l,K,h=>xP l (K:=fun l=>K (t::l)) h
theorem nP:∀ {xs:List Operand} {K:List Nat→Prop},Dj xs K→∃ l,K l∧xs=l.map .tmp
 | [],K,h=>⟨[],h,rfl⟩
 | .tmp t::xs,K,h=>by
  obtain⟨l,h1,h2⟩:=nP (xs:=xs) h
  exact⟨_,h1,by rw[h2];rfl⟩
 | .const _::_,_,h=>h.elim
 | .global _::_,_,h=>h.elim
 | .func _::_,_,h=>h.elim
def du (P:Program) (TE:Nat→Option TI) (F:Nat→AV) (o:Op) (K:AV→Prop):Prop:=
 match o with
 | .move x=>bb F x K
 | .assign x=>bb F x K
 | .nilCheck x=>(match x with|.tmp t=>(match F t with|.ref ..=>bb F x K|.iref ..=>bb F x K|.hold .box _=>bb F x K|_=>False)|_=>False)
 | .load T x=>qR TE F T x K
 | .fieldAddr T x f=>fL TE F T x f K
 | .indexAddr T x y=>fJ TE F T x y K
 | .binOp op T x y _=>bif sa op y then BI TE F T x K else An F x fun vx=>An F y fun vy=>zb TE op T vx vy fun v=>K (.hold .one [.v v])
 | .unOp op _ x=>An F x fun vx=>GF op vx fun v=>K (.hold .one [.v v])
 | .pick c x y=>Dk F c x y K
 | .alloc T=>sJ TE T K
 | .box _ x=>Hl F x K
 | .extract x i=>gX F x i K
 | .build T ps=>ou TE F T ps.toList K
 | .buildSlice T n ps=>rE TE F T n ps.toList K
 | .makeSlice T x y=>Dc TE F T x y K
 | .makeFunc fn fs cs=>(match fn,fs.toList with|.func f,[]=>Dj cs.toList fun l=>K (.fn f l)|_,_=>False)
 | .makeMap T r=>oK TE T r K
 | .lookup T x y ok=>te TE F T x y ok K
 | .slice T x lo hi mx=>(match mx with|none=>xp TE F T x lo hi K|some m=>(match lo,hi with|none,some y=>Hf TE F T x y m K|_,_=>False))
 | .field T x f=>nV TE F T x f K
 | .convert T1 T2 x=>rS TE F T1 T2 x K
 | .call c=>match c.callee with
  | .value (.func f)=>Ds P F f c.args.toList K
  | .value (.tmp t)=>km P F t c.args.toList K
  | .builtin .len=>(match c.args.toList,c.argTypes.toList with|[x],[T]=>AG TE F T x K|_,_=>False)
  | .builtin .append=>(match c.args.toList,c.argTypes.toList with|[x,y],[T,T2]=>bif Nat.beq T T2 then Dy TE F T x y K else False|_,_=>False)
  | .builtin .min=>(match c.args.toList with|[x,y]=>Jv false F x y K|_=>False)
  | .builtin .max=>(match c.args.toList with|[x,y]=>Jv true F x y K|_=>False)
  | _=>False
 | _=>False
theorem aZ.pure_ (h:aZ w0 M S0 N S φ F a w) {TE:Nat→Option TI} (hTE:∀ t i,TE t=some i→b9 P t i) {o:Oper} {K:AV→Prop} (hp:du P TE F o.op K):∃ av,K av∧u7 P o a w (kH w S F a av):=by
 cases ho:o.op with
 | move x=>rw[ho]at hp;obtain⟨av,hK,hs⟩:=h.move hp;exact⟨av,hK,.same (by simp[execOp,ho]) hs⟩
 | assign x=>rw[ho]at hp;obtain⟨av,hK,hs⟩:=h.move hp;exact⟨av,hK,.same (by simp[execOp,ho]) hs⟩
 | nilCheck x=>
  rw[ho]at hp
  cases x with
  | tmp t=>
   have hs0:=h.slot t
   simp only[du]at hp
   have hptr:bb F (.tmp t) K∧∃ ad,a.eval (.tmp t)=.pointer (some ad):=by
    show _∧∃ ad,tvs a t=_
    cases hF:F t with
    | hold k cs=>
     rw[hF]at hp hs0
     cases k with
     | box=>obtain⟨X1,Y,-,-,-,⟨g,b,hv,-⟩,-⟩:=hs0;exact⟨hp,_,hv⟩
     | _=>exact hp.elim
    | ref=>rw[hF]at hp hs0;obtain⟨k,cs,r,j,g,b,-,-,-,hv⟩:=hs0;exact⟨hp,_,hv⟩
    | iref=>rw[hF]at hp hs0;obtain⟨g,b,u,hv,-⟩:=hs0;exact⟨hp,_,hv⟩
    | _=>rw[hF]at hp;exact hp.elim
   obtain⟨hm,ad,had⟩:=hptr
   obtain⟨av,hK,hs⟩:=h.move hm
   exact⟨av,hK,.same (v:=a.eval (.tmp t)) (by simp[execOp,ho,had]) hs⟩
  | _=>exact hp.elim
 | load T x=>rw[ho]at hp;obtain⟨av,v,hK,hr,hs⟩:=h.load hTE hp;exact⟨av,hK,.same (by simp[execOp,ho,hr]) hs⟩
 | fieldAddr T x f=>rw[ho]at hp;obtain⟨av,v,hK,hr,hs⟩:=h.fieldAddr hTE hp;exact⟨av,hK,.same (by simp[execOp,ho,hr]) hs⟩
 | indexAddr T x y=>rw[ho]at hp;obtain⟨av,v,hK,hr,hs⟩:=h.indexAddr hTE hp;exact⟨av,hK,.same (by simp[execOp,ho,hr]) hs⟩
 | binOp op T x y yT=>
  rw[ho]at hp
  simp only[du]at hp
  cases hb:sa op y with
  | true=>
   rw[hb]at hp
   obtain⟨rfl,rfl⟩:=DS hb
   obtain⟨hK,hr⟩:=h.nilq hTE hp
   refine⟨_,hK,.same (v:=.bool false) ?_ (jS rfl)⟩
   simp only[execOp,ho]
   rw[Sem.run_bind]
   have e1:a.eval (.const (.slice none 0 0))=.slice none 0 0:=rfl
   rw[e1,hr]
   rfl
  | false=>
   rw[hb]at hp
   obtain⟨hx,-⟩:=h.scalar hp
   obtain⟨hy,-⟩:=h.scalar hx
   obtain⟨v,hK,h1,hr⟩:=Gv (P:=P) (w:=w) hTE (T:=T) (x:=x) (y:=y) hy
   refine⟨_,hK,.same (v:=v) ?_ (jS h1)⟩
   simp only[execOp,ho]
   rw[Sem.run_bind,hr]
   rfl
 | unOp op T x=>
  rw[ho]at hp
  obtain⟨hx,-⟩:=h.scalar hp
  obtain⟨v,hK,h1,hr⟩:=Hc (P:=P) (w:=w) hx
  exact⟨_,hK,.same (v:=v) (by simp[execOp,ho,hr]) (jS h1)⟩
 | pick c x y=>
  rw[ho]at hp
  obtain⟨av,b,hK,hb,hs⟩:=h.pick hp
  exact⟨av,hK,.same (v:=if b then a.eval x else a.eval y) (by simp[execOp,ho,hb,asBool]) hs⟩
 | alloc T=>rw[ho]at hp;obtain⟨av,v,w1,hK,hr,hs⟩:=h.alloc hTE hp;exact⟨av,hK,.value (by simp[execOp,ho,hr]) hs⟩
 | box T x=>rw[ho]at hp;obtain⟨av,v,w1,hK,hr,hs⟩:=h.box (P:=P) (T:=T) hp;exact⟨av,hK,.value (by simp[execOp,ho,hr]) hs⟩
 | extract x i=>rw[ho]at hp;obtain⟨av,v,hK,hr,hs⟩:=h.extract (P:=P) hp;exact⟨av,hK,.same (by simp[execOp,ho,hr]) hs⟩
 | build T ps=>rw[ho]at hp;obtain⟨av,v,hK,hr,hs⟩:=h.build hTE hp;exact⟨av,hK,.same (by simp only[execOp,ho];rw[Sem.run_bind,hr];rfl) hs⟩
 | buildSlice T n ps=>rw[ho]at hp;obtain⟨av,v,w1,hK,hr,hs⟩:=h.buildS hTE hp;exact⟨av,hK,.value (by simp only[execOp,ho];rw[Sem.run_bind,hr];rfl) hs⟩
 | makeMap T r=>rw[ho]at hp;obtain⟨av,v,w1,hK,hr,hs⟩:=h.makeMap hTE hp;exact⟨av,hK,.value (by simp[execOp,ho,hr]) hs⟩
 | lookup T x y ok=>rw[ho]at hp;obtain⟨v,hK,h1,hr⟩:=h.look hTE hp;exact⟨_,hK,.same (v:=v) (by simp[execOp,ho,hr]) (jS h1)⟩
 | makeSlice T x y=>rw[ho]at hp;obtain⟨av,v,w1,hK,hr,hs⟩:=h.make hTE hp;exact⟨av,hK,.value (by simp[execOp,ho,hr]) hs⟩
 | slice T x lo hi mx=>
  rw[ho]at hp
  cases mx with
  | none=>obtain⟨av,v,hK,hr,hs⟩:=h.slice hTE hp;exact⟨av,hK,.same (by simp only[execOp,ho];rw[Sem.run_bind,Option.map_none,hr];rfl) hs⟩
  | some m=>
   cases lo with
   | some _=>exact hp.elim
   | none=>
    cases hi with
    | none=>exact hp.elim
    | some y=>obtain⟨v,hK,hr,hs⟩:=h.slice0 hTE hp;exact⟨_,hK,.same (by simp only[execOp,ho];rw[Sem.run_bind,Option.map_none,Option.map_some,Option.map_some,hr];rfl) hs⟩
 | field T x f=>rw[ho]at hp;obtain⟨av,v,hK,hr,hs⟩:=h.field hTE hp;exact⟨av,hK,.same (by simp[execOp,ho,hr]) hs⟩
 | convert T1 T2 x=>rw[ho]at hp;obtain⟨v,hK,h1,hr⟩:=h.conv hTE hp;exact⟨_,hK,.same (v:=v) (by simp[execOp,ho,hr]) (jS h1)⟩
 | makeFunc fn fs cs=>
  rw[ho]at hp
  simp only[du]at hp
  split at hp
  ·rename_i f hfs
   obtain⟨l,hK,hl⟩:=nP hp
   have e1:fs = #[]:=by apply Array.ext';simpa using hfs
   have e2:cs.map a.eval=(l.map (tvs a)).toArray:=by
    apply Array.ext'
    rw[Array.toList_map,hl,List.map_map]
    rfl
   subst e1
   exact⟨_,hK,.same (v:=.func (.func f) #[] (l.map (tvs a)).toArray) (by simp[execOp,ho,Instr.makeFunc,e2]) rfl⟩
  ·exact hp.elim
 | call c=>
  rw[ho]at hp
  obtain⟨callee,args,ts⟩:=c
  simp only[du]at hp
  split at hp
  ·exact h.call ho hp
  ·exact h.callT ho hp
  ·split at hp
   ·rename_i x T hx hT
    obtain⟨v,hK,h1,hr⟩:=h.len (ty:=o.type) hTE hp
    have e1:args = #[x]:=by apply Array.ext';simpa using hx
    have e2:ts = #[T]:=by apply Array.ext';simpa using hT
    subst e1 e2
    refine⟨_,hK,.same (v:=v) ?_ (jS h1)⟩
    simp[execOp,ho,resolve,invoke,builtin,hr]
   ·exact hp.elim
  ·split at hp
   ·rename_i x y T T2 hx hT
    cases hb:Nat.beq T T2 with
    | false=>rw[hb]at hp;exact hp.elim
    | true=>
     rw[hb]at hp
     have:=Nat.eq_of_beq_eq_true hb
     subst this
     obtain⟨av,v,w1,hK,hr,hs⟩:=h.appP (ty:=o.type) hTE hp
     have e1:args = #[x,y]:=by apply Array.ext';simpa using hx
     have e2:ts = #[T,T]:=by apply Array.ext';simpa using hT
     subst e1 e2
     exact⟨av,hK,.value (by simp[execOp,ho,resolve,invoke,builtin,hr]) hs⟩
   ·exact hp.elim
  ·split at hp
   ·rename_i x y hx
    obtain⟨v,hK,h1,hr⟩:=h.mm (P:=P) (ts:=ts) (ty:=o.type) hp
    have e1:args = #[x,y]:=by apply Array.ext';simpa using hx
    subst e1
    refine⟨_,hK,.same (v:=v) ?_ (jS h1)⟩
    simp only[Bool.false_eq_true,if_false]at hr
    simp[execOp,ho,resolve,invoke,builtin,hr]
   ·exact hp.elim
  ·split at hp
   ·rename_i x y hx
    obtain⟨v,hK,h1,hr⟩:=h.mm (P:=P) (ts:=ts) (ty:=o.type) hp
    have e1:args = #[x,y]:=by apply Array.ext';simpa using hx
    subst e1
    refine⟨_,hK,.same (v:=v) ?_ (jS h1)⟩
    simp only[if_true]at hr
    simp[execOp,ho,resolve,invoke,builtin,hr]
   ·exact hp.elim
  ·exact hp.elim
 | _=>rw[ho]at hp;exact hp.elim
end
end Go.Proofs.YtogajjgmcnjkbaaGreat.Ab
namespace Go.Proofs.YtogajjgmcnjkbaaGreat.Ab
open Go.RowKit
inductive Lq (bs:List C) (off:Nat) (st:bW) (n:Nat) (K:List C→List C→Prop):Prop
 |mk_ (h:∃ r j cs bs',bD bs off st=some (r,j)∧iF bs off st∧j+n≤r.length∧cs=bp r j n∧bs'=en bs off st (splice r j (List.replicate n .x))∧K cs bs')
theorem Lq.one {bs cs bs':List C} {off i k j n:Nat} {K:List C→List C→Prop} {o:dy} {rows:List (List C)} {r:List C} (h1:bs[off]? = some (.s o rows)) (ho:o.mine=true) (h2:rows[i]? = some r) (h3:r.length=k) (h4:j+n≤k)
  (h5:cs=bp r j n) (h6:bs'=bs.set off (.s o (rows.set i (splice r j (List.replicate n .x))))) (hK:K cs bs'):Lq bs off [(i,k,j)] n K:=by
 have hoi:o≠.imm:=fun e=>by subst e;cases ho
 refine .mk_ ?_
 exact⟨r,j,cs,bs',by simp[bD,h1,h2,h3],by simp[iF,h1,h2,hoi],by omega,h5,by rw[h6];simp[en,h1,h2],hK⟩
theorem Lq.out {bs:List C} {off:Nat} {st:bW} {n:Nat} {K:List C→List C→Prop} (h:Lq bs off st n K):∃ r j,bD bs off st=some (r,j)∧iF bs off st∧j+n≤r.length∧K (bp r j n) (en bs off st (splice r j (List.replicate n .x))):=by
 obtain⟨h⟩:=h;obtain⟨r,j,cs,bs',h1,h2,h3,rfl,rfl,h4⟩:=h;exact⟨r,j,h1,h2,h3,h4⟩
def G8 (t:Nat):AV→AV
 | .bor t' off (s::st) ag=>bif Nat.beq t' t then .dead else .bor t' off (s::st) ag
 | .bor t' off [] ag=>.bor t' off [] ag
 | .ref t' off (s::st)=>bif Nat.beq t' t then .dead else .ref t' off (s::st)
 | .ref t' off []=>.ref t' off []
 | .hold k cs=>.hold k cs
 | .iref r off=>.iref r off
 | .fn f caps=>.fn f caps
 | .fv Ok=>.fv Ok
 | .dead=>.dead
def updN (F:Nat→AV) (t:Nat) (k:Kd) (cs:List C):Nat→AV:=fun s=>bif Nat.beq s t then .hold k cs else G8 t (F s)
theorem pE (F:Nat→AV) (t:Nat) (k:Kd) (cs:List C):updN F t k cs t=.hold k cs:=by simp[updN]
theorem tI (F:Nat→AV) {t s:Nat} (k:Kd) (cs:List C) (h:s≠t):updN F t k cs s=G8 t (F s):=by
 unfold updN
 rw[show Nat.beq s t=false by rw[←Bool.not_eq_true,Nat.beq_eq];exact h];rfl
theorem nl {F:Nat→AV} {t:Nat} {k:Kd} {cs:List C} {t':Nat} {k2:Kd} {cs2:List C} (h:updH F t k cs t'=.hold k2 cs2):updN F t k cs t'=.hold k2 cs2:=by
 by_cases e:t'=t
 ·subst e;rw[fg]at h;rw[pE];exact h
 ·rw[dR _ _ _ e]at h
  rw[tI _ _ _ e]
  cases hF:F t' with
  | hold k3 cs3=>rw[hF]at h;exact h
  | bor t1 off st ag=>rw[hF]at h;simp only[pa]at h;cases hb:Nat.beq t1 t<;>rw[hb]at h<;>cases h
  | ref t1 off st=>
   rw[hF]at h
   cases st with
   | nil=>cases h
   | cons s st=>simp only[pa]at h;cases hb:Nat.beq t1 t<;>rw[hb]at h<;>cases h
  | _=>rw[hF]at h;cases h
theorem DP (cs:List C) (off:Nat) (s:Nat × Nat × Nat) (st:bW) (r:List C):(en cs off (s::st) r).length=cs.length:=by
 obtain⟨i,k,j⟩:=s
 simp only[en]
 (repeat' split)<;>simp
def fu (F:Nat→AV) (y:Operand) (K:(Nat→AV)→Option Nat→List C→Prop):Prop:=
 match y with
 | .tmp t=>match F t with
  | .hold .one cs=>K (updH F t .one (splice cs 0 (List.replicate cs.length .x))) none cs
  | .hold .agg cs=>K (updH F t .agg (splice cs 0 (List.replicate cs.length .x))) (some cs.length) cs
  | .bor t2 off [] ag=>(match F t2 with
    | .hold k cs=>bif Nat.ble (off+ag.getD 1) cs.length then K (updN F t2 k (splice cs off (List.replicate (ag.getD 1) .x))) ag (bp cs off (ag.getD 1)) else False
    | _=>False)
  | .bor t2 off (s::st) ag=>(match F t2 with
    | .hold k cs=>Lq cs off (s::st) (ag.getD 1) fun xs bs'=>K (updN F t2 k bs') ag xs
    | _=>False)
  | _=>False
 | _=>False
def bA (N:fq) (F:Nat→AV) (d:Nat) (av:AV) (K:(Nat→AV)→Prop):Prop:=bif N.free d&&!av.uses d then K (put F d av) else False
def iN (N:fq) (F:Nat→AV) (d:Nat) (x:Operand) (K:(Nat→AV)→Prop):Prop:=
 match x with
 | .tmp t=>match F t with
  | .bor ..=>fu F x fun F' ag cs=>bA N F' d (.hold (jK ag) cs) K
  | .hold .one cs=>bif aQ cs then bb F x fun av=>bA N F d av K else fu F x fun F' ag cs=>bA N F' d (.hold (jK ag) cs) K
  | .hold .agg cs=>bif aQ cs then bb F x fun av=>bA N F d av K else fu F x fun F' ag cs=>bA N F' d (.hold (jK ag) cs) K
  | _=>bb F x fun av=>bA N F d av K
 | x=>bb F x fun av=>bA N F d av K
inductive Pu (bs:List C) (off:Nat) (st:bW) (xs:List C) (K:List C→Prop):Prop
 |mk_ (h:∃ r j bs',bD bs off st=some (r,j)∧iF bs off st∧j+xs.length≤r.length∧bs'=en bs off st (splice r j xs)∧K bs')
theorem Pu.mk {bs bs':List C} {off:Nat} {st:bW} {xs:List C} {K:List C→Prop} {r:List C} {j:Nat} (h1:bD bs off st=some (r,j)) (h2:iF bs off st) (h3:j+xs.length≤r.length) (h4:bs'=en bs off st (splice r j xs)) (hK:K bs'):Pu bs off st xs K:=by
 refine .mk_ ?_;exact⟨r,j,bs',h1,h2,h3,h4,hK⟩
theorem Pu.one {bs bs':List C} {off i k j:Nat} {xs:List C} {K:List C→Prop} {o:dy} {rows:List (List C)} {r:List C} (h1:bs[off]? = some (.s o rows)) (ho:o.mine=true) (h2:rows[i]? = some r) (h3:r.length=k) (h4:j+xs.length≤k)
  (h5:bs'=bs.set off (.s o (rows.set i (splice r j xs)))) (hK:K bs'):Pu bs off [(i,k,j)] xs K:=by
 have hoi:o≠.imm:=fun e=>by subst e;cases ho
 refine Pu.mk (r:=r) (j:=j) (by simp[bD,h1,h2,h3]) (by simp[iF,h1,h2,hoi]) (by omega) (by rw[h5];simp[en,h1,h2]) hK
theorem Pu.out {bs:List C} {off:Nat} {st:bW} {xs:List C} {K:List C→Prop} (h:Pu bs off st xs K):∃ r j,bD bs off st=some (r,j)∧iF bs off st∧j+xs.length≤r.length∧K (en bs off st (splice r j xs)):=by
 obtain⟨h⟩:=h;obtain⟨r,j,bs',h1,h2,h3,rfl,h4⟩:=h;exact⟨r,j,h1,h2,h3,h4⟩
def nz (F:Nat→AV) (x:Operand) (cs:List C) (K:(Nat→AV)→Prop):Prop:=
 match x with
 | .tmp tx=>match F tx with
  | .hold .box bs=>bif Nat.ble cs.length bs.length then fc (splice bs 0 cs) fun bs'=>K (updH F tx .box bs') else False
  | .ref t off []=>(match F t with
    | .hold .box bs=>bif Nat.ble (off+cs.length) bs.length then fc (splice bs off cs) fun bs'=>K (updH F t .box bs') else False
    | _=>False)
  | .ref t off (s::st)=>(match F t with
    | .hold k bs=>Pu bs off (s::st) cs fun bs'=>K (updH F t k bs')
    | _=>False)
  | _=>False
 | _=>False
def lA (TE:Nat→Option TI) (F:Nat→AV) (T:Nat) (x y:Operand) (K:(Nat→AV)→Prop):Prop:=
 match TE T with
 | some i=>gx F (lW F y) fun _ cs=>bif Nat.beq cs.length i.size then(bif aQ cs then nz F x cs K else fu F y fun F' _ cs=>bif Nat.beq cs.length i.size then nz F' x cs K else False) else False
 | none=>False
section
variable {P:Program} {w0 w w1:World} {M S0 S:ab} {N:fq} {φ:Nat→ab} {F:Nat→AV} {a:Act} {TE:Nat→Option TI}
theorem aZ.toN {S1:ab} {φ1:Nat→ab} {t:Nat} {k:Kd} {cs cs':List C} (h:aZ w0 M S0 N S1 φ1 (updH F t k cs') a w) (h0:aZ w0 M S0 N S φ F a w) (hF:F t=.hold k cs) (hl:cs'.length=cs.length):aZ w0 M S0 N S1 φ1 (updN F t k cs') a w:=by
 refine⟨fun s=>?_,h.dis,h.disS,h.ex,h.sub,h.sup,h.old,h.size,h.defers,h.par⟩
 have hs:=h.slot s
 by_cases e:s=t
 ·subst e;rw[fg]at hs;rw[pE];exact hs
 ·rw[dR _ _ _ e]at hs
  rw[tI _ _ _ e]
  cases hFs:F s with
  | dead=>trivial
  | hold k3 cs3=>rw[hFs]at hs;exact hs
  | iref r off=>rw[hFs]at hs;exact hs
  | fn f caps=>rw[hFs]at hs;exact hs
  | fv Ok=>rw[hFs]at hs;exact hs
  | ref t1 off st=>
   rw[hFs]at hs
   cases st with
   | nil=>
    obtain⟨k2,cs2,r,j,g,o,h1,h2⟩:=hs
    exact⟨k2,cs2,r,j,g,o,nl h1,h2⟩
   | cons s2 st=>
    simp only[pa]at hs
    simp only[G8]
    cases hb:Nat.beq t1 t with
    | true=>trivial
    | false=>
     rw[hb]at hs
     obtain⟨k2,cs2,r,j,g,o,h1,h2⟩:=hs
     exact⟨k2,cs2,r,j,g,o,nl h1,h2⟩
  | bor t1 off st ag=>
   rw[hFs]at hs
   simp only[pa]at hs
   cases st with
   | nil=>
    simp only[G8]
    cases hb:Nat.beq t1 t with
    | true=>
     have:=Nat.eq_of_beq_eq_true hb
     subst this
     have h1:=h0.slot s
     rw[hFs]at h1
     obtain⟨k2,cs2,r,j,g1,g2,g3,g4⟩:=h1
     rw[hF]at g1
     cases g1
     simp only[bD,Option.some.injEq,Prod.mk.injEq]at g2
     obtain⟨rfl,rfl⟩:=g2
     exact⟨_,_,_,_,pE ..,rfl,by omega,g4⟩
    | false=>
     rw[hb]at hs
     obtain⟨k2,cs2,r,j,h1,h2⟩:=hs
     exact⟨k2,cs2,r,j,nl h1,h2⟩
   | cons s2 st=>
    simp only[G8]
    cases hb:Nat.beq t1 t with
    | true=>trivial
    | false=>
     rw[hb]at hs
     obtain⟨k2,cs2,r,j,h1,h2⟩:=hs
     exact⟨k2,cs2,r,j,nl h1,h2⟩
theorem aZ.taken (h:aZ w0 M S0 N S φ F a w) {y:Operand} {K:(Nat→AV)→Option Nat→List C→Prop} (hp:fu F y K) :
  ∃ F' ag cs V φ',K F' ag cs∧aZ w0 M S0 N S φ' F' a w∧bo w S V ag cs (a.eval y)∧(∀ b o,V b o→(∀ t,¬φ' t b o)∧¬S b o∧b<w.heap.size∧(w0.heap.size≤b∨M b o))∧(∀ t b o,φ' t b o→φ t b o)∧(∀ b o,V b o→∃ t,φ t b o):=by
 cases y with
 | tmp t=>
  have hs:=h.slot t
  simp only[fu]at hp
  have fin:∀ (t2 off n:Nat) (k:Kd) (cs:List C),F t2=.hold k cs→off+n≤cs.length→∀ (ag:Option Nat),ag.getD 1=n→(a.eval (.tmp t)=mkv ag fun j=>cA w k (tvs a t2) (off+j))→
    K (updH F t2 k (splice cs off (List.replicate n .x))) ag (bp cs off n)→
    ∃ F' ag cs V φ',K F' ag cs∧aZ w0 M S0 N S φ' F' a w∧bo w S V ag cs (a.eval (.tmp t))∧(∀ b o,V b o→(∀ t,¬φ' t b o)∧¬S b o∧b<w.heap.size∧(w0.heap.size≤b∨M b o))∧(∀ t b o,φ' t b o→φ t b o)∧(∀ b o,V b o→∃ t,φ t b o):=by
   intro t2 off n k cs hF hl ag hag hv hK
   obtain⟨V,X,h1,h2,hX,h3,h4⟩:=h.take hF hl
   refine⟨_,ag,_,V,_,hK,h4,⟨by simp[bp];omega,_,hv,h3⟩,fun b o hb=>⟨fun t' hb'=>?_,h.disS t2 b o (h1 b o hb),h.ex t2 b o (h1 b o hb)⟩,fun t' b o hb=>?_,fun b o hb=>⟨t2,h1 b o hb⟩⟩
   ·by_cases ht:t'=t2
    ·rw[if_pos ht]at hb';exact h2 b o hb hb'
    ·rw[if_neg ht]at hb';exact h.dis t' t2 ht b o hb' (h1 b o hb)
   ·by_cases ht:t'=t2
    ·subst ht;rw[if_pos rfl]at hb;exact hX b o hb
    ·rw[if_neg ht]at hb;exact hb
  have finN:∀ (t2 off n:Nat) (k:Kd) (cs:List C),F t2=.hold k cs→off+n≤cs.length→∀ (ag:Option Nat),ag.getD 1=n→(a.eval (.tmp t)=mkv ag fun j=>cA w k (tvs a t2) (off+j))→
    K (updN F t2 k (splice cs off (List.replicate n .x))) ag (bp cs off n)→
    ∃ F' ag cs V φ',K F' ag cs∧aZ w0 M S0 N S φ' F' a w∧bo w S V ag cs (a.eval (.tmp t))∧(∀ b o,V b o→(∀ t,¬φ' t b o)∧¬S b o∧b<w.heap.size∧(w0.heap.size≤b∨M b o))∧(∀ t b o,φ' t b o→φ t b o)∧(∀ b o,V b o→∃ t,φ t b o):=by
   intro t2 off n k cs hF hl ag hag hv hK
   obtain⟨V,X,h1,h2,hX,h3,h4⟩:=h.take hF hl
   refine⟨_,ag,_,V,_,hK,h4.toN h hF (by simp[splice];omega),⟨by simp[bp];omega,_,hv,h3⟩,fun b o hb=>⟨fun t' hb'=>?_,h.disS t2 b o (h1 b o hb),h.ex t2 b o (h1 b o hb)⟩,fun t' b o hb=>?_,fun b o hb=>⟨t2,h1 b o hb⟩⟩
   ·by_cases ht:t'=t2
    ·rw[if_pos ht]at hb';exact h2 b o hb hb'
    ·rw[if_neg ht]at hb';exact h.dis t' t2 ht b o hb' (h1 b o hb)
   ·by_cases ht:t'=t2
    ·subst ht;rw[if_pos rfl]at hb;exact hX b o hb
    ·rw[if_neg ht]at hb;exact hb
  cases hF:F t with
  | hold k cs=>
   rw[hF]at hp hs
   obtain⟨X1,Y,-,-,-,h4,-⟩:=hs
   cases k with
   | one=>
    have hl:cs.length=1:=h4
    refine fin t 0 cs.length .one cs hF (by omega) none (by simp[hl]) rfl ?_
    rw[show bp cs 0 cs.length=cs by simp[bp]];exact hp
   | agg=>
    obtain⟨arr,hv,hsz⟩:=h4
    refine fin t 0 cs.length .agg cs hF (by omega) (some cs.length) rfl ?_ ?_
    ·show tvs a t=_
     rw[hv]
     have:=lc arr
     rw[hsz]at this
     exact this.trans (ga fun j _=>by simp[cA,Value.cells])
    ·rw[show bp cs 0 cs.length=cs by simp[bp]];exact hp
   | _=>exact hp.elim
  | bor t2 off st ag=>
   rw[hF]at hp hs
   cases st with
   | cons s st=>
    simp only at hp
    obtain⟨k,cs,r,j,h1,h2,h3,h4⟩:=hs
    rw[h1]at hp
    simp only at hp
    obtain⟨r',j',e1,e2,e3,hK⟩:=Lq.out hp
    obtain⟨V,φ',g1,g2,g3,g4,g5⟩:=h.lend h1 e1 e2 e3
    exact⟨_,ag,_,V,φ',hK,g2.toN h h1 (DP ..),⟨by simp[bp];omega,_,h4,g1⟩,g3,g4,fun b o hb=>⟨t2,g5 b o hb⟩⟩
   | nil=>
    simp only at hp
    obtain⟨k,cs,r,j,h1,h2,h3,h4⟩:=hs
    rw[h1]at hp
    simp only[bD,Option.some.injEq,Prod.mk.injEq]at h2
    obtain⟨rfl,rfl⟩:=h2
    simp only at hp
    cases hb:Nat.ble (off+ag.getD 1) cs.length with
    | false=>rw[hb]at hp;exact hp.elim
    | true=>
     rw[hb]at hp
     exact finN t2 off (ag.getD 1) k cs h1 h3 ag rfl (h4.trans rfl) hp
  | _=>rw[hF]at hp;exact hp.elim
 | _=>exact hp.elim
theorem aZ.putD_new (h:aZ w0 M S0 N S φ F a w) {d:Nat} {av:AV} {v:Value} {K:(Nat→AV)→Prop} (hv:kH w S F a av v w1) (hp:bA N F d av K):∃ F',K F'∧St w0 M S0 N F' (a.put (some d) v) w1:=by
 unfold bA at hp
 cases hc:(N.free d&&!av.uses d) with
 | false=>rw[hc]at hp;exact hp.elim
 | true=>
  rw[hc]at hp
  simp only[Bool.and_eq_true,Bool.not_eq_true']at hc
  exact⟨_,hp,h.put_newR hc.1 hv hc.2⟩
theorem aZ.putD_taken {φ':Nat→ab} {F':Nat→AV} (h:aZ w0 M S0 N S φ' F' a w) {d:Nat} {ag:Option Nat} {cs:List C} {v:Value} {V:ab} {K:(Nat→AV)→Prop} (hv:bo w S V ag cs v)
  (hV:∀ b o,V b o→(∀ t,¬φ' t b o)∧¬S b o∧b<w.heap.size∧(w0.heap.size≤b∨M b o)) (hp:bA N F' d (.hold (jK ag) cs) K):∃ F2,K F2∧St w0 M S0 N F2 (a.put (some d) v) w:=by
 unfold bA at hp
 cases hc:(N.free d&&!(AV.hold (jK ag) cs).uses d) with
 | false=>rw[hc]at hp;exact hp.elim
 | true=>
  rw[hc]at hp
  simp only[Bool.and_eq_true,Bool.not_eq_true']at hc
  exact⟨_,hp,S,_,h.put_gen (bu.refl _ _) hc.1 hv.slot hc.2 (fun b o hb=>(hV b o hb).2.2) (fun t _ b o hb=>(hV b o hb).1 t) (fun b o hb=>(hV b o hb).2.1)⟩
theorem aZ.assign (h:aZ w0 M S0 N S φ F a w) {d:Nat} {x:Operand} {K:(Nat→AV)→Prop} (hp:iN N F d x K):∃ F',K F'∧St w0 M S0 N F' (a.put (some d) (a.eval x)) w:=by
 have mv:bb F x (fun av=>bA N F d av K)→∃ F',K F'∧St w0 M S0 N F' (a.put (some d) (a.eval x)) w:=fun hm=>by
  obtain⟨av,hK,hs⟩:=h.move hm
  exact h.putD_new (kH.same hs) hK
 have tk:fu F x (fun F' ag cs=>bA N F' d (.hold (jK ag) cs) K)→∃ F',K F'∧St w0 M S0 N F' (a.put (some d) (a.eval x)) w:=fun hm=>by
  obtain⟨F',ag,cs,V,φ',hK,h',hv,hV,-⟩:=h.taken hm
  exact h'.putD_taken hv hV hK
 cases x with
 | tmp t=>
  simp only[iN]at hp
  split at hp
  ·exact tk hp
  ·rename_i cs _
   cases hn:aQ cs with
   | true=>rw[hn]at hp;exact mv hp
   | false=>rw[hn]at hp;exact tk hp
  ·rename_i cs _
   cases hn:aQ cs with
   | true=>rw[hn]at hp;exact mv hp
   | false=>rw[hn]at hp;exact tk hp
  ·exact mv hp
 | const v=>exact mv hp
 | global g=>exact mv hp
 | func f=>exact mv hp
theorem aZ.storeSt (h:aZ w0 M S0 N S φ F a w) {t:Nat} {k:Kd} {bs cs r:List C} {off j:Nat} {st:bW} (hF:F t=.hold k bs) (hst:st≠[]) (hr:bD bs off st=some (r,j)) (ho:iF bs off st) (hl:j+cs.length≤r.length) {V:ab} {u:Nat→Value} (hrow:cm w S V cs u)
  (hV:Free w0 M S φ w V) {T:Nat} (hsz:(P.info? T).map (·.size)=some cs.length) {v:Value} (hv:v.cells.toList=(List.range cs.length).map u) {g o:Nat} (hp:plc w (cA w k (tvs a t)) (nU k (tvs a t)) off st=some (g,o)) :
  ∃ w1,(Instr.storeAt T (.pointer (some ⟨g,o,none⟩)) v).run P w=.ok () w1∧St w0 M S0 N (updH F t k (en bs off st (splice r j cs))) a w1:=by
 obtain⟨g',b,u',Y,e1,e2,e3,e4,e5,e6⟩:=h.focus hF hst hr ho
 rw[e4]at hp
 simp only[Option.some.injEq,Prod.mk.injEq]at hp
 obtain⟨rfl,rfl⟩:=hp
 have hvl:v.cells.toList.length=cs.length:=by rw[hv];simp
 have hvs:v.cells.size=cs.length:=by simpa using hvl
 have hin:∀ d,d<cs.length→(∃ z,cel w g' (b+j+d)=some z)∧fro w g' (b+j+d)=NF:=fun d hd=>by
  obtain⟨-,-,a3,a4⟩:=e5 (j+d) (by omega)
  rw[Nat.add_assoc]
  exact⟨⟨_,a3⟩,a4⟩
 have hone:∀ x∈v.cells.toList,x.oneCell'=true:=fun x hx=>by
  rw[hv]at hx
  obtain⟨d,hd,rfl⟩:=List.mem_map.1 hx
  exact hrow.one (List.mem_range.1 hd)
 have hrun:=run_storeCells_cells (P:=P) g' (b+j) v.cells.toList 0 w (fun d hd=>by obtain⟨z,hz⟩:=(hin d (by omega)).1;simp only[Nat.add_zero];show(cel w g' (b+j+d)).isSome=true;rw[hz];rfl)
  (fun d hd=>by simp only[Nat.add_zero];exact congrArg Prod.fst (hin d (by omega)).2) hone
 simp only[Nat.add_zero]at hrun
 have hk:bu (fun x o=>x=g'∧b+j≤o∧o<b+j+cs.length) w (w.setCells g' (b+j) v.cells.toList):=gi _ _ _ fun d hd=>⟨rfl,by omega,by omega⟩
 have hgv:∀ d,d<cs.length→v.cells.toList[d]? = some (u d):=fun d hd=>by rw[hv,List.getElem?_map,List.getElem?_range hd];rfl
 have hSS:ba S w (w.setCells g' (b+j) v.cells.toList):=fun x o hx=>⟨hk.cel x o (h.sup x o hx).1 (fun hc=>by
   have:=(e5 (o - b) (by omega)).1
   rw[show b+(o - b)=o by omega,←hc.1]at this
   exact h.disS t x o this hx),ch _ _ _ _ _ _⟩
 have hYY:ba Y w (w.setCells g' (b+j) v.cells.toList):=fun x o hx=>⟨hk.cel x o (h.ex t x o (e1 x o hx)).1 (fun hc=>by
   have:=(e5 (o - b) (by omega)).2.1
   rw[show b+(o - b)=o by omega,←hc.1]at this
   exact this hx),ch _ _ _ _ _ _⟩
 have hVV:ba V w (w.setCells g' (b+j) v.cells.toList):=fun x o hx=>⟨hk.cel x o (hV x o hx).2.2.1 (fun hc=>by
   have:=(e5 (o - b) (by omega)).1
   rw[show b+(o - b)=o by omega,←hc.1]at this
   exact(hV x o hx).1 t this),ch _ _ _ _ _ _⟩
 refine⟨_,by simp[Instr.storeAt,Instr.sureAddr,storeVar,gW hsz,hvs,hrun],S,_,e6 _ (splice r j cs) (fun d=>if j≤d∧d<j+cs.length then u (d - j) else u' d) (fun x o=>Y x o∨V x o) _ hk (fun x o hx=>.inr ⟨hx.1,by omega,by omega⟩) (fun d hd=>⟨?_,by rw[ch];exact(e5 d hd).2.2.2⟩) (cL hl) ((e2.keep hSS hYY).join (hrow.keep hSS hVV) hl (fun x o hx hx'=>(hV x o hx').1 t (e1 x o hx))) (fun x o hx=>hx.imp id (hV x o))⟩
 by_cases hq:j≤d∧d<j+cs.length
 ·rw[if_pos hq]
  have:=cC (w:=w) (g:=g') (o:=b+j) (vs:=v.cells.toList) (fun d hd=>(hin d (by omega)).1) (hgv (d - j) (by omega))
  rw[show b+j+(d - j)=b+d by omega]at this
  exact this
 ·rw[if_neg hq,bC (by omega)]
  exact(e5 d hd).2.2.1
theorem aZ.putB (h:aZ w0 M S0 N S φ F a w) {T:Nat} {x:Operand} {cs:List C} {v:Value} {V:ab} {ag:Option Nat} {K:(Nat→AV)→Prop} (hv:bo w S V ag cs v)
  (hV:∀ b o,V b o→(∀ t,¬φ t b o)∧¬S b o∧b<w.heap.size∧(w0.heap.size≤b∨M b o)) (hsz:(P.info? T).map (·.size)=some cs.length) (hp:nz F x cs K) :
  ∃ F' w1,K F'∧(Instr.storeAt T (a.eval x) v).run P w=.ok () w1∧St w0 M S0 N F' a w1:=by
 obtain⟨u,hu,hr⟩:=hv.cells
 cases x with
 | tmp tx=>
  have hs:=h.slot tx
  show ∃ F' w1,K F'∧(Instr.storeAt T (tvs a tx) v).run P w=.ok () w1∧_
  simp only[nz]at hp
  cases hF:F tx with
  | hold k bs=>
   rw[hF]at hp hs
   cases k with
   | box=>
    simp only at hp
    cases hb:Nat.ble cs.length bs.length with
    | false=>rw[hb]at hp;exact hp.elim
    | true=>
     rw[hb]at hp
     simp only[cond_true,dM]at hp
     obtain⟨X1,Y,-,-,-,⟨g,o,hpt,-⟩,-⟩:=hs
     obtain⟨w1,hrun,hst⟩:=h.store (P:=P) hF (off:=0) (by simpa using Nat.le_of_ble_eq_true hb) hr hV hsz hu (g:=g) (o:=o) (by rw[hpt];rfl)
     exact⟨_,w1,hp,by rw[hpt];exact hrun,hst⟩
   | _=>exact hp.elim
  | ref t off st=>
   rw[hF]at hp hs
   cases st with
   | cons s st=>
    simp only at hp
    obtain⟨k,cs',r,j,g,o,h1,h2,h3,h4⟩:=hs
    rw[h1]at hp
    obtain⟨r',j',e1,e2,e3,hK⟩:=hp.out
    obtain⟨w1,hrun,hst⟩:=h.storeSt (P:=P) h1 (by simp) e1 e2 e3 hr hV hsz hu h3
    exact⟨_,w1,hK,by rw[h4];exact hrun,hst⟩
   | nil=>
    simp only at hp
    obtain⟨k,cs',r,j,g,o,h1,h2,h3,h4⟩:=hs
    rw[h1]at hp
    cases k with
    | box=>
     simp only at hp
     cases hb:Nat.ble (off+cs.length) cs'.length with
     | false=>rw[hb]at hp;exact hp.elim
     | true=>
      rw[hb]at hp
      simp only[cond_true,dM]at hp
      obtain⟨w1,hrun,hst⟩:=h.store (P:=P) h1 (Nat.le_of_ble_eq_true hb) hr hV hsz hu h3
      exact⟨_,w1,hp,by rw[h4];exact hrun,hst⟩
    | _=>exact hp.elim
  | _=>rw[hF]at hp;exact hp.elim
 | _=>exact hp.elim
theorem aZ.storeOp (h:aZ w0 M S0 N S φ F a w) (hTE:∀ t i,TE t=some i→b9 P t i) {T:Nat} {x y:Operand} {K:(Nat→AV)→Prop} (hp:lA TE F T x y K) :
  ∃ F' w1,K F'∧(Instr.storeAt T (a.eval x) (a.eval y)).run P w=.ok () w1∧St w0 M S0 N F' a w1:=by
 unfold lA at hp
 split at hp
 case h_2=>exact hp.elim
 rename_i i hT
 have hsz:=(hTE _ _ hT).size
 obtain⟨ag,cs,Y,hK,hv,-⟩:=h.val (h.ev y) hp
 cases hl:Nat.beq cs.length i.size with
 | false=>rw[hl]at hK;exact hK.elim
 | true=>
  rw[hl]at hK
  simp only[cond_true]at hK
  cases hn:aQ cs with
  | true=>
   rw[hn]at hK
   exact h.putB (V:=NO) (hv.bare hn) (fun _ _ h=>h.elim) (by rw[hsz,Nat.eq_of_beq_eq_true hl]) hK
  | false=>
   rw[hn]at hK
   simp only[cond_false]at hK
   obtain⟨F',ag',cs',V,φ',hK',h',hv',hV,-⟩:=h.taken hK
   cases hl':Nat.beq cs'.length i.size with
   | false=>rw[hl']at hK';exact hK'.elim
   | true=>
    rw[hl']at hK'
    exact h'.putB hv' hV (by rw[hsz,Nat.eq_of_beq_eq_true hl']) hK'
end
end Go.Proofs.YtogajjgmcnjkbaaGreat.Ab
namespace Go.Proofs.YtogajjgmcnjkbaaGreat.Ab
open Go.RowKit
def ra (F:Nat→AV) (x:Operand) (K:(Nat→AV)→Option Nat→List C→Prop):Prop:=gx F (lW F x) fun ag cs=>bif aQ cs then K F ag cs else fu F x K
def fillW (pl:Nat→Option (Nat × Nat)):List (Nat × Operand)→List C→((Nat→AV)→List C→Prop)→(Nat→AV)→Prop
 | [],cs,K,F=>K F cs
 | p::rest,cs,K,F=>match pl p.1 with
  | some q=>ra F p.2 fun F' _ xs=>bif Nat.beq xs.length q.2&&Nat.ble (q.1+q.2) cs.length then fc (splice cs q.1 xs) fun cs'=>fillW pl rest cs' K F' else False
  | none=>False
def iO (TE:Nat→Option TI) (N:fq) (F:Nat→AV) (d T:Nat) (parts:List (Nat × Operand)) (K:(Nat→AV)→Prop):Prop:=
 match TE T with
 | some ⟨_,_,zero,.st flds⟩=>bif tp TE flds then fillW (H6 TE flds) parts zero (fun F' cs=>bA N F' d (.hold .agg cs) K) F else False
 | _=>False
def gw (TE:Nat→Option TI) (N:fq) (F:Nat→AV) (d T n:Nat) (parts:List (Nat × Operand)) (K:(Nat→AV)→Prop):Prop:=
 D0 TE T fun _ ie=>bif Nat.ble (n*ie.size) 16777216 then(match n,parts with
   | 0,[]=>bA N F d (.hold .one [.z]) K
   | n+1,parts=>fc (rep ie.zero (n+1)) fun cs=>fillW (J6 ie.size) parts cs (fun F' cs'=>Jr ie.size (n+1) cs' fun rows=>bA N F' d (.hold .one [.s .own rows]) K) F
   | _,_=>False) else False
def EU (N:fq) (F:Nat→AV) (d:Nat) (x:Operand) (K:(Nat→AV)→Prop):Prop:=ra F x fun F' _ cs=>bA N F' d (.hold .box cs) K
inductive Ap (flat:Bool) (rows xr:List (List C)) (sz by_:Nat) (K:List (List C)→Prop):Prop
 |mk_ (h:(∀ r∈rows,r.length=sz)∧(∀ r∈xr,r.length=sz)∧(flat=true→∀ r∈xr,aQ r=true)∧rows.length+xr.length≤140737488355328∧(rows.length+xr.length)*by_≤140737488355328∧∃ rs,rs=rows++xr∧K rs)
theorem Ap.mk {flat:Bool} {rows xr rs:List (List C)} {sz by_:Nat} {K:List (List C)→Prop} (h1:∀ r∈rows,r.length=sz) (h2:∀ r∈xr,r.length=sz) (h3:flat=true→∀ r∈xr,aQ r=true) (h4:rows.length+xr.length≤140737488355328)
  (h5:(rows.length+xr.length)*by_≤140737488355328) (h6:rs=rows++xr) (hK:K rs):Ap flat rows xr sz by_ K:=by refine .mk_ ?_;exact⟨h1,h2,h3,h4,h5,rs,h6,hK⟩
theorem Ap.out {flat:Bool} {rows xr:List (List C)} {sz by_:Nat} {K:List (List C)→Prop} (h:Ap flat rows xr sz by_ K) :
  (∀ r∈rows,r.length=sz)∧(∀ r∈xr,r.length=sz)∧(flat=true→∀ r∈xr,aQ r=true)∧rows.length+xr.length≤140737488355328∧(rows.length+xr.length)*by_≤140737488355328∧K (rows++xr):=by
 obtain⟨h⟩:=h;obtain⟨h1,h2,h3,h4,h5,rs,rfl,h6⟩:=h;exact⟨h1,h2,h3,h4,h5,h6⟩
def wQ (F:Nat→AV) (y:Operand) (K:Bool→(Nat→AV)→List (List C)→Prop):Prop:=
 match lW F y with
 | .hold .one [.s .own _]=>fu F y fun F' ag cs=>match ag,cs with|none,[.s .own rows]=>K false F' rows|_,_=>False
 | av=>gx F av fun ag cs=>match ag,cs with
  | none,[.s _ rows]=>K true F rows
  | none,[.z]=>K true F []
  | _,_=>False
def vc (F:Nat→AV) (x:Operand) (K:(Nat→AV)→List (List C)→Prop):Prop:=
 gx F (lW F x) fun ag cs=>match ag,cs with
  | none,[.z]=>K F []
  | none,[.s .own _]=>fu F x fun F' ag cs=>match ag,cs with|none,[.s .own rows]=>K F' rows|_,_=>False
  | _,_=>False
def uY (TE:Nat→Option TI) (N:fq) (F:Nat→AV) (d T:Nat) (x y:Operand) (K:(Nat→AV)→Prop):Prop:=
 D0 TE T fun _ ie=>wQ F y fun fl F' xr=>vc F' x fun F'' rows=>Ap fl rows xr ie.size ie.bytes fun rs=>bA N F'' d (.hold .one [.s .own rs]) K
section
variable {P:Program} {w0 w w1:World} {M S0 S:ab} {N:fq} {φ:Nat→ab} {F:Nat→AV} {a:Act} {TE:Nat→Option TI}
theorem aZ.give (h:aZ w0 M S0 N S φ F a w) {x:Operand} {K:(Nat→AV)→Option Nat→List C→Prop} (hp:ra F x K) :
  ∃ F' ag cs V φ',K F' ag cs∧aZ w0 M S0 N S φ' F' a w∧bo w S V ag cs (a.eval x)∧Free w0 M S φ' w V∧(∀ t b o,φ' t b o→φ t b o)∧(∀ b o,V b o→∃ t,φ t b o):=by
 obtain⟨ag,cs,Y,hK,hv,-⟩:=h.val (h.ev x) hp
 cases hn:aQ cs with
 | true=>rw[hn]at hK;exact⟨F,ag,cs,NO,φ,hK,h,hv.bare hn,fun _ _ h=>h.elim,fun _ _ _ h=>h,fun _ _ h=>h.elim⟩
 | false=>rw[hn]at hK;exact h.taken hK
theorem aZ.fillW {pl:Nat→Option (Nat × Nat)} : ∀ {parts:List (Nat × Operand)} {cs:List C} {K:(Nat→AV)→List C→Prop} {F:Nat→AV} {φ:Nat→ab} {u:Nat→Value} {cells:Array Value} {Y:ab},aZ w0 M S0 N S φ F a w→Ab.fillW pl parts cs K F→cm w S Y cs u→Free w0 M S φ w Y→
  cells.toList=(List.range cs.length).map u→
  ∃ F' φ' cs' u' cells' Y',K F' cs'∧aZ w0 M S0 N S φ' F' a w∧cs'.length=cs.length∧cm w S Y' cs' u'∧Free w0 M S φ' w Y'∧Instr.fill pl cells (parts.map fun p=>(p.1,a.eval p.2))=some cells'∧cells'.toList=(List.range cs'.length).map u'
 | [],cs,K,F,φ,u,cells,Y,h,hp,hr,hY,hc=>⟨F,φ,cs,u,cells,Y,hp,h,rfl,hr,hY,rfl,hc⟩
 | p::rest,cs,K,F,φ,u,cells,Y,h,hp,hr,hY,hc=>by
  simp only[Ab.fillW]at hp
  split at hp
  case h_2=>exact hp.elim
  rename_i q hq
  obtain⟨F',ag,xs,V,φ',hK,h',hv,hV,hs,hVt⟩:=h.give hp
  cases hb:(Nat.beq xs.length q.2&&Nat.ble (q.1+q.2) cs.length) with
  | false=>rw[hb]at hK;exact hK.elim
  | true=>
   rw[hb]at hK
   simp only[Bool.and_eq_true]at hb
   have h1:=Nat.eq_of_beq_eq_true hb.1
   have h2:=Nat.le_of_ble_eq_true hb.2
   simp only[cond_true,dM]at hK
   obtain⟨u2,hu2,hr2⟩:=hv.cells
   obtain⟨cells1,hf,hc1⟩:=vH (rest:=rest.map fun p=>(p.1,a.eval p.2)) hq hc hu2 h1 h2
   have hr3:=hr.join hr2 (off:=q.1) (by omega) (fun b o hb hb'=>by obtain⟨t,ht⟩:=hVt b o hb';exact(hY b o hb).1 t ht)
   obtain⟨F2,φ2,cs',u',cells',Y',e1,e2,e3,e4,e5,e6,e7⟩:=aZ.fillW h' hK hr3 ((hY.less hs).or hV) hc1
   exact⟨F2,φ2,cs',u',cells',Y',e1,e2,by rw[e3,cL (by omega)],e4,e5,by rw[List.map_cons,hf];exact e6,e7⟩
theorem aZ.putD_free (h:aZ w0 M S0 N S φ F a w) {d:Nat} {k:Kd} {cs:List C} {v:Value} {X:ab} {K:(Nat→AV)→Prop} (hv:cb w S F (tvs a) X (.hold k cs) v) (hX:Free w0 M S φ w X) (hp:bA N F d (.hold k cs) K) :
  ∃ F2,K F2∧St w0 M S0 N F2 (a.put (some d) v) w:=by
 unfold bA at hp
 cases hc:(N.free d&&!(AV.hold k cs).uses d) with
 | false=>rw[hc]at hp;exact hp.elim
 | true=>
  rw[hc]at hp
  simp only[Bool.and_eq_true,Bool.not_eq_true']at hc
  exact⟨_,hp,S,_,h.put_gen (bu.refl _ _) hc.1 hv hc.2 (fun b o hb=>(hX b o hb).2.2) (fun t _ b o hb=>(hX b o hb).1 t) (fun b o hb=>(hX b o hb).2.1)⟩
theorem Aj {zero:List C} {cells:Array Value} (hc:cells.toList=zero.map cval):cells.toList=(List.range zero.length).map (fun j=>(zero.map cval).getD j undef):=by
 rw[hc]
 apply List.ext_getElem?
 intro j
 rw[List.getElem?_map,List.getElem?_map]
 by_cases hj:j<zero.length
 ·rw[List.getElem?_range hj,List.getElem?_eq_getElem hj];simp[List.getD,hj]
 ·rw[List.getElem?_eq_none (by omega),List.getElem?_eq_none (by simp;omega)];rfl
theorem aZ.buildW (h:aZ w0 M S0 N S φ F a w) (hTE:∀ t i,TE t=some i→b9 P t i) {d T:Nat} {parts:Array (Nat × Operand)} {K:(Nat→AV)→Prop} (hp:iO TE N F d T parts.toList K) :
  ∃ v F',K F'∧(Instr.build T (parts.map fun(i,x)=>(i,a.eval x))).run P w=.ok v w∧St w0 M S0 N F' (a.put (some d) v) w:=by
 unfold iO at hp
 split at hp
 case h_2=>exact hp.elim
 rename_i size bytes zero flds hT
 cases ha:tp TE flds with
 | false=>rw[ha]at hp;exact hp.elim
 | true=>
  rw[ha]at hp
  have hzo:=(hTE _ _ hT).2.1
  obtain⟨F',φ',cs',u',cells',Y',e1,e2,e3,e4,e5,e6,e7⟩:=aZ.fillW h hp (mq hzo S) (fun _ _ h=>h.elim) (Aj (cells:=(zero.map cval).toArray) (by simp))
  have hsz:cells'.size=cs'.length:=by have:=congrArg List.length e7;simpa using this
  have hval:bo w S Y' (some cs'.length) cs' (.agg cells'):=⟨rfl,u',by simp only[mkv];congr 1;apply Array.ext';rw[e7],e4⟩
  obtain⟨F2,hK,hst⟩:=e2.putD_free hval.slot e5 e1
  refine⟨.agg cells',F2,hK,rH hTE hT ha fun cells hc=>?_,hst⟩
  have:cells=(zero.map cval).toArray:=by apply Array.ext';simpa using hc
  rw[this,Array.toList_map]
  exact e6
theorem aZ.buildSW (h:aZ w0 M S0 N S φ F a w) (hTE:∀ t i,TE t=some i→b9 P t i) {d T n:Nat} {parts:Array (Nat × Operand)} {K:(Nat→AV)→Prop} (hp:gw TE N F d T n parts.toList K) :
  ∃ v w1 F',K F'∧(Instr.buildSlice T n (parts.map fun(i,x)=>(i,a.eval x))).run P w=.ok v w1∧St w0 M S0 N F' (a.put (some d) v) w1:=by
 obtain⟨e,ie,q,z,hK,he,hu,ht,hl,hpos,hi,hz,hzc,hsz,hby,hzs⟩:=jE hTE hp
 cases hb:Nat.ble (n*ie.size) 16777216 with
 | false=>rw[hb]at hK;exact hK.elim
 | true=>
  rw[hb]at hK
  have hle:=Nat.le_of_ble_eq_true hb
  simp only[cond_true]at hK
  split at hK
  ·rename_i hparts
   have:parts = #[]:=by apply Array.ext';simpa using hparts
   subst this
   have h':=h.world (w1:=w.alloc (.cells #[] e)) (cz w _) (fun _ _ h=>h.elim)
   obtain⟨F2,hK2,hst⟩:=h'.putD_free (X:=NO) (v:=.slice (some ⟨w.heap.size,0,none⟩) 0 0) (eJ (.z _ _)) (fun _ _ h=>h.elim) hK
   exact⟨_,_,F2,hK2,by rw[Array.map_empty];exact qX hu hi,hst⟩
  ·rename_i n
   rw[Nat.succ_eq_add_one]at hle
   rw[dM]at hK
   obtain⟨F',φ',cs',u',cells',Y',e1,e2,e3,e4,e5,e6,e7⟩:=aZ.fillW h hK (pG ht.2.1 S _) (fun _ _ h=>h.elim) (mu hzc (by omega) (rep ie.zero (n+1)).length)
   rw[ow]at e1
   have hcl:cs'.length=(n+1)*ie.size:=by rw[e3,lf,hl]
   have h':=e2.world (w1:=w.alloc (.cells cells' e)) (cz w _) (fun _ _ h=>h.elim)
   have hrep:=sA (e:=e) e4 hcl (by omega) e7 (fun b o hb=>(e2.sup b o hb).1) (fun b o hb=>(e5 b o hb).2.2.1)
   obtain⟨F2,hK2,hst⟩:=h'.putD_free (eJ hrep) (fun b o hb=>by
     rcases hb with hb|hb
     · obtain⟨a1,a2,a3,a4⟩:=e5 b o hb
       exact⟨a1,a2,by rw[ek];omega,a4⟩
     · exact⟨fun t ht=>by have:=(e2.ex t b o ht).1;omega,fun hS=>by have:=(e2.sup b o hS).1;omega,hb.2,.inl (Nat.le_trans e2.old.size hb.1)⟩) e1
   refine⟨_,_,F2,hK2,run_buildSlice w T e (n+1) _ cells' q z hu hi hz (by rw[hsz];omega) (by rw[hsz];have:0<(n+1)*ie.size:=Nat.mul_pos (by omega) hpos;omega) ?_,hst⟩
   rw[hsz,Array.toList_map]
   rw[lf,hl]at e6
   exact e6
  ·exact hK.elim
theorem aZ.boxW (h:aZ w0 M S0 N S φ F a w) {d T:Nat} {x:Operand} {K:(Nat→AV)→Prop} (hp:EU N F d x K) :
  ∃ v w1 F',K F'∧(Instr.box T (a.eval x)).run P w=.ok v w1∧St w0 M S0 N F' (a.put (some d) v) w1:=by
 obtain⟨F1,ag,cs,V,φ',hK,h',hv,hV,hs,hVt⟩:=h.give hp
 obtain⟨u,hu,hr⟩:=hv.cells
 have hsz:(a.eval x).cells.size=cs.length:=by have:=congrArg List.length hu;simpa using this
 have h2:=h'.world (w1:=w.alloc (.cells (a.eval x).cells T)) (cz w _) (fun _ _ h=>h.elim)
 have hcell:∀ j,j<cs.length→cel (w.alloc (.cells (a.eval x).cells T)) w.heap.size j=some (u j):=fun j hj=>by
  rw[f0,←Array.getElem?_toList,hu,List.getElem?_map,List.getElem?_range hj];rfl
 have hVlt:∀ b o,V b o→b<w.heap.size:=fun b o hb=>(hV b o hb).2.2.1
 obtain⟨F2,hK2,hst⟩:=h2.putD_free (X:=fun b o=>V b o∨(b=w.heap.size∧o<cs.length)) (k:=.box) (cs:=cs) (v:=.pointer (some ⟨w.heap.size,0,none⟩)) (F:=F1) ⟨fun b o=>b=w.heap.size∧o<cs.length,V,fun _ _ h=>.inr h,fun _ _ h=>.inl h,fun b o hb hb'=>by have:=hVlt b o hb';omega,
   ⟨_,_,rfl,fun j hj=>⟨⟨rfl,by omega⟩,by rw[Nat.zero_add];exact⟨_,hcell j hj⟩,by rw[Nat.zero_add,gK]⟩⟩,(hr.keep (fS (cz w _) fun b o hb=>(h'.sup b o hb).1) (fS (cz w _) hVlt)).congr fun j hj=>by simp only[cA,Nat.zero_add,hcell j hj,Option.getD_some]⟩ (fun b o hb=>by
   rcases hb with hb|hb
   · obtain⟨a1,a2,a3,a4⟩:=hV b o hb
     exact⟨a1,a2,by rw[ek];omega,a4⟩
   · exact⟨fun t ht=>by have:=(h'.ex t b o ht).1;omega,fun hS=>by have:=(h'.sup b o hS).1;omega,by rw[ek];omega,.inl (by rw[hb.1];exact h'.old.size)⟩) hK
 exact⟨_,_,F2,hK2,by simp[Instr.box,newVar,newRow],hst⟩
theorem aZ.src (h:aZ w0 M S0 N S φ F a w) {y:Operand} {sz:Nat} {K:Bool→(Nat→AV)→List (List C)→Prop} (hp:wQ F y K) :
  ∃ fl F' xr φ',K fl F' xr∧aZ w0 M S0 N S φ' F' a w∧(∀ t b o,φ' t b o→φ t b o)∧((∀ r∈xr,r.length=sz)→(fl=true→∀ r∈xr,aQ r=true)→
    ∃ b c u2 f2 V,a.eval y=.slice b xr.length c∧mj w b (xr.length*sz) ((List.range (xr.length*sz)).map u2)∧xD w S V xr sz u2 f2∧Free w0 M S φ' w V∧(∀ b o,V b o→∃ t,φ t b o)):=by
 unfold wQ at hp
 split at hp
 ·obtain⟨F',ag,cs,V,φ',hK,h',hv,hV,hs,hVt⟩:=h.taken hp
  match ag,cs,hK with
  | none,[.s .own rows],hK=>
   refine⟨false,F',rows,φ',hK,h',hs,fun hk _=>?_⟩
   rcases hv.rep1.els (by simp) hk with⟨rfl,a0,e⟩|⟨g,cap,u,f,e,hpos,hcap,hcell,hu,hE⟩
   ·exact⟨a0,0,fun _=>undef,fun _=>NO,NO,e,⟨by simp,fun _=>by simp,fun ad j u _ hj=>by simp at hj⟩,⟨fun r hr=>(by cases hr),fun _ _ _ _ h=>h.elim,fun _ _ _ _ _ _ _ h=>h.elim,fun i j r c hi=>(by simp at hi)⟩,fun _ _ h=>h.elim,fun _ _ h=>h.elim⟩
   ·refine⟨_,cap,u,f,_,e,⟨by simp,fun h=>(by cases h),fun ad j y had hj=>?_⟩,hE,fun b o hb=>hV b o hb.1,fun b o hb=>hVt b o hb.1⟩
    cases had
    rw[List.getElem?_map]at hj
    have hjl:j<rows.length*sz:=by
     rcases Nat.lt_or_ge j (rows.length*sz) with h|h
     ·exact h
     ·rw[List.getElem?_eq_none (by simpa using h)]at hj;cases hj
    rw[List.getElem?_range hjl]at hj
    simp only[Option.map_some,Option.some.injEq]at hj
    subst hj
    rw[gU,Nat.zero_add]
    exact hu j hjl
 ·obtain⟨ag,cs,Y,hK,hv,-⟩:=h.val (h.ev y) hp
  match ag,cs,hK with
  | none,[.s o rows],hK=>
   refine⟨true,F,rows,φ,hK,h,fun _ _ _ h=>h,fun hk hn=>?_⟩
   obtain⟨b,c,u,e1,e2,e3⟩:=hv.rep1.flat (fun r hr=>⟨hk r hr,hn rfl r hr⟩)
   exact⟨b,c,u,_,NO,e1,e2,e3,fun _ _ h=>h.elim,fun _ _ h=>h.elim⟩
  | none,[.z],hK=>
   obtain⟨b,hb⟩:=tA hv.rep1
   exact⟨true,F,[],φ,hK,h,fun _ _ _ h=>h,fun _ _=>⟨b,0,fun _=>undef,fun _=>NO,NO,hb,⟨by simp,fun _=>by simp,fun ad j u _ hj=>by simp at hj⟩,⟨fun r hr=>(by cases hr),fun _ _ _ _ h=>h.elim,fun _ _ _ _ _ _ _ h=>h.elim,fun i j r c hi=>(by simp at hi)⟩,fun _ _ h=>h.elim,fun _ _ h=>h.elim⟩⟩
theorem aZ.base (h:aZ w0 M S0 N S φ F a w) {x:Operand} {K:(Nat→AV)→List (List C)→Prop} (hp:vc F x K) :
  ∃ F' rows φ' V,K F' rows∧aZ w0 M S0 N S φ' F' a w∧(∀ t b o,φ' t b o→φ t b o)∧dK w S V (.s .own rows) (a.eval x)∧Free w0 M S φ' w V∧(∀ b o,V b o→∃ t,φ t b o):=by
 obtain⟨ag,cs,Y,hK,hv,-⟩:=h.val (h.ev x) hp
 match ag,cs,hK with
 | none,[.z],hK=>
  obtain⟨b,hb⟩:=tA hv.rep1
  exact⟨F,[],φ,NO,hK,h,fun _ _ _ h=>h,by rw[hb];exact .nil _ _ _ trivial,fun _ _ h=>h.elim,fun _ _ h=>h.elim⟩
 | none,[.s .own _],hK=>
  obtain⟨F',ag,cs,V,φ',hK,h',hv,hV,hs,hVt⟩:=h.taken hK
  match ag,cs,hK with
  | none,[.s .own rows],hK=>exact⟨F',rows,φ',V,hK,h',hs,hv.rep1,hV,hVt⟩
theorem aZ.appW (h:aZ w0 M S0 N S φ F a w) (hTE:∀ t i,TE t=some i→b9 P t i) {d T ty:Nat} {x y:Operand} {K:(Nat→AV)→Prop} (hp:uY TE N F d T x y K) :
  ∃ v w1 F',K F'∧(Builtin.append_ #[T,T] ty #[a.eval x,a.eval y]).run P w=.ok v w1∧St w0 M S0 N F' (a.put (some d) v) w1:=by
 obtain⟨e,ie,q,z,hK,he,hu,ht,hl,hpos,hi,hz,hzc,hsz,hby,hzs⟩:=jE hTE hp
 obtain⟨fl,F1,xr,φ1,hK,s1,hs1,hsrc⟩:=h.src (sz:=ie.size) hK
 obtain⟨F2,rows,φ2,V,hK,s2,hs2,hrep,hV,hVt⟩:=s1.base hK
 obtain⟨h1,h2,h3,h4,h5,hK⟩:=hK.out
 obtain⟨b,c,u2,f2,V2,hy,hR,hE,hV2,hVt2⟩:=hsrc h2 h3
 have hz1:∀ x∈z.cells.toList,x.oneCell'=true:=by rw[hzc];exact zD ht.2.1
 rw[←hsz]at hR hE
 obtain⟨v',w',hrun,hkk,hrep'⟩:=sV (P:=P) (ty:=ty) (c:=c) hu hi hz hzs hz1 hrep (by rw[hsz];exact h1) hE hR (fun b o hb hb'=>by obtain⟨t,ht⟩:=hVt b o hb;exact(hV2 b o hb').1 t ht) (fun b o hb=>(hV b o hb).2.1) (fun b o hb=>(hV b o hb).2.2.1)
  (fun b o hb=>(hV2 b o hb).2.2.1) (fun b o hb=>(s2.sup b o hb).1) h4 (by rw[hby];exact h5)
 have s3:=s2.world hkk hV
 obtain⟨F3,hK3,hst⟩:=s3.putD_free (eJ hrep') (fun b o hb=>by
   rcases hb with hb|hb|hb
   · obtain⟨a1,a2,a3,a4⟩:=hV b o hb
     exact⟨a1,a2,Nat.lt_of_lt_of_le a3 hkk.size,a4⟩
   · obtain⟨a1,a2,a3,a4⟩:=(hV2.less hs2) b o hb
     exact⟨a1,a2,Nat.lt_of_lt_of_le a3 hkk.size,a4⟩
   · exact⟨fun t ht=>by have:=(s2.ex t b o ht).1;omega,fun hS=>by have:=(s2.sup b o hS).1;omega,hb.2,.inl (Nat.le_trans s2.old.size hb.1)⟩) hK
 exact⟨v',w',F3,hK3,by rw[hy];exact hrun,hst⟩
end
end Go.Proofs.YtogajjgmcnjkbaaGreat.Ab
namespace Go.Proofs.YtogajjgmcnjkbaaGreat.Ab
open Go.RowKit
inductive MA where
 |val (ag:Option Nat) (cs:List C)
 |mut (ag:Option Nat) (cs:List C)
 |ptr (cs:List C)
def wx (w:World) (S V:ab):MA→Value→Prop
 | .val ag cs,v=>bo w S NO ag cs v
 | .mut ag cs,v=>bo w S V ag cs v
 | .ptr cs,v=>∃ X1 Y:ab,(∀ b o,X1 b o→V b o)∧(∀ b o,Y b o→V b o)∧(∀ b o,X1 b o→¬Y b o)∧fI w X1 .box cs.length v∧cm w S Y cs (cA w .box v)
def Hv (w:World) (S:ab):(Nat→ab)→List MA→List Value→Prop
 | _,[],[]=>True
 | V,m::ms,v::vs=>wx w S (V 0) m v∧Hv w S (fun i=>V (i+1)) ms vs
 | _,_,_=>False
def AF (w:World) (S V:ab):MA→Value→Prop
 | .val _ _,_=>True
 | m,v=>wx w S V m v
def zk (w:World) (S:ab):(Nat→ab)→List MA→List Value→Prop
 | _,[],[]=>True
 | V,m::ms,v::vs=>AF w S (V 0) m v∧zk w S (fun i=>V (i+1)) ms vs
 | _,_,_=>False
structure bm (P:Program) (f:Nat) (sh:Bool) (A B:List MA) (k:Kd) (rcs:List C):Prop where
 has:G7 P f
 run:∀ (w:World) (S:ab) (V:Nat→ab) (vs:List Value),(∀ b o,S b o→b<w.heap.size)→(∀ i b o,V i b o→b<w.heap.size∧¬S b o)→(∀ i i',i≠i'→∀ b o,V i b o→¬V i' b o)→Hv w S V A vs→
  Calls P f vs.toArray w fun e w1=>∃ v,e=.returned v∧bu (fun b o=>∃ i,V i b o) w w1∧∃ (X:ab) (V':Nat→ab) (S1:ab),
   (∀ b o,X b o→(∃ i,V i b o)∨(b<w1.heap.size∧w.heap.size≤b))∧(∀ i b o,V' i b o→(∃ i,V i b o)∨(b<w1.heap.size∧w.heap.size≤b))∧
   (∀ b o,S1 b o→(sh=true∧S b o)∨(∃ i,V i b o)∨(b<w1.heap.size∧w.heap.size≤b))∧
   (∀ i i',i≠i'→∀ b o,V' i b o→¬V' i' b o)∧(∀ i b o,X b o→¬V' i b o)∧(∀ b o,X b o→¬S1 b o)∧(∀ i b o,V' i b o→¬S1 b o)∧
   fI w1 NO k rcs.length v∧cm w1 S1 X rcs (cA w1 k v)∧zk w1 (fun b o=>S b o∨S1 b o) V' B vs
inductive uR where
 |no
 |at_ (t off:Nat) (st:bW)
 |box (t:Nat)
def lendAt (F:Nat→AV) (t off:Nat) (st:bW) (n:Nat) (K:(Nat→AV)→List C→Prop):Prop:=
 match F t with
 | .hold k bs=>(match st with
   | []=>bif Nat.ble (off+n) bs.length then fc (bp bs off n) fun cs=>fc (splice bs off (List.replicate n .x)) fun bs'=>K (updH F t k bs') cs else False
   | s::st=>Lq bs off (s::st) n fun cs bs'=>K (updH F t k bs') cs)
 | _=>False
def lendP:List (Operand × Nat)→((Nat→AV)→List (MA × uR)→Prop)→(Nat→AV)→Prop
 | [],K,F=>K F []
 | (_,0)::xs,K,F=>lendP xs (fun F' l=>K F' ((.val none [],.no)::l)) F
 | (x,1)::xs,K,F=>(match x with
   | .tmp s=>(match F s with
     | .hold .one _=>lendAt F s 0 [] 1 fun F1 cs=>lendP xs (fun F' l=>K F' ((.mut none cs,.at_ s 0 [])::l)) F1
     | .hold .agg cs0=>lendAt F s 0 [] cs0.length fun F1 cs=>lendP xs (fun F' l=>K F' ((.mut (some cs0.length) cs,.at_ s 0 [])::l)) F1
     | .bor t off st ag=>lendAt F t off st (ag.getD 1) fun F1 cs=>lendP xs (fun F' l=>K F' ((.mut ag cs,.at_ t off st)::l)) F1
     | _=>False)
   | _=>False)
 | (x,_+2)::xs,K,F=>(match x with
   | .tmp s=>(match F s with
     | .ref t 0 []=>(match F t with|.hold .box cs=>lendP xs (fun F' l=>K F' ((.ptr cs,.box t)::l)) (kill F t)|_=>False)
     | .hold .box cs=>lendP xs (fun F' l=>K F' ((.ptr cs,.box s)::l)) (kill F s)
     | _=>False)
   | _=>False)
def J7:C→C
 | .s (.tag _) rows=>.s .own rows
 | c=>c
def HP:List C→List C
 | []=>[]
 | c::cs=>J7 c::HP cs
def JL:MA→MA
 | .mut ag cs=>.mut ag (HP cs)
 | m=>m
def JB:C→C→C
 | .s (.tag z) _,.s .own rows=>.s (.tag z) rows
 | _,o=>o
def G9:List C→List C→List C
 | c::cs,o::os=>JB c o::G9 cs os
 | _,os=>os
def JD:MA→List C
 | .val _ cs=>cs
 | .mut _ cs=>cs
 | .ptr cs=>cs
theorem xk:∀ (cs:List C),HP cs=cs.map J7
 | []=>rfl
 | c::cs=>by simp[HP,xk cs]
theorem oJ:∀ (cs os:List C),(G9 cs os).length=os.length
 | [],os=>by cases os<;>rfl
 | c::cs,[]=>rfl
 | c::cs,o::os=>by simp[G9,oJ cs os]
theorem Dv:∀ {cs os:List C} {j:Nat} {c':C},(G9 cs os)[j]? = some c'→∃ o,os[j]? = some o∧(c'=o∨∃ z r rows,cs[j]? = some (.s (.tag z) r)∧o=.s .own rows∧c'=.s (.tag z) rows)
 | [],os,j,c',h=>by
  have:G9 [] os=os:=by cases os<;>rfl
  rw[this]at h
  exact⟨c',h,.inl rfl⟩
 | c::cs,[],j,c',h=>by simp[G9]at h
 | c::cs,o::os,0,c',h=>by
  simp only[G9,List.getElem?_cons_zero,Option.some.injEq]at h
  refine⟨o,rfl,?_⟩
  unfold JB at h
  split at h
  ·rename_i z r rows
   exact .inr ⟨z,r,rows,rfl,rfl,h.symm⟩
  ·exact .inl h.symm
 | c::cs,o::os,j+1,c',h=>by
  simp only[G9,List.getElem?_cons_succ]at h ⊢
  exact Dv h
theorem dK.ut {w:World} {S Y:ab} {c:C} {v:Value} (h:dK w S Y c v):dK w S Y (J7 c) v:=by
 cases c with
 | s o rows=>
  cases o with
  | tag z=>
   cases h with
   | nil _ o a ho=>exact .nil _ _ _ trivial
   | own _ o g k n cap rows u f ho hn hk hcap hpos hF hu hf hd hc=>exact .own _ _ g k n cap rows u f trivial hn hk hcap hpos hF hu hf hd hc
  | _=>exact h
 | _=>exact h
theorem dK.tagOf {w:World} {S Y:ab} {z v:Value} {rows:List (List C)} (h:dK w S Y (.s (.tag z) rows) v):z=v:=by
 cases h with
 | nil _ o a ho=>exact ho
 | own _ o g k n cap rows u f ho hn hk hcap hpos hF hu hf hd hc=>exact ho
theorem dK.rt {w:World} {S Y:ab} {z v:Value} {rows:List (List C)} (h:dK w S Y (.s .own rows) v) (hz:z=v):dK w S Y (.s (.tag z) rows) v:=by
 cases h with
 | nil _ o a ho=>exact .nil _ _ _ hz
 | own _ o g k n cap rows u f ho hn hk hcap hpos hF hu hf hd hc=>exact .own _ _ g k n cap rows u f hz hn hk hcap hpos hF hu hf hd hc
theorem cm.ut {w:World} {S Y:ab} {cs:List C} {u:Nat→Value} (h:cm w S Y cs u):cm w S Y (HP cs) u:=by
 obtain⟨f,h1,h2,h3⟩:=h
 rw[xk]
 refine⟨f,fun j c hj=>?_,fun j hj=>h2 j (by simpa using hj),fun j j' hj hj'=>h3 j j' (by simpa using hj) (by simpa using hj')⟩
 rw[List.getElem?_map]at hj
 cases hc:cs[j]? with
 | none=>rw[hc]at hj;cases hj
 | some c0=>
  rw[hc]at hj
  simp only[Option.map_some,Option.some.injEq]at hj
  subst hj
  exact(h1 j c0 hc).ut
theorem cm.rt {w w1:World} {S S' Y Y':ab} {cs os:List C} {u u':Nat→Value} (h:cm w S Y cs u) (h':cm w1 S' Y' os u') (hu:∀ d,d<os.length→u' d=u d):cm w1 S' Y' (G9 cs os) u':=by
 obtain⟨f,h1,h2,h3⟩:=h
 obtain⟨f',h1',h2',h3'⟩:=h'
 refine⟨f',fun j c hj=>?_,fun j hj=>h2' j (by rwa [oJ]at hj),fun j j' hj hj'=>h3' j j' (by rwa [oJ]at hj) (by rwa [oJ]at hj')⟩
 obtain⟨o,ho,h4⟩:=Dv hj
 have hjl:=(List.getElem?_eq_some_iff.1 ho).1
 rcases h4 with rfl|⟨z,r,rows,e1,rfl,rfl⟩
 ·exact h1' j _ ho
 ·exact(h1' j _ ho).rt ((h1 j _ e1).tagOf.trans (hu j hjl).symm)
def valsP (F:Nat→AV):List (MA × uR)→List Operand→(Bool→List MA→Prop)→Prop
 | [],[],K=>K true []
 | (_,.no)::l,x::xs,K=>gx F (lW F x) fun ag cs=>valsP F l xs fun b A=>bif aQ cs then K b (.val ag cs::A) else K false (.val ag (dV cs)::A)
 | (m,.at_ _ _ _)::l,_::xs,K=>valsP F l xs fun b A=>K b (JL m::A)
 | (m,.box _)::l,_::xs,K=>valsP F l xs fun b A=>K b (m::A)
 | _,_,_=>False
def AY (F:Nat→AV) (t:Nat) (av:AV):Nat→AV:=fun s=>bif Nat.beq s t then av else F s
def uR.slot:uR→List Nat
 | .no=>[]
 | .at_ t _ _=>[t]
 | .box t=>[t]
def vj:List (MA × uR)→Bool
 | []=>true
 | q::l=>(q.2.slot.all fun t=>l.all fun q'=>!q'.2.slot.any (Nat.beq t))&&vj l
def jV:List (MA × uR)→List MA→((Nat→AV)→Prop)→(Nat→AV)→Prop
 | [],[],K,F=>K F
 | (_,.no)::l,_::B,K,F=>jV l B K F
 | (m,.at_ t off st)::l,.mut _ out::B,K,F=>(match F t with
   | .hold k bs=>(match st with
     | []=>bif Nat.ble (off+out.length) bs.length then fc (splice bs off (G9 (JD m) out)) fun bs'=>jV l B K (updH F t k bs') else False
     | s::st=>Pu bs off (s::st) out fun bs'=>jV l B K (updH F t k bs'))
   | _=>False)
 | (_,.box t)::l,.ptr out::B,K,F=>(match F t with
   | .dead=>jV l B K (AY F t (.hold .box out))
   | _=>False)
 | _,_,_,_=>False
def y9:List MA→Prop
 | []=>True
 | .val _ _::B=>y9 B
 | .mut _ cs::B=>fK cs∧y9 B
 | .ptr cs::B=>fK cs∧y9 B
inductive dZ (P:Program) (f:Nat) (b:Bool) (A:List MA) (K:Kd→List C→List MA→Prop):Prop
 |mk_ (h:∃ sh B k rcs,bm P f sh A B k rcs∧(b=true∨(sh=false∧y9 B))∧K k rcs B)
theorem dZ.mk {P:Program} {f:Nat} {b sh:Bool} {A B:List MA} {k:Kd} {rcs:List C} {K:Kd→List C→List MA→Prop} (h:bm P f sh A B k rcs) (hb:b=true∨(sh=false∧y9 B)) (hK:K k rcs B):dZ P f b A K:=by refine .mk_ ?_;exact⟨sh,B,k,rcs,h,hb,hK⟩
theorem dZ.out {P:Program} {f:Nat} {b:Bool} {A:List MA} {K:Kd→List C→List MA→Prop} (h:dZ P f b A K):∃ sh B k rcs,bm P f sh A B k rcs∧(b=true∨(sh=false∧y9 B))∧K k rcs B:=by obtain⟨h⟩:=h;exact h
def rR (P:Program) (N:fq) (F:Nat→AV) (d:Option Nat) (f:Nat) (args:List Operand) (modes:List Nat) (K:(Nat→AV)→Prop):Prop:=
 lendP (args.zip modes) (fun F' l=>bif vj l&&Nat.beq args.length modes.length then valsP F' l args fun b A=>dZ P f b A fun k rcs B=>jV l B (fun F''=>match d with|some d=>bA N F'' d (.hold k rcs) K|none=>K F'') F' else False) F
section
variable {P:Program} {w0 w w1:World} {M S0 S:ab} {N:fq} {φ:Nat→ab} {F:Nat→AV} {a:Act} {TE:Nat→Option TI}
theorem aZ.addS (h:aZ w0 M S0 N S φ F a w) {V S':ab} (hV:Free w0 M S φ w V) (hSS:∀ b o,S b o→S' b o) (hS':∀ b o,S' b o→S b o∨V b o):aZ w0 M S0 N S' φ F a w:=by
 refine⟨fun t=>(h.slot t).keep (φ:=φ) (fun t _ _ _=>h.slot t) (fun t _=>⟨fun _ _ h=>h,rfl,fun _ _ _=>⟨rfl,rfl⟩⟩) (fun _ _ _=>⟨rfl,rfl⟩) (fun _ _ _=>⟨rfl,rfl⟩) (fun _ _ h=>h) hSS,h.dis,fun t b o hb hS=>?_,h.ex,fun b o hb=>hSS b o (h.sub b o hb),fun b o hb=>?_,h.old,h.size,h.defers,h.par⟩
 ·rcases hS' b o hS with hS|hS
  ·exact h.disS t b o hb hS
  ·exact(hV b o hS).1 t hb
 ·rcases hS' b o hb with hb|hb
  ·exact h.sup b o hb
  ·exact⟨(hV b o hb).2.2.1,.inr (hV b o hb).2.2.2⟩
theorem DL (F:Nat→AV) (t:Nat) (av:AV):AY F t av t=av:=by simp[AY]
theorem ol (F:Nat→AV) {t s:Nat} (av:AV) (h:s≠t):AY F t av s=F s:=by
 have:Nat.beq s t=false:=by rw[←Bool.not_eq_true,Nat.beq_eq];exact h
 simp[AY,this]
theorem aZ.revive (h:aZ w0 M S0 N S φ F a w) {t:Nat} (hF:F t=.dead) {k:Kd} {cs:List C} {X:ab} (hX:Free w0 M S φ w X) (hs:cb w S F (tvs a) X (.hold k cs) (tvs a t)) :
  aZ w0 M S0 N S (fun s=>if s=t then X else φ s) (AY F t (.hold k cs)) a w:=by
 have hno:∀ s,(F s).uses t=true→cb w S (AY F t (.hold k cs)) (tvs a) (φ s) (F s) (tvs a s):=fun s hu=>by
  have hsl:=h.slot s
  cases hFs:F s with
  | dead=>rw[hFs]at hu;cases hu
  | hold=>rw[hFs]at hu;cases hu
  | iref=>rw[hFs]at hu;cases hu
  | ref t' off st=>
   rw[hFs]at hu hsl
   have:t'=t:=by simpa[AV.uses] using hu
   subst this
   obtain⟨k,cs,r,j,g,o,h1,-⟩:=hsl
   rw[hF]at h1;cases h1
  | bor t' off st ag=>
   rw[hFs]at hu hsl
   have:t'=t:=by simpa[AV.uses] using hu
   subst this
   obtain⟨k,cs,r,j,h1,-⟩:=hsl
   rw[hF]at h1;cases h1
  | fn f caps=>rw[hFs]at hsl;exact hsl
  | fv Ok=>rw[hFs]at hsl;exact hsl
 refine⟨fun s=>?_,fun s s' hne b o hb hb'=>?_,fun s b o hb=>?_,fun s b o hb=>?_,h.sub,h.sup,h.old,h.size,h.defers,h.par⟩
 ·by_cases hst:s=t
  ·subst hst
   rw[DL,if_pos rfl]
   exact hs
  ·rw[ol _ _ hst,if_neg hst]
   cases hu:(F s).uses t with
   | true=>exact hno s hu
   | false=>
    refine(h.slot s).keep (φ:=φ) (fun t _ _ _=>h.slot t) (fun t' hu'=>?_) (fun _ _ _=>⟨rfl,rfl⟩) (fun _ _ _=>⟨rfl,rfl⟩) (fun _ _ h=>h) (fun _ _ h=>h)
    have hne:t'≠t:=fun e=>by subst e;rw[hu]at hu';cases hu'
    exact⟨fun k cs he=>by rw[ol _ _ hne];exact he,rfl,fun _ _ _=>⟨rfl,rfl⟩⟩
 ·by_cases e:s=t
  ·rw[if_pos e]at hb
   by_cases e':s'=t
   ·exact hne (e.trans e'.symm)
   ·rw[if_neg e']at hb';exact(hX b o hb).1 s' hb'
  ·rw[if_neg e]at hb
   by_cases e':s'=t
   ·rw[if_pos e']at hb';exact(hX b o hb').1 s hb
   ·rw[if_neg e']at hb';exact h.dis s s' hne b o hb hb'
 ·split at hb
  ·exact(hX b o hb).2.1
  ·exact h.disS s b o hb
 ·split at hb
  ·exact(hX b o hb).2.2
  ·exact h.ex s b o hb
def dD (F F':Nat→AV):Prop:=∀ s k cs,F' s=.hold k cs→∃ cs0,F s=.hold k cs0
theorem dD.trans {F F' F'':Nat→AV} (h:dD F F') (h':dD F' F''):dD F F'':=fun s k cs e=>by obtain⟨c1,e1⟩:=h' s k cs e;exact h s k c1 e1
theorem nv {t:Nat} {k:Kd} {bs bs':List C} (hF:F t=.hold k bs):dD F (updH F t k bs'):=fun s k2 cs e=>by
 by_cases h:s=t
 ·subst h;rw[fg]at e;cases e;exact⟨bs,hF⟩
 ·rw[dR _ _ _ h]at e
  cases hFs:F s with
  | hold k3 cs3=>rw[hFs]at e;simp only[pa]at e;cases e;exact⟨_,rfl⟩
  | dead=>rw[hFs]at e;cases e
  | iref=>rw[hFs]at e;cases e
  | fn=>rw[hFs]at e;cases e
  | fv=>rw[hFs]at e;cases e
  | bor t' off st ag=>rw[hFs]at e;simp only[pa]at e;cases hb:Nat.beq t' t<;>rw[hb]at e<;>cases e
  | ref t' off st=>
   rw[hFs]at e
   cases st with
   | nil=>cases e
   | cons s st=>simp only[pa]at e;cases hb:Nat.beq t' t<;>rw[hb]at e<;>cases e
theorem u6 (t:Nat):dD F (kill F t):=fun s k2 cs e=>by
 by_cases h:s=t
 ·subst h;rw[vF]at e;cases e
 ·rw[nW _ h]at e
  cases hF:F s with
  | hold k c=>rw[hF]at e;cases e;exact⟨_,rfl⟩
  | ref t' off st=>rw[hF]at e;simp only[HT]at e;cases hb:Nat.beq t' t<;>rw[hb]at e<;>cases e
  | bor t' off st ag=>rw[hF]at e;simp only[HT]at e;cases hb:Nat.beq t' t<;>rw[hb]at e<;>cases e
  | _=>rw[hF]at e;cases e
theorem aZ.lendAt (h:aZ w0 M S0 N S φ F a w) {t off n:Nat} {st:bW} {K:(Nat→AV)→List C→Prop} (hp:Ab.lendAt F t off st n K) :
  ∃ k bs V φ' F' cs,F t=.hold k bs∧K F' cs∧cs.length=n∧cm w S V cs (fun d=>cellv w (cA w k (tvs a t)) off st d)∧aZ w0 M S0 N S φ' F' a w∧Free w0 M S φ' w V∧(∀ s b o,φ' s b o→φ s b o)∧(∀ b o,V b o→φ t b o)∧dD F F':=by
 unfold Ab.lendAt at hp
 split at hp
 case h_2=>exact hp.elim
 rename_i k bs hF
 split at hp
 ·cases hb:Nat.ble (off+n) bs.length with
  | false=>rw[hb]at hp;exact hp.elim
  | true=>
   rw[hb]at hp
   simp only[cond_true,dM]at hp
   have hle:=Nat.le_of_ble_eq_true hb
   obtain⟨V,φ',e1,e2,e3,e4,e5⟩:=h.lend (st:=[]) (off:=off) (j:=off) (n:=n) hF rfl trivial hle
   exact⟨k,bs,V,φ',_,_,hF,hp,by simp[bp];omega,e1,e2,e3,e4,e5,nv hF⟩
 ·obtain⟨r,j,h1,h2,h3,hK⟩:=hp.out
  obtain⟨V,φ',e1,e2,e3,e4,e5⟩:=h.lend hF h1 h2 h3
  exact⟨k,bs,V,φ',_,_,hF,hK,by simp[bp];omega,e1,e2,e3,e4,e5,nv hF⟩
def yR (w:World) (S:ab) (a:Act) (F0:Nat→AV) (V:ab) (m:MA) (p:uR) (v:Value):Prop:=
 match p with
 | .no=>∀ b o,¬V b o
 | .at_ t off st=>∃ ag cs,m=.mut ag cs∧bo w S V ag cs v∧∃ k cs0,F0 t=.hold k cs0∧v=mkv ag (cellv w (cA w k (tvs a t)) off st)
 | .box t=>∃ cs,m=.ptr cs∧wx w S V m v∧v=tvs a t
def nK (w:World) (S:ab) (a:Act) (F0:Nat→AV):(Nat→ab)→List (MA × uR)→List Value→Prop
 | _,[],[]=>True
 | V,q::l,v::vs=>yR w S a F0 (V 0) q.1 q.2 v∧nK w S a F0 (fun i=>V (i+1)) l vs
 | _,_,_=>False
theorem yR.back {F F1:Nat→AV} {V:ab} {m:MA} {p:uR} {v:Value} (h:yR w S a F1 V m p v) (hb:dD F F1):yR w S a F V m p v:=by
 cases p with
 | no=>exact h
 | at_ t off st=>obtain⟨ag,cs,h1,h2,k,cs0,h3,h4⟩:=h;obtain⟨c1,e1⟩:=hb t k cs0 h3;exact⟨ag,cs,h1,h2,k,c1,e1,h4⟩
 | box t=>exact h
theorem nK.back {F F1:Nat→AV} (hb:dD F F1):∀ {l:List (MA × uR)} {V:Nat→ab} {vs:List Value},nK w S a F1 V l vs→nK w S a F V l vs
 | [],_,[],_=>trivial
 | _::_,_,_::_,h=>⟨h.1.back hb,h.2.back hb⟩
 | [],_,_::_,h=>h.elim
 | _::_,_,[],h=>h.elim
def Jt (V0:ab) (V:Nat→ab):Nat→ab
 | 0=>V0
 | i+1=>V i
theorem aZ.lendP:∀ {xs:List (Operand × Nat)} {K:(Nat→AV)→List (MA × uR)→Prop} {F:Nat→AV} {φ:Nat→ab},aZ w0 M S0 N S φ F a w→Ab.lendP xs K F→
  ∃ F' l φ' V,K F' l∧aZ w0 M S0 N S φ' F' a w∧(∀ s b o,φ' s b o→φ s b o)∧(∀ i,Free w0 M S φ' w (V i))∧(∀ i b o,V i b o→∃ t,φ t b o)∧(∀ i i',i≠i'→∀ b o,V i b o→¬V i' b o)∧dD F F'∧nK w S a F V l (xs.map fun x=>a.eval x.1)
 | [],K,F,φ,h,hp=>⟨F,[],φ,fun _=>NO,hp,h,fun _ _ _ h=>h,fun _ _ _ h=>h.elim,fun _ _ _ h=>h.elim,fun _ _ _ _ _ h=>h.elim,fun s k cs e=>⟨cs,e⟩,trivial⟩
 | (x,m)::xs,K,F,φ,h,hp=>by
  have fin:∀ (F1:Nat→AV) (φ1:Nat→ab) (V0:ab) (q:MA × uR),yR w S a F V0 q.1 q.2 (a.eval x)→aZ w0 M S0 N S φ1 F1 a w→(∀ s b o,φ1 s b o→φ s b o)→Free w0 M S φ1 w V0→(∀ b o,V0 b o→∃ t,φ t b o)→dD F F1→Ab.lendP xs (fun F' l=>K F' (q::l)) F1→
    ∃ F' l φ' V,K F' l∧aZ w0 M S0 N S φ' F' a w∧(∀ s b o,φ' s b o→φ s b o)∧(∀ i,Free w0 M S φ' w (V i))∧(∀ i b o,V i b o→∃ t,φ t b o)∧(∀ i i',i≠i'→∀ b o,V i b o→¬V i' b o)∧dD F F'∧nK w S a F V l (((x,m)::xs).map fun x=>a.eval x.1):=by
   intro F1 φ1 V0 q hq h1 hle hV0 hV0t hb hp
   obtain⟨F',l,φ',V,e1,e2,e3,e4,e5,e6,e7,e8⟩:=aZ.lendP h1 hp
   refine⟨F',q::l,φ',Jt V0 V,e1,e2,fun s b o hb=>hle s b o (e3 s b o hb),fun i=>?_,fun i b o hi=>?_,fun i i' hne b o hi hi'=>?_,hb.trans e7,hq,e8.back hb⟩
   ·cases i with
    | zero=>exact hV0.less e3
    | succ i=>exact e4 i
   ·cases i with
    | zero=>exact hV0t b o hi
    | succ i=>obtain⟨t,ht⟩:=e5 i b o hi;exact⟨t,hle t b o ht⟩
   ·cases i with
    | zero=>
     cases i' with
     | zero=>exact hne rfl
     | succ i'=>obtain⟨t,ht⟩:=e5 i' b o hi';exact(hV0 b o hi).1 t ht
    | succ i=>
     cases i' with
     | zero=>obtain⟨t,ht⟩:=e5 i b o hi;exact(hV0 b o hi').1 t ht
     | succ i'=>exact e6 i i' (fun e=>hne (by rw[e])) b o hi hi'
  have box:∀ t cs,F t=.hold .box cs→a.eval x=tvs a t→Ab.lendP xs (fun F' l=>K F' ((.ptr cs,.box t)::l)) (kill F t)→
    ∃ F' l φ' V,K F' l∧aZ w0 M S0 N S φ' F' a w∧(∀ s b o,φ' s b o→φ s b o)∧(∀ i,Free w0 M S φ' w (V i))∧(∀ i b o,V i b o→∃ t,φ t b o)∧(∀ i i',i≠i'→∀ b o,V i b o→¬V i' b o)∧dD F F'∧nK w S a F V l (((x,m)::xs).map fun x=>a.eval x.1):=by
   intro t cs hF hv hp
   have hs:=h.slot t
   rw[hF]at hs
   obtain⟨X1,Y,h1,h2,h3,h4,h5⟩:=hs
   refine fin _ _ (φ t) (.ptr cs,.box t) ⟨cs,rfl,⟨X1,Y,h1,h2,h3,by rw[hv];exact h4,by rw[hv];exact h5⟩,hv⟩ (h.forget t) (fun s b o hb=>?_) (fun b o hb=>⟨fun s hs=>?_,h.disS t b o hb,h.ex t b o hb⟩) (fun b o hb=>⟨t,hb⟩) (u6 t) hp
   ·replace hb:(if s=t then NO else φ s) b o:=hb
    split at hb
    ·exact hb.elim
    ·exact hb
   ·replace hs:(if s=t then NO else φ s) b o:=hs
    split at hs
    ·exact hs.elim
    ·rename_i hne;exact h.dis s t hne b o hs hb
  have at_:∀ t off st ag n (K':(Nat→AV)→List C→Prop),n=ag.getD 1→(∀ k bs,F t=.hold k bs→a.eval x=mkv ag (cellv w (cA w k (tvs a t)) off st))→Ab.lendAt F t off st n (fun F1 cs=>Ab.lendP xs (fun F' l=>K F' ((.mut ag cs,.at_ t off st)::l)) F1)→
    ∃ F' l φ' V,K F' l∧aZ w0 M S0 N S φ' F' a w∧(∀ s b o,φ' s b o→φ s b o)∧(∀ i,Free w0 M S φ' w (V i))∧(∀ i b o,V i b o→∃ t,φ t b o)∧(∀ i i',i≠i'→∀ b o,V i b o→¬V i' b o)∧dD F F'∧nK w S a F V l (((x,m)::xs).map fun x=>a.eval x.1):=by
   intro t off st ag n K' hn hv hp
   obtain⟨k,bs,V0,φ1,F1,cs,e1,e2,e3,e4,e5,e6,e7,e8,e9⟩:=h.lendAt hp
   have hvx:=hv k bs e1
   exact fin F1 φ1 V0 (.mut ag cs,.at_ t off st) ⟨ag,cs,rfl,⟨by rw[e3,hn],_,hvx,e4⟩,k,bs,e1,hvx⟩ e5 e7 e6 (fun b o hb=>⟨t,e8 b o hb⟩) e9 e2
  match m,hp with
  | 0,hp=>exact fin F φ NO (.val none [],.no) (fun _ _ h=>h) h (fun _ _ _ h=>h) (fun _ _ h=>h.elim) (fun _ _ h=>h.elim) (fun s k cs e=>⟨cs,e⟩) hp
  | 1,hp=>
   simp only[Ab.lendP]at hp
   split at hp
   case h_2=>exact hp.elim
   rename_i s _
   have hs:=h.slot s
   split at hp
   ·rename_i cs0 hF
    exact at_ s 0 [] none 1 (fun _ _=>True) rfl (fun k bs hk=>by rw[hF]at hk;cases hk;rfl) hp
   ·rename_i cs0 hF
    rw[hF]at hs
    obtain⟨X1,Y,-,-,-,⟨arr,hv,hsz⟩,-⟩:=hs
    refine at_ s 0 [] (some cs0.length) cs0.length (fun _ _=>True) rfl (fun k bs hk=>?_) hp
    rw[hF]at hk
    cases hk
    show tvs a s=_
    rw[hv]
    have:=lc arr
    rw[hsz]at this
    exact this.trans (ga fun j _=>by simp[cellv,cA,Value.cells])
   ·rename_i t off st ag hF
    rw[hF]at hs
    obtain⟨k,cs,r,j,h1,h2,h3,h4⟩:=hs
    refine at_ t off st ag _ (fun _ _=>True) rfl (fun k' bs hk=>?_) hp
    rw[h1]at hk
    cases hk
    exact h4
   ·exact hp.elim
  | n+2,hp=>
   simp only[Ab.lendP]at hp
   split at hp
   case h_2=>exact hp.elim
   rename_i s _
   have hs:=h.slot s
   split at hp
   ·rename_i t hF
    rw[hF]at hs
    obtain⟨k,cs,r,j,g,o,h1,h2,h3,h4⟩:=hs
    split at hp
    ·rename_i cs2 hF2
     rw[hF2]at h1
     simp only[AV.hold.injEq]at h1
     obtain⟨rfl,rfl⟩:=h1
     have ht:=h.slot t
     rw[hF2]at ht
     obtain⟨X1,Y,-,-,-,⟨g',o',hv,-⟩,-⟩:=ht
     refine box t _ hF2 ?_ hp
     show tvs a s=tvs a t
     rw[hv]at h3 ⊢
     simp only[plc,nU,Option.map_some,Option.some.injEq,Prod.mk.injEq,Nat.add_zero]at h3
     rw[h4,←h3.1,←h3.2]
    ·exact hp.elim
   ·rename_i cs2 hF
    exact box s cs2 hF rfl hp
   ·exact hp.elim
theorem wx.mono {S S' V:ab} {m:MA} {v:Value} (h:wx w S V m v) (hS:∀ b o,S b o→S' b o):wx w S' V m v:=by
 cases m with
 | val ag cs=>exact bo.mono h hS (fun _ _ h=>h)
 | «mut» ag cs=>exact bo.mono h hS (fun _ _ h=>h)
 | ptr cs=>obtain⟨X1,Y,h1,h2,h3,h4,h5⟩:=h;exact⟨X1,Y,h1,h2,h3,h4,h5.mono hS (fun _ _ h=>h)⟩
theorem aZ.valsP (h:aZ w0 M S0 N S φ F a w) {F0:Nat→AV} : ∀ {l:List (MA × uR)} {xs:List Operand} {K:Bool→List MA→Prop} {V:Nat→ab},nK w S a F0 V l (xs.map a.eval)→Ab.valsP F l xs K→
  ∃ b A,K b A∧Hv w (lr S φ) V A (xs.map a.eval)∧(b=true→Hv w S V A (xs.map a.eval))
 | [],[],K,V,_,hp=>⟨true,[],hp,trivial,fun _=>trivial⟩
 | (m,.no)::l,x::xs,K,V,hl,hp=>by
  obtain⟨ag,cs,Y,hK,hv,hY⟩:=h.val (h.ev x) hp
  obtain⟨b,A,hK,h1,h2⟩:=aZ.valsP h hl.2 hK
  have hY':∀ b o,Y b o→lr S φ b o:=fun b o hb=>by
   rcases hY b o hb with hb|hb
   ·cases x with
    | tmp t=>exact .inr ⟨t,hb⟩
    | _=>exact hb.elim
   ·exact .inr hb
  cases hn:aQ cs with
  | true=>rw[hn]at hK;exact⟨b,_,hK,⟨(hv.bare hn).mono (fun _ _ h=>.inl h) (fun _ _ h=>h),h1⟩,fun hb=>⟨hv.bare hn,h2 hb⟩⟩
  | false=>rw[hn]at hK;exact⟨false,_,hK,⟨hv.freeze.mono (fun b o h=>h.elim .inl (hY' b o)) (fun _ _ h=>h),h1⟩,fun hb=>by cases hb⟩
 | (m,.at_ t off st)::l,x::xs,K,V,hl,hp=>by
  obtain⟨b,A,hK,h1,h2⟩:=aZ.valsP h hl.2 hp
  obtain⟨ag,cs,rfl,⟨e1,u,e2,e3⟩,-⟩:=hl.1
  have hv:bo w S (V 0) ag (HP cs) (a.eval x):=⟨by rw[xk];simpa using e1,u,e2,e3.ut⟩
  exact⟨b,_,hK,⟨hv.mono (fun _ _ h=>.inl h) (fun _ _ h=>h),h1⟩,fun hb=>⟨hv,h2 hb⟩⟩
 | (m,.box t)::l,x::xs,K,V,hl,hp=>by
  obtain⟨b,A,hK,h1,h2⟩:=aZ.valsP h hl.2 hp
  obtain⟨cs,rfl,hv,-⟩:=hl.1
  exact⟨b,_,hK,⟨hv.mono (fun _ _ h=>.inl h),h1⟩,fun hb=>⟨hv,h2 hb⟩⟩
theorem GL {ag:Option Nat} {u u':Nat→Value} (h:mkv ag u=mkv ag u'):∀ d,d<ag.getD 1→u d=u' d:=by
 cases ag with
 | none=>
  intro d hd;simp only[Option.getD_none]at hd;have:d=0:=by omega
  subst this;exact h
 | some n=>
  intro d hd
  simp only[Option.getD_some]at hd
  simp only[mkv,Value.agg.injEq]at h
  have h2:=congrArg Array.toList h
  have h3:=congrArg (fun l=>l[d]?) h2
  simpa[hd] using h3
theorem Fb {t:Nat} {v:AV} {k:Kd} {cs:List C} (h:pa t v=.hold k cs):v=.hold k cs:=by
 cases v with
 | hold=>exact h
 | dead=>cases h
 | iref=>cases h
 | fn=>cases h
 | fv=>cases h
 | bor t' off st ag=>simp only[pa]at h;cases hb:Nat.beq t' t<;>rw[hb]at h<;>cases h
 | ref t' off st=>
  cases st with
  | nil=>cases h
  | cons s st=>simp only[pa]at h;cases hb:Nat.beq t' t<;>rw[hb]at h<;>cases h
theorem aZ.rest {φ':Nat→ab} {F' F0:Nat→AV} {S':ab} {Vall:ab} (hw:aZ w0 M S0 N S φ' F' a w) (hk:bu Vall w w1) (hVall:Free w0 M S φ' w Vall) (hb:dD F0 F') :
  ∀ {l:List (MA × uR)} {B:List MA} {vs:List Value} {V V':Nat→ab} {K:(Nat→AV)→Prop} {F:Nat→AV} {φ:Nat→ab},aZ w0 M S0 N S' φ F a w1→nK w S a F0 V l vs→zk w1 S' V' B vs→(∀ q,q∈l→∀ t,t∈q.2.slot→∀ k cs,F t=.hold k cs→F' t=.hold k cs)→
   (∀ i,Free w0 M S' φ w1 (V' i))→(∀ i i',i≠i'→∀ b o,V' i b o→¬V' i' b o)→vj l=true→jV l B K F→∃ F2 φ2,K F2∧aZ w0 M S0 N S' φ2 F2 a w1∧∀ s b o,φ2 s b o→φ s b o∨∃ i,V' i b o
 | [],B,vs,V,V',K,F,φ,h,hl,hm,hkeep,hf,hd,hdist,hp=>by
  cases B with
  | nil=>exact⟨F,φ,hp,h,fun _ _ _ h=>.inl h⟩
  | cons _ _=>exact hp.elim
 | (m,p)::l,B,vs,V,V',K,F,φ,h,hl,hm,hkeep,hf,hd,hdist,hp=>by
  cases vs with
  | nil=>exact hl.elim
  | cons v vs=>
   cases B with
   | nil=>exact hm.elim
   | cons m' B=>
    simp only[vj,Bool.and_eq_true]at hdist
    have next:∀ (F1:Nat→AV) (φ1:Nat→ab),aZ w0 M S0 N S' φ1 F1 a w1→(∀ s b o,φ1 s b o→φ s b o∨V' 0 b o)→(∀ q,q∈l→∀ t,t∈q.2.slot→∀ k cs,F1 t=.hold k cs→F' t=.hold k cs)→jV l B K F1→
      ∃ F2 φ2,K F2∧aZ w0 M S0 N S' φ2 F2 a w1∧∀ s b o,φ2 s b o→φ s b o∨∃ i,V' i b o:=by
     intro F1 φ1 h1 hle hkeep1 hp1
     obtain⟨F2,φ2,e1,e2,e3⟩:=aZ.rest hw hk hVall hb (V':=fun i=>V' (i+1)) h1 hl.2 hm.2 hkeep1 (fun i b o hi=>⟨fun t ht=>(hle t b o ht).elim ((hf (i+1) b o hi).1 t) (fun h0=>hd 0 (i+1) (by omega) b o h0 hi),(hf (i+1) b o hi).2⟩) (fun i i' hne=>hd (i+1) (i'+1) (by omega)) hdist.2 hp1
     exact⟨F2,φ2,e1,e2,fun s b o hs=>(e3 s b o hs).elim (fun h=>(hle s b o h).imp id (fun h=>⟨0,h⟩)) (fun⟨i,h⟩=>.inr ⟨i+1,h⟩)⟩
    have hne:∀ t,t∈p.slot→∀ q,q∈l→∀ t',t'∈q.2.slot→t'≠t:=fun t ht q hq t' ht' e=>by
     have h1:=List.all_eq_true.1 (List.all_eq_true.1 hdist.1 t ht) q hq
     have h2:q.2.slot.any (Nat.beq t)=true:=List.any_eq_true.2 ⟨t',ht',by rw[e];exact Nat.beq_refl t⟩
     rw[h2]at h1;cases h1
    cases p with
    | no=>exact next F φ h (fun _ _ _ h=>.inl h) (fun q hq=>hkeep q (List.mem_cons_of_mem _ hq)) (by cases m'<;>exact hp)
    | at_ t off st=>
     obtain⟨ag,cs,rfl,hv,k0,cs0,hF0,hvv⟩:=hl.1
     cases m' with
     | val=>exact hp.elim
     | ptr=>exact hp.elim
     | «mut» ag' out=>
      simp only[jV]at hp
      obtain⟨u',hu',hr'⟩:=bo.cells (show bo w1 S' (V' 0) ag' out v from hm.1)
      have hone:ag=none→(cellv w (cA w k0 (tvs a t)) off st 0).oneCell'=true:=fun e=>by
       subst e
       obtain⟨hl1,u1,hv1,hr1⟩:=hv
       have:cellv w (cA w k0 (tvs a t)) off st 0=u1 0:=hvv.symm.trans hv1
       rw[this]
       exact hr1.one (by simp at hl1;omega)
      have hcv:=mY hone
      rw[←hvv,hu']at hcv
      have hlen:out.length=ag.getD 1:=by have:=congrArg List.length hcv;simpa using this
      have heq:∀ d,d<out.length→u' d=cellv w (cA w k0 (tvs a t)) off st d:=fun d hd=>by
       have:=congrArg (fun l=>l[d]?) hcv
       simpa[hd,←hlen] using this
      cases hF:F t with
      | hold k bs=>
       rw[hF]at hp
       have hF':=hkeep (.mut ag cs,.at_ t off st) (List.mem_cons_self ..) t (by simp[uR.slot]) k bs hF
       have hkk:k0=k:=by
        obtain⟨c1,e1⟩:=hb t k bs hF'
        rw[hF0]at e1
        simp only[AV.hold.injEq]at e1
        exact e1.1
       subst hkk
       have fin:∀ out',out'.length=out.length→cm w1 S' (V' 0) out' u'→∀ r j,bD bs off st=some (r,j)→iF bs off st→j+out.length≤r.length→jV l B K (updH F t k0 (en bs off st (splice r j out')))→∃ F2 φ2,K F2∧aZ w0 M S0 N S' φ2 F2 a w1∧∀ s b o,φ2 s b o→φ s b o∨∃ i,V' i b o:=by
        intro out' hol hr' r j h1 h2 h3 hp
        have hsame:=hw.cellv_same hF' h1 hk hVall
        obtain⟨φ1,e1,e2⟩:=h.back hF h1 h2 (by rw[hol];exact h3) (hf 0) (hr'.congr fun d hd=>(hsame d (by omega)).trans (heq d (by omega)).symm)
        refine next _ φ1 e1 e2 (fun q hq t' ht' k cs hc=>?_) hp
        have:=hne t (by simp[uR.slot]) q hq t' ht'
        rw[dR _ _ _ this]at hc
        exact hkeep q (List.mem_cons_of_mem _ hq) t' ht' k cs (Fb hc)
       cases st with
       | nil=>
        simp only at hp
        cases hble:Nat.ble (off+out.length) bs.length with
        | false=>rw[hble]at hp;exact hp.elim
        | true=>
         rw[hble]at hp
         simp only[cond_true,dM]at hp
         obtain⟨-,u0,hv0,hr0⟩:=hv
         have hu0:∀ d,d<out.length→u' d=u0 d:=fun d hd=>by
          have e1:=GL (hv0.symm.trans hvv) d (by omega)
          rw[e1];exact heq d hd
         exact fin _ (oJ _ _) (hr0.rt hr' hu0) bs off rfl trivial (Nat.le_of_ble_eq_true hble) hp
       | cons s st=>
        simp only at hp
        obtain⟨r,j,h1,h2,h3,hK⟩:=hp.out
        exact fin out rfl hr' r j h1 h2 h3 hK
      | _=>rw[hF]at hp;exact hp.elim
    | box t=>
     obtain⟨cs,rfl,hv,hvv⟩:=hl.1
     cases m' with
     | val=>exact hp.elim
     | «mut»=>exact hp.elim
     | ptr out=>
      simp only[jV]at hp
      cases hF:F t with
      | dead=>
       rw[hF]at hp
       obtain⟨X1,Y,h1,h2,h3,h4,h5⟩:=hm.1
       refine next _ _ (h.revive hF (hf 0) ⟨X1,Y,h1,h2,h3,by rw[←hvv];exact h4,by rw[←hvv];exact h5⟩) (fun s b o hs=>?_) (fun q hq t' ht' k cs hc=>?_) hp
       ·replace hs:(if s=t then V' 0 else φ s) b o:=hs
        split at hs
        ·exact .inr hs
        ·exact .inl hs
       ·have:=hne t (by simp[uR.slot]) q hq t' ht'
        rw[ol _ _ this]at hc
        exact hkeep q (List.mem_cons_of_mem _ hq) t' ht' k cs hc
      | _=>rw[hF]at hp;exact hp.elim
theorem AF.fresh {S V:ab} {m:MA} {v:Value} (h:AF w S V m v) (hf:match m with|.val _ _=>True|.mut _ cs=>fK cs|.ptr cs=>fK cs):AF w NO V m v:=by
 cases m with
 | val=>trivial
 | «mut» ag cs=>obtain⟨h1,u,h2,h3⟩:=h;exact⟨h1,u,h2,h3.fresh hf⟩
 | ptr cs=>obtain⟨X1,Y,h1,h2,h3,h4,h5⟩:=h;exact⟨X1,Y,h1,h2,h3,h4,h5.fresh hf⟩
theorem AF.mono {S S' V:ab} {m:MA} {v:Value} (h:AF w S V m v) (hS:∀ b o,S b o→S' b o):AF w S' V m v:=by
 cases m with
 | val=>trivial
 | «mut» ag cs=>exact wx.mono (m:=.mut ag cs) h hS
 | ptr cs=>exact wx.mono (m:=.ptr cs) h hS
theorem zk.mono {S S':ab} (hS:∀ b o,S b o→S' b o):∀ {V:Nat→ab} {B:List MA} {vs:List Value},zk w S V B vs→zk w S' V B vs
 | _,[],[],_=>trivial
 | _,_::_,_::_,h=>⟨h.1.mono hS,zk.mono hS h.2⟩
 | _,[],_::_,h=>h.elim
 | _,_::_,[],h=>h.elim
theorem zk.fresh {S:ab} : ∀ {V:Nat→ab} {B:List MA} {vs:List Value},zk w S V B vs→y9 B→zk w NO V B vs
 | _,[],[],_,_=>trivial
 | _,.val _ _::_,_::_,h,hf=>⟨trivial,zk.fresh h.2 hf⟩
 | _,.mut _ _::_,_::_,h,hf=>⟨h.1.fresh hf.1,zk.fresh h.2 hf.2⟩
 | _,.ptr _::_,_::_,h,hf=>⟨h.1.fresh hf.1,zk.fresh h.2 hf.2⟩
 | _,[],_::_,h,_=>h.elim
 | _,_::_,[],h,_=>h.elim
theorem GT {xs:List Operand} {ms:List Nat} (h:xs.length=ms.length):(xs.zip ms).map (fun x=>a.eval x.1)=xs.map a.eval:=by
 rw[show(fun x:Operand × Nat=>a.eval x.1)=a.eval ∘ Prod.fst from rfl,←List.map_map,List.map_fst_zip (by omega)]
theorem aZ.callM (h:aZ w0 M S0 N S φ F a w) {o:Oper} {f:Nat} {xs:List Operand} (hxs:G7 P f→(execOp a.eval o).run P w=.ok (.enter f (xs.map a.eval).toArray) w) {modes:List Nat} {K:(Nat→AV)→Prop} (hp:rR P N F o.dst f xs modes K)
  {Kc:Act→World→Prop} {Q:Exit→Act→World→Prop} (hkc:∀ F' a' w',K F'→St w0 M S0 N F' a' w'→Kc a' w'):o.wp P a w Kc Q:=by
 obtain⟨F',l,φ',V,hK,h',hle,hV,hVt,hVd,hb,hL⟩:=h.lendP hp
 cases hdl:(vj l&&Nat.beq xs.length modes.length) with
 | false=>rw[hdl]at hK;exact hK.elim
 | true=>
  rw[hdl]at hK
  simp only[Bool.and_eq_true]at hdl
  rw[GT (Nat.eq_of_beq_eq_true hdl.2)]at hL
  obtain⟨b,A,hK,hA1,hA2⟩:=h'.valsP hL hK
  obtain⟨sh,B,k,rcs,hc,hsb,hK⟩:=hK.out
  have hVall:Free w0 M S φ' w (fun b o=>∃ i,V i b o):=fun b o ⟨i,hi⟩=>hV i b o hi
  have hrun:=hxs hc.1
  have fin:∀ S2:ab,(∀ b o,S2 b o→b<w.heap.size)→(∀ i b o,V i b o→¬S2 b o)→Hv w S2 V A (xs.map a.eval)→((∀ b o,S2 b o→S b o)∨(sh=false∧y9 B))→o.wp P a w Kc Q:=by
   intro S2 hS2 hVS hA hcase
   have hy:u7 P o a w fun v w1=>∃ F2,K F2∧St w0 M S0 N F2 (a.put o.dst v) w1:=by
    refine u7.enter hrun ?_
    refine(hc.2 w S2 V _ hS2 (fun i b o hi=>⟨(hV i b o hi).2.2.1,hVS i b o hi⟩) hVd hA).mono fun e w1 ⟨v,he,hk,X,V',S1,hX,hV',hS1,hVd',hXV,hXS,hVS1,hh,hr,hm⟩=>⟨v,he,?_⟩
    have h1:=h'.world hk hVall
    have reg:∀ Z:ab,(∀ b o,Z b o→(∃ i,V i b o)∨(b<w1.heap.size∧w.heap.size≤b))→Free w0 M S φ' w1 Z:=fun Z hZ b o hz=>by
     rcases hZ b o hz with hz|hz
     ·obtain⟨a1,a2,a3,a4⟩:=hVall b o hz
      exact⟨a1,a2,Nat.lt_of_lt_of_le a3 hk.size,a4⟩
     ·exact⟨fun t ht=>by have:=(h'.ex t b o ht).1;omega,fun hS=>by have:=(h'.sup b o hS).1;omega,hz.1,.inl (Nat.le_trans h'.old.size hz.2)⟩
    have h2:aZ w0 M S0 N (fun b o=>S b o∨S1 b o) φ' F' a w1:=by
     refine h1.addS (V:=fun b o=>S1 b o∧((∃ i,V i b o)∨(b<w1.heap.size∧w.heap.size≤b))) (reg _ fun b o hz=>hz.2) (fun _ _ h=>.inl h) (fun b o hz=>?_)
     rcases hz with hz|hz
     ·exact .inl hz
     ·rcases hS1 b o hz with⟨q1,q2⟩|q
      ·rcases hcase with q3|⟨q3,-⟩
       ·exact .inl (q3 b o q2)
       ·rw[q3]at q1;cases q1
      ·exact .inr ⟨hz,q⟩
    have frees:∀ Z:ab,(∀ b o,Z b o→(∃ i,V i b o)∨(b<w1.heap.size∧w.heap.size≤b))→(∀ b o,Z b o→¬S1 b o)→Free w0 M (fun b o=>S b o∨S1 b o) φ' w1 Z:=fun Z hZ hn b o hz=>by
     obtain⟨a1,a2,a3⟩:=reg Z hZ b o hz
     exact⟨a1,fun h=>h.elim a2 (hn b o hz),a3⟩
    have hm2:zk w1 (fun b o=>S b o∨S1 b o) V' B (xs.map a.eval):=by
     rcases hcase with q|⟨-,q⟩
     ·exact hm.mono fun b o hz=>hz.imp (q b o) id
     ·exact(hm.fresh q).mono fun _ _ h=>h.elim
    obtain⟨F2,φ2,e1,e2,e3⟩:=aZ.rest h' hk hVall hb h2 hL hm2 (fun q _ t _ k cs e=>e) (fun i=>frees (V' i) (hV' i) (hVS1 i)) hVd' hdl.1 hK
    cases hd:o.dst with
    | none=>
     rw[hd]at e1
     exact⟨F2,e1,_,φ2,e2⟩
    | some d=>
     rw[hd]at e1
     have hXf:Free w0 M (fun b o=>S b o∨S1 b o) φ2 w1 X:=fun b o hz=>by
      obtain⟨a1,a2,a3⟩:=frees X hX hXS b o hz
      exact⟨fun t ht=>(e3 t b o ht).elim (a1 t) (fun⟨i,hi⟩=>hXV i b o hz hi),a2,a3⟩
     exact e2.putD_free (X:=X) ⟨NO,X,fun _ _ h=>h.elim,fun _ _ h=>h,fun _ _ h=>h.elim,hh,hr.mono (fun _ _ h=>.inr h) (fun _ _ h=>h)⟩ hXf e1
   exact hy Kc Q fun v w1 ⟨F2,q1,q2⟩=>hkc F2 _ w1 q1 q2
  rcases hsb with hbt|hfr
  ·exact fin S (fun b o hb=>(h'.sup b o hb).1) (fun i b o hi=>(hV i b o hi).2.1) (hA2 hbt) (.inl fun _ _ h=>h)
  ·exact fin (lr S φ') (fun b o hb=>hb.elim (fun hs=>(h'.sup b o hs).1) (fun⟨t,ht⟩=>(h'.ex t b o ht).1)) (fun i b o hi hs=>hs.elim (hV i b o hi).2.1 (fun⟨t,ht⟩=>(hV i b o hi).1 t ht)) hA1 (.inr hfr)
end
end Go.Proofs.YtogajjgmcnjkbaaGreat.Ab
namespace Go.Proofs.YtogajjgmcnjkbaaGreat.Ab
open Go.RowKit
open Go.ChangeMaps (setBlock)
def nh (TE:Nat→Option TI) (N:fq) (F:Nat→AV) (d T:Nat) (x:Operand) (K:(Nat→AV)→Prop):Prop:=
 match TE T with
 | some ⟨_,_,_,.mp _ _ _⟩=>fu F x fun F' ag cs=>match ag,cs with
  | none,[.m es]=>bA N F' d (.hold .one [.it none (es.map (·.1))]) K
  | _,_=>False
 | _=>False
inductive Nt (left:List Int) (K:Option (Int × List Int)→Prop):Prop
 |mk_ (h:(left=[]→K none)∧∀ l1 k l2,left=l1++k::l2→K (some (k,l1++l2)))
theorem Nt.mk {left:List Int} {K:Option (Int × List Int)→Prop} (h0:left=[]→K none) (h1:∀ l1 k l2,left=l1++k::l2→K (some (k,l1++l2))):Nt left K:=.mk_ ⟨h0,h1⟩
theorem Nt.out {left:List Int} {K:Option (Int × List Int)→Prop} (h:Nt left K):(left=[]→K none)∧∀ l1 k l2,left=l1++k::l2→K (some (k,l1++l2)):=by
 obtain⟨h⟩:=h;exact h
def qg (N:fq) (F:Nat→AV) (d:Nat) (x:Operand) (K:(Nat→AV)→Prop):Prop:=
 match x with
 | .tmp s=>(match F s with
   | .hold .one [.it _ left]=>Nt left fun r=>match r with
     | none=>bA N F d (.hold (.tup [none]) [.v (.bool false)]) K
     | some p=>bA N (updH F s .one [.it (some p.1) p.2]) d (.hold (.tup [none,none,none]) [.v (.bool true),.v (.int .i64 p.1),.x]) K
   | _=>False)
 | _=>False
def nj (N:fq) (F:Nat→AV) (d:Nat) (x:Operand) (K:(Nat→AV)→Prop):Prop:=
 match x with
 | .tmp s=>(match F s with
   | .hold .one [.it (some k) _]=>bA N F d (.hold (.tup [none,none]) [.v (.int .i64 k),.x]) K
   | _=>False)
 | _=>False
def gn (N:fq) (F:Nat→AV) (d:Nat) (x:Operand) (K:(Nat→AV)→Prop):Prop:=
 match x with
 | .tmp t=>(match F t with
   | .hold (.tup sh) cs=>bif aQ cs then bA N F d (.hold (.tup sh) cs) K else bA N (updH F t (.tup sh) (splice cs 0 (List.replicate cs.length .x))) d (.hold (.tup sh) cs) K
   | .hold .one _=>bb F (.tmp t) fun av=>bA N F d av K
   | .hold .agg _=>bb F (.tmp t) fun av=>bA N F d av K
   | .hold .box _=>bb F (.tmp t) fun av=>bA N F d av K
   | .ref ..=>bb F (.tmp t) fun av=>bA N F d av K
   | .bor ..=>bb F (.tmp t) fun av=>bA N F d av K
   | .iref ..=>bb F (.tmp t) fun av=>bA N F d av K
   | .fn ..=>bb F (.tmp t) fun av=>bA N F d av K
   | .fv _=>bb F (.tmp t) fun av=>bA N F d av K
   | .dead=>bb F (.tmp t) fun av=>bA N F d av K)
 | x=>bb F x fun av=>bA N F d av K
section
variable {P:Program} {w0 w w1:World} {M S0 S:ab} {N:fq} {φ:Nat→ab} {F:Nat→AV} {a:Act} {TE:Nat→Option TI}
theorem FQ {Y:ab} {cur:Option Int} {left:List Int} {v:Value} (h:dK w S Y (.it cur left) v):∃ (r b since c0 clock:Nat) (seen:Array Nat) (ents:Array MapEntry),v=.pointer (some ⟨r,0,none⟩)∧(∀ o,Y r o∧Y b o)∧mp w r=some (.mapIter (some b) since seen c0)∧mp w b=some (.map ents clock)∧
  ((ents.toList.map (·.born)).Nodup∧∀ x∈ents.toList,x.born<since)∧(since≤c0∧since≤clock)∧(∀ x∈ents.toList,x.val.oneCell'=true)∧(leftOf ents seen).toList.map (·.key)=left.map (Value.int .i64)∧(∀ k,cur=some k→c0=clock∧∃ e∈ents.toList,∃ s':Array Nat,seen=s'.push e.born∧e.key=.int .i64 k):=by
 generalize hc:C.it cur left=c at h
 cases h with
 | it _ r b since c0 clock seen ents cur' left' hF hr hb hst hcl hv hl hcur=>cases hc;exact⟨r,b,since,c0,clock,seen,ents,rfl,hF,hr,hb,hst,hcl,hv,hl,hcur⟩
 | _=>cases hc
theorem Hw {b:Nat} {o:Obj} (h:mp w b=some o):b<w.heap.size:=by
 rcases Nat.lt_or_ge b w.heap.size with h1|h1
 ·exact h1
 ·unfold mp at h
  rw[Array.getElem?_eq_none h1]at h
  cases h
theorem wZ {b:Nat} {o:Obj} (h:b<w.heap.size):mp (w.alloc o) b=mp w b:=by
 unfold mp;rw[heap_alloc_old w o h]
theorem Ez {ents:Array MapEntry} {es:List (Int × Value)} (he:ents.toList.map (fun e=>(e.key,e.val))=es.map (fun p=>(Value.int .i64 p.1,p.2))) (hes:∀ p∈es,p.2.oneCell'=true):∀ x∈ents.toList,x.val.oneCell'=true:=by
 intro y hy
 have:(y.key,y.val)∈ents.toList.map (fun e=>(e.key,e.val)):=List.mem_map.2 ⟨y,hy,rfl⟩
 rw[he]at this
 obtain⟨p,hp,e⟩:=List.mem_map.1 this
 have:=hes p hp
 simp only[Prod.mk.injEq]at e
 rw[←e.2];exact this
theorem aZ.rangeW (h:aZ w0 M S0 N S φ F a w) (hTE:∀ t i,TE t=some i→b9 P t i) {d T:Nat} {x:Operand} {K:(Nat→AV)→Prop} (hp:nh TE N F d T x K) :
  ∃ v w1 F',K F'∧(Instr.range T (a.eval x)).run P w=.ok v w1∧St w0 M S0 N F' (a.put (some d) v) w1:=by
 unfold nh at hp
 split at hp
 case h_2=>exact hp.elim
 rename_i hT
 obtain⟨h1,-,-,-⟩:=(hTE _ _ hT).2.2
 obtain⟨F',ag,cs,V,φ',hK,h',hv,hV,hs,hVt⟩:=h.taken hp
 match ag,cs,hK with
 | none,[.m es],hK=>
  obtain⟨b,clock,ents,hx,hown,hb,he,hes,hst⟩:=Gi hv.rep1
  have hbl:=Hw hb
  let o:Obj:=.mapIter (some b) clock #[] clock
  have h2:=h'.world (w1:=w.alloc o) (cz w _) (fun _ _ h=>h.elim)
  have hleft:leftOf ents #[]=ents:=by unfold leftOf;simp
  obtain⟨F2,hK2,hst2⟩:=h2.putD_free (X:=fun b o=>V b o∨b=w.heap.size) (v:=.pointer (some ⟨w.heap.size,0,none⟩)) (F:=F')
   (eJ (.it _ w.heap.size b clock clock clock #[] ents none (es.map (·.1)) (fun o=>⟨.inr rfl,.inl (hown o)⟩) (by unfold mp;rw[heap_alloc_new]) ((wZ hbl).trans hb) hst ⟨Nat.le_refl _,Nat.le_refl _⟩ (Ez he hes)
     (by
       rw[hleft]
       have:=congrArg (List.map Prod.fst) he
       simpa[List.map_map,Function.comp_def] using this) (fun k hk=>by cases hk))) (fun b o hb=>by
   rcases hb with hb|hb
   · obtain⟨a1,a2,a3,a4⟩:=hV b o hb
     exact⟨a1,a2,by rw[ek];omega,a4⟩
   · exact⟨fun t ht=>by have:=(h'.ex t b o ht).1;omega,fun hS=>by have:=(h'.sup b o hS).1;omega,by rw[ek];omega,.inl (by rw[hb];exact h'.old.size)⟩) hK
  exact⟨_,_,F2,hK2,by rw[hx];exact run_range_map w T _ _ b ents clock h1 (ni hb),hst2⟩
theorem pM {v:Value} (hv:v.oneCell'=true):v.cells = #[v]:=by
 cases v<;>first|rfl|(cases hv)
theorem DR {ents:Array MapEntry} {seen:Array Nat} {e:MapEntry} (hn:(ents.toList.map (·.born)).Nodup) (he:e∈(leftOf ents seen).toList):∃ l1 l2,(leftOf ents seen).toList=l1++e::l2∧(leftOf ents (seen.push e.born)).toList=l1++l2:=by
 obtain⟨l1,l2,hl⟩:=List.append_of_mem he
 refine⟨l1,l2,hl,?_⟩
 have h1:(leftOf ents (seen.push e.born)).toList=(leftOf ents seen).toList.filter fun y=>!(y.born == e.born):=by
  unfold leftOf
  rw[Array.toList_filter,Array.toList_filter,List.filter_filter]
  congr 1
  funext y
  rw[contains_push,Bool.not_or,Bool.and_comm]
 have hn2:((leftOf ents seen).toList.map (·.born)).Nodup:=by
  unfold leftOf
  rw[Array.toList_filter]
  exact hn.sublist (List.filter_sublist.map _)
 rw[hl]at hn2
 rw[h1,hl,List.filter_append,List.filter_cons]
 simp only[beq_self_eq_true,Bool.not_true,Bool.false_eq_true,if_false]
 rw[List.map_append,List.map_cons,List.nodup_append,List.nodup_cons]at hn2
 obtain⟨-,⟨hn3,-⟩,hn4⟩:=hn2
 have e1:l1.filter (fun y=>!(y.born == e.born))=l1:=List.filter_eq_self.2 fun y hy=>by
  have:=hn4 y.born (List.mem_map.2 ⟨y,hy,rfl⟩) e.born (List.mem_cons_self ..)
  simpa using this
 have e2:l2.filter (fun y=>!(y.born == e.born))=l2:=List.filter_eq_self.2 fun y hy=>by
  have:y.born≠e.born:=fun e'=>hn3 (by rw[←e'];exact List.mem_map.2 ⟨y,hy,rfl⟩)
  simpa using this
 rw[e1,e2]
theorem tup3 {w:World} {S:ab} {F:Nat→AV} {tv:Nat→Value} {k:Int} {v:Value} (hv:v.oneCell'=true):cb w S F tv NO (.hold (.tup [none,none,none]) [.v (.bool true),.v (.int .i64 k),.x]) (.tuple #[.bool true,.int .i64 k,v]):=by
 have hc:v.cells = #[v]:=pM hv
 refine⟨NO,NO,fun _ _ h=>h,fun _ _ h=>h,fun _ _ h=>h.elim,⟨_,rfl,⟨rfl,rfl,hc,trivial⟩,rfl⟩,fun _=>NO,fun j c hj=>?_,fun _ _ _ _ h=>h,fun _ _ _ _ _ _ _ h=>h.elim⟩
 have ht:kL (.tuple #[.bool true,.int .i64 k,v])=[.bool true,.int .i64 k,v]:=by
  show #[Value.bool true].toList++(#[Value.int .i64 k].toList++(v.cells.toList++[]))=_
  rw[hc];rfl
 simp only[cA,ht]
 match j,hj with
 | 0,hj=>simp at hj;subst hj;exact .v _ _ rfl
 | 1,hj=>simp at hj;subst hj;exact .v _ _ rfl
 | 2,hj=>simp at hj;subst hj;exact .x _ _ hv
 | j+3,hj=>simp at hj
theorem tup2 {w:World} {S:ab} {F:Nat→AV} {tv:Nat→Value} {k:Int} {v:Value} (hv:v.oneCell'=true):cb w S F tv NO (.hold (.tup [none,none]) [.v (.int .i64 k),.x]) (.tuple #[.int .i64 k,v]):=by
 have hc:v.cells = #[v]:=pM hv
 refine⟨NO,NO,fun _ _ h=>h,fun _ _ h=>h,fun _ _ h=>h.elim,⟨_,rfl,⟨rfl,hc,trivial⟩,rfl⟩,fun _=>NO,fun j c hj=>?_,fun _ _ _ _ h=>h,fun _ _ _ _ _ _ _ h=>h.elim⟩
 have ht:kL (.tuple #[.int .i64 k,v])=[.int .i64 k,v]:=by
  show #[Value.int .i64 k].toList++(v.cells.toList++[])=_
  rw[hc];rfl
 simp only[cA,ht]
 match j,hj with
 | 0,hj=>simp at hj;subst hj;exact .v _ _ rfl
 | 1,hj=>simp at hj;subst hj;exact .x _ _ hv
 | j+2,hj=>simp at hj
theorem tup1 {w:World} {S:ab} {F:Nat→AV} {tv:Nat→Value} {v:Value} (hv:v.oneCell'=true):cb w S F tv NO (.hold (.tup [none]) [.v v]) (.tuple #[v]):=by
 have hc:v.cells = #[v]:=pM hv
 refine⟨NO,NO,fun _ _ h=>h,fun _ _ h=>h,fun _ _ h=>h.elim,⟨_,rfl,⟨hc,trivial⟩,rfl⟩,fun _=>NO,fun j c hj=>?_,fun _ _ _ _ h=>h,fun _ _ _ _ _ _ _ h=>h.elim⟩
 have ht:kL (.tuple #[v])=[v]:=by
  show v.cells.toList++[]=_
  rw[hc];rfl
 simp only[cA,ht]
 match j,hj with
 | 0,hj=>simp at hj;subst hj;exact .v _ _ hv
 | j+1,hj=>simp at hj
theorem aZ.entryW (h:aZ w0 M S0 N S φ F a w) {d:Nat} {x:Operand} {K:(Nat→AV)→Prop} (hp:nj N F d x K) :
  ∃ v F',K F'∧(Instr.entry (a.eval x)).run P w=.ok v w∧St w0 M S0 N F' (a.put (some d) v) w:=by
 cases x with
 | tmp s=>
  simp only[nj]at hp
  have hs:=h.slot s
  split at hp
  case h_2=>exact hp.elim
  rename_i k left hF
  rw[hF]at hs
  obtain⟨X1,Y,e1,e2,e3,e4,f,f1,f2,f3⟩:=hs
  obtain⟨r,b,since,c0,clock,seen,ents,hv,hown,hr,hb,hst,hcl,hvv,hl,hcur⟩:=FQ (f1 0 _ rfl)
  obtain⟨rfl,e,he,s',rfl,hk⟩:=hcur k rfl
  have hv:tvs a s=.pointer (some ⟨r,0,none⟩):=hv
  obtain⟨F',hK,hst'⟩:=h.putD_new (v:=.tuple #[.int .i64 k,e.val]) (.same (tup2 (hvv e he))) hp
  refine⟨_,F',hK,?_,hst'⟩
  show(Instr.entry (tvs a s)).run P w=_
  rw[hv,←hk]
  exact run_entry_at w r b since s' ents c0 e (wP hr) (ni hb) he hst.1
 | _=>exact hp.elim
theorem aZ.nextW (h:aZ w0 M S0 N S φ F a w) {d ty:Nat} {x:Operand} {K:(Nat→AV)→Prop} (hp:qg N F d x K) :
  ∃ v w1 F',K F'∧(Instr.next (a.eval x) false ty).run P w=.ok v w1∧St w0 M S0 N F' (a.put (some d) v) w1:=by
 cases x with
 | tmp s=>
  simp only[qg]at hp
  have hs:=h.slot s
  split at hp
  case h_2=>exact hp.elim
  rename_i cur left hF
  rw[hF]at hs
  obtain⟨X1,Y,e1,e2,e3,e4,f,f1,f2,f3⟩:=hs
  obtain⟨r,b,since,c0,clock,seen,ents,hv,hown,hr,hb,hst,hcl,hvv,hl,hcur⟩:=FQ (f1 0 _ rfl)
  have hv:tvs a s=.pointer (some ⟨r,0,none⟩):=hv
  obtain⟨p0,p1⟩:=hp.out
  show ∃ v w1 F',K F'∧(Instr.next (tvs a s) false ty).run P w=.ok v w1∧St w0 M S0 N F' (a.put (some d) v) w1
  rw[hv]
  rcases run_next_at (P:=P) w ty r b since c0 seen ents clock (wP hr) (ni hb) hst.2 hcl.1 with⟨hsz,hrun⟩|⟨e,he,w2,hw2,hrun⟩
  ·have hle:left=[]:=by
    have:(leftOf ents seen).toList=[]:=by
     rw[←List.length_eq_zero_iff];simpa using hsz
    rw[this]at hl
    exact List.map_eq_nil_iff.1 hl.symm
   obtain⟨F',hK,hst'⟩:=h.putD_new (v:=.tuple #[.bool false]) (.same (tup1 rfl)) (p0 hle)
   exact⟨_,_,F',hK,hrun,hst'⟩
  ·obtain⟨l1,l2,q1,q2⟩:=DR hst.1 he
   have hem:=(mem_left he).1
   rw[q1,List.map_append,List.map_cons]at hl
   obtain⟨m1,m2,hm,hm1,hm2⟩:=List.map_eq_append_iff.1 hl.symm
   cases m2 with
   | nil=>simp at hm2
   | cons k m2=>
    simp only[List.map_cons,List.cons.injEq]at hm2
    obtain⟨hk,hm2⟩:=hm2
    have hp:=p1 m1 k m2 hm
    have h2:aZ w0 M S0 N S φ F a w2:=by
     rcases hw2 with rfl|rfl
     ·exact h
     ·exact h.more (w1:={w with drawn:=w.drawn+1}) (fun _ _ h=>h) (fun _ _ h=>.inl h) ⟨rfl,rfl,rfl,Nat.le_refl _,fun _ _ _=>rfl,fun _ _ _ _=>rfl,fun _ _ _ _=>rfl⟩
    have hheap:w2.heap=w.heap:=by rcases hw2 with rfl|rfl<;>rfl
    have hr2:mp w2 r=some (.mapIter (some b) since seen c0):=by unfold mp;rw[hheap];exact hr
    have hb2:mp w2 b=some (.map ents clock):=by unfold mp;rw[hheap];exact hb
    have hlt:r<w2.heap.size:=Hw hr2
    have hbr:b≠r:=fun e=>by rw[e,hr2]at hb2;cases hb2
    let o':Obj:=.mapIter (some b) since (seen.push e.born) clock
    let w3:World:=setBlock w2 r o'
    have hh:∀ b',w3.heap[b']? = if b'=r then some o' else w2.heap[b']?:=fun b'=>o7 (w:=w2) (b:=r) (o:=o') hlt b'
    have hother:∀ b',b'≠r→∀ o,cel w3 b' o=cel w2 b' o∧fro w3 b' o=fro w2 b' o:=fun b' hne o=>by
     have hb':w3.heap[b']? = w2.heap[b']?:=(hh b').trans (if_neg hne)
     refine⟨?_,Prod.ext ?_ ?_⟩
     ·show World.cell? w3 _=World.cell? w2 _
      unfold World.cell?;simp only[hb']
     ·show World.frozen? w3 _=World.frozen? w2 _
      unfold World.frozen?;simp only[hb']
     ·show mp w3 b'=mp w2 b'
      unfold mp;rw[hb']
    have hcelr:∀ o,cel w3 r o=cel w2 r o:=fun o=>by
     have h1:w3.heap[r]? = some o':=(hh r).trans (if_pos rfl)
     have h2:=wP hr2
     show World.cell? w3 _=World.cell? w2 _
     unfold World.cell?;simp[h1,h2,o']
    have hYr:∀ o,φ s r o:=fun o=>e2 _ _ (f2 0 (Nat.zero_lt_one) _ _ (hown o).1)
    have hk1:bu (φ s) w2 w3:=by
     refine⟨rfl,rfl,rfl,by simp[w3,setBlock],fun b' hb' hn=>(hh b').trans (if_neg fun e=>?_),fun b' o hb' hn=>?_,fun b' o hb' hn=>?_⟩
     ·subst e;exact hn 0 (hYr 0)
     ·by_cases e:b'=r
      ·subst e;exact hcelr o
      ·exact(hother b' e o).1
     ·by_cases e:b'=r
      ·subst e;exact absurd (hYr o) hn
      ·exact(hother b' e o).2
    have hsame:∀ X:ab,(∀ b' o,X b' o→b'≠r)→ba X w2 w3:=fun X hX b' o hb'=>hother b' (hX b' o hb') o
    have h3:aZ w0 M S0 N S (fun t=>if t=s then φ s else φ t) (updH F s .one [.it (some k) (m1++m2)]) a w3:=by
     refine h2.upd (X:=φ s) hk1 hF (fun b o hb=>.inl hb) ⟨NO,Y,fun _ _ h=>h.elim,e2,fun _ _ h=>h.elim,rfl,f,fun j c hj=>?_,fun j hj=>f2 j hj,fun j j' hj hj'=>f3 j j' hj hj'⟩
     match j,hj with
     | 0,hj=>
      simp at hj;subst hj
      show dK w3 S (f 0) _ (tvs a s)
      rw[hv]
      refine .it _ r b since clock clock (seen.push e.born) ents (some k) (m1++m2) hown (by show mp w3 r=_;unfold mp;rw[(hh r).trans (if_pos rfl)]) (by
        have:mp w3 b=mp w2 b:=congrArg Prod.snd (hother b hbr 0).2
        rw[this];exact hb2) hst ⟨hcl.2,hcl.2⟩ hvv (by rw[q2,List.map_append,List.map_append,hm1,hm2]) (fun k' hk'=>by cases hk';exact⟨rfl,e,hem,seen,rfl,hk.symm⟩)
     | j+1,hj=>simp at hj
    obtain⟨F',hK,hst'⟩:=h3.putD_new (v:=.tuple #[.bool true,.int .i64 k,e.val]) (.same (tup3 (hvv e hem))) hp
    exact⟨_,_,F',hK,by rw[hrun,←hk],hst'⟩
 | _=>exact hp.elim
theorem aZ.moveW (h:aZ w0 M S0 N S φ F a w) {d:Nat} {x:Operand} {K:(Nat→AV)→Prop} (hp:gn N F d x K) :
  ∃ F',K F'∧St w0 M S0 N F' (a.put (some d) (a.eval x)) w:=by
 have std:bb F x (fun av=>bA N F d av K)→∃ F',K F'∧St w0 M S0 N F' (a.put (some d) (a.eval x)) w:=fun hp=>by
  obtain⟨av,hK,hs⟩:=h.move hp
  exact h.putD_new (.same hs) hK
 cases x with
 | tmp t=>
  simp only[gn]at hp
  split at hp
  ·rename_i sh cs hF
   cases hn:aQ cs with
   | true=>
    refine std ?_
    simp only[bb,hF,hn,cond_true]
    rw[hn]at hp;exact hp
   | false=>
    rw[hn]at hp
    simp only[cond_false]at hp
    have hs:=h.slot t
    rw[hF]at hs
    obtain⟨X1,Y0,-,-,-,h4,-⟩:=hs
    obtain⟨V,X,h1,h2,hX,h3,h5⟩:=h.take (off:=0) (n:=cs.length) hF (by omega)
    have ht:bp cs 0 cs.length=cs:=by simp[bp]
    rw[ht]at h3
    have hfree:Free w0 M S (fun s=>if s=t then X else φ s) w V:=fun b o hb=>⟨fun s hb'=>by
      simp only at hb'
      by_cases e:s=t
      · rw[if_pos e]at hb';exact h2 b o hb hb'
      · rw[if_neg e]at hb';exact h.dis s t e b o hb' (h1 b o hb),h.disS t b o (h1 b o hb),h.ex t b o (h1 b o hb)⟩
    obtain⟨F2,hK2,hst⟩:=h5.putD_free (X:=V) (v:=tvs a t) ⟨NO,V,fun _ _ h=>h.elim,fun _ _ h=>h,fun _ _ h=>h.elim,(show fI w NO (.tup sh) cs.length (tvs a t) from h4),h3.congr fun j hj=>by rw[Nat.zero_add]⟩ hfree hp
    exact⟨F2,hK2,hst⟩
  all_goals exact std hp
 | const v=>exact std hp
 | global g=>exact std hp
 | func f=>exact std hp
end
end Go.Proofs.YtogajjgmcnjkbaaGreat.Ab
namespace Go.Proofs.YtogajjgmcnjkbaaGreat.Ab
open Go.RowKit
def yy (F:Nat→AV) (d:Nat) (b:Bool):Nat→AV:=fun t=>bif Nat.beq t d then .hold .one [.v (.bool b)] else F t
def fw (F:Nat→AV) (ops:Array Oper) (g:Option (Nat × Bool)) (K1 K0:(Nat→AV)→Prop):Prop:=
 match g with
 | none=>K1 F
 | some (j,want)=>match(ops[j]?).bind (·.dst) with
  | some d=>(match F d with
    | .hold .one [.v (.bool b)]=>Bf b (bif want then K1 (yy F d true) else K0 (yy F d true)) (bif want then K0 (yy F d false) else K1 (yy F d false))
    | .hold (.tup _) _=>K0 F
    | _=>False)
  | none=>False
def t7 (c:Call):Option (Nat × Operand × Operand):=
 match c.callee with
 | .builtin .append=>(match c.args.toList,c.argTypes.toList with|[x,y],[T,T2]=>bif Nat.beq T T2 then some (T,x,y) else none|_,_=>none)
 | _=>none
def ot (P:Program) (TE:Nat→Option TI) (N:fq) (d:Nat) (op:Op) (K:(Nat→AV)→Prop) (F:Nat→AV):Prop:=
 match op with
 | .assign x=>iN N F d x K
 | .box _ x=>EU N F d x K
 | .build T ps=>iO TE N F d T ps.toList K
 | .buildSlice T n ps=>gw TE N F d T n ps.toList K
 | .range T x=>nh TE N F d T x K
 | .move x=>gn N F d x K
 | .next x str=>bif str then False else qg N F d x K
 | .entry x=>nj N F d x K
 | .call c=>(match t7 c with
   | some p=>uY TE N F d p.1 p.2.1 p.2.2 K
   | none=>du P TE F (.call c) fun av=>bA N F d av K)
 | op=>du P TE F op fun av=>bA N F d av K
def Fi:List (Nat × List Nat)→Nat→Option (List Nat)
 | [],_=>none
 | p::l,f=>bif Nat.beq f p.1 then some p.2 else Fi l f
def Gl (N:fq) (F:Nat→AV) (op:Op):Option (Nat × List Operand × List Nat):=
 match op with
 | .call c=>(match c.callee with
   | .value (.func f)=>(match Fi N.mo f with|some ms=>some (f,c.args.toList,ms)|none=>none)
   | .value (.tmp t)=>(match F t with
     | .fn f caps=>(match Fi N.mo f with|some ms=>some (f,c.args.toList++caps.map .tmp,ms)|none=>none)
     | _=>none)
   | _=>none)
 | _=>none
def lZ (P:Program) (TE:Nat→Option TI) (N:fq) (ops:Array Oper) (o:Oper) (K:(Nat→AV)→Prop) (F:Nat→AV):Prop:=
 fw F ops o.guard (fun F=>match Gl N F o.op with
   | some p=>rR P N F o.dst p.1 p.2.1 p.2.2 K
   | none=>match o.dst with
     | none=>(match o.op with|.store T x y=>lA TE F T x y K|.mapUpdate T m x y=>ne TE F T m x y K|_=>False)
     | some d=>ot P TE N d o.op K F)
  (fun F=>match o.dst with|none=>K F|some d=>bA N F d (.hold (.tup []) []) K)
def DU (P:Program) (TE:Nat→Option TI) (N:fq) (ops:Array Oper):List Oper→((Nat→AV)→Prop)→(Nat→AV)→Prop
 | [],K,F=>K F
 | o::rest,K,F=>lZ P TE N ops o (DU P TE N ops rest K) F
section
variable {P:Program} {w0 w w1:World} {M S0 S:ab} {N:fq} {φ:Nat→ab} {F:Nat→AV} {a:Act} {TE:Nat→Option TI}
theorem tl (h:aZ w0 M S0 N S φ F a w) {ops:Array Oper} {o:Oper} {K1 K0:(Nat→AV)→Prop} (hp:fw F ops o.guard K1 K0) :
  (Region.wanted o (yielded ops a.tmps)=true∧K1 F)∨(Region.wanted o (yielded ops a.tmps)=false∧K0 F):=by
 unfold fw at hp
 unfold Region.wanted
 cases hg:o.guard with
 | none=>rw[hg]at hp;exact .inl ⟨rfl,hp⟩
 | some p=>
  obtain⟨j,want⟩:=p
  rw[hg]at hp
  simp only at hp ⊢
  cases hd:(ops[j]?).bind (·.dst) with
  | none=>rw[hd]at hp;exact hp.elim
  | some d=>
   rw[hd]at hp
   simp only at hp
   split at hp
   case h_3=>exact hp.elim
   case h_2=>
    rename_i sh cs hF
    have hs:=h.slot d
    rw[hF]at hs
    obtain⟨X1,Y,-,-,-,⟨q,htv,-,-⟩,-⟩:=hs
    have hyld:yielded ops a.tmps j=none:=by
     unfold yielded
     rw[hd]
     simp only[Option.bind_some]
     cases hx:a.tmps[d]? with
     | none=>rfl
     | some x=>
      have:tvs a d=x:=by simp[tvs,Array.getD_eq_getD_getElem?,hx]
      rw[this]at htv
      rw[htv]
    rw[hyld]
    exact .inr ⟨rfl,hp⟩
   rename_i b hF
   have hs:=h.slot d
   rw[hF]at hs
   obtain⟨X1,Y,-,-,-,-,f,h1,-⟩:=hs
   have hb:=h1 0 _ rfl
   have htv:tvs a d=.bool b:=by
    generalize hy:cA w Kd.one (tvs a d) 0=y at hb
    cases hb
    exact hy
   have hyld:yielded ops a.tmps j=some b:=by
    unfold yielded
    rw[hd]
    simp only[Option.bind_some]
    cases hx:a.tmps[d]? with
    | none=>
     have:tvs a d=undef:=by simp[tvs,Array.getD_eq_getD_getElem?,hx]
     rw[this]at htv;cases htv
    | some x=>
     have:tvs a d=x:=by simp[tvs,Array.getD_eq_getD_getElem?,hx]
     rw[this]at htv
     rw[htv]
   have hset:yy F d b=F:=by
    funext t
    unfold yy
    cases ht:Nat.beq t d with
    | true=>have:=Nat.eq_of_beq_eq_true ht;subst this;rw[hF];rfl
    | false=>rfl
   rw[hyld]
   replace hp:=Bf.out hp
   cases b<;>cases want<;>rw[hset]at hp
   ·exact .inl ⟨rfl,hp⟩
   ·exact .inr ⟨rfl,hp⟩
   ·exact .inr ⟨rfl,hp⟩
   ·exact .inl ⟨rfl,hp⟩
theorem Fr {w:World} {S:ab} {F:Nat→AV} {tv:Nat→Value} : cb w S F tv NO (.hold (.tup []) []) undef:=
 ⟨NO,NO,fun _ _ h=>h,fun _ _ h=>h,fun _ _ h=>h.elim,⟨#[],rfl,trivial,rfl⟩,fun _=>NO,fun _ _ hj=>(by simp at hj),fun _ hj=>absurd hj (Nat.not_lt_zero _),fun _ _ hj=>absurd hj (Nat.not_lt_zero _)⟩
theorem tg {c:Call} {p:Nat × Operand × Operand} (h:t7 c=some p):c = ⟨.builtin .append,#[p.2.1,p.2.2],#[p.1,p.1]⟩:=by
 obtain⟨callee,args,ts⟩:=c
 unfold t7 at h
 simp only at h
 split at h
 ·split at h
  ·rename_i x y T T2 hx hT
   cases hb:Nat.beq T T2 with
   | false=>rw[hb]at h;cases h
   | true=>
    rw[hb]at h
    simp only[cond_true,Option.some.injEq]at h
    have:=Nat.eq_of_beq_eq_true hb
    subst this h
    have e1:args = #[x,y]:=by apply Array.ext';simpa using hx
    have e2:ts = #[T,T]:=by apply Array.ext';simpa using hT
    rw[e1,e2]
  ·cases h
 ·cases h
theorem aZ.dst (h:aZ w0 M S0 N S φ F a w) (hTE:∀ t i,TE t=some i→b9 P t i) {o:Oper} {d:Nat} (hd:o.dst=some d) {K:(Nat→AV)→Prop} (hp:ot P TE N d o.op K F)
  {Kc:Act→World→Prop} {Q:Exit→Act→World→Prop} (hk:∀ F' a' w',K F'→St w0 M S0 N F' a' w'→Kc a' w'):o.wp P a w Kc Q:=by
 have pure1:du P TE F o.op (fun av=>bA N F d av K)→o.wp P a w Kc Q:=fun hp=>by
  obtain⟨av,hK,hy⟩:=h.pure_ hTE hp
  refine hy Kc Q fun v w' hn=>?_
  obtain⟨F',hK',hst⟩:=h.putD_new hn hK
  rw[hd]
  exact hk F' _ w' hK' hst
 have val:∀ {v:Value} {w1:World} {F':Nat→AV},(execOp a.eval o).run P w=.ok (.value v) w1→K F'→St w0 M S0 N F' (a.put (some d) v) w1→o.wp P a w Kc Q:=fun {v w1 F'} hr hK hst=>by
  have:=u7.value (P:=P) (o:=o) (a:=a) (w:=w) (w1:=w1) (v:=v) (R:=fun v' w'=>v'=v∧w'=w1) hr ⟨rfl,rfl⟩
  refine this Kc Q fun v' w' ⟨e1,e⟩=>?_
  rw[e,e1,hd]
  exact hk F' _ w1 hK hst
 cases ho:o.op with
 | assign x=>
  rw[ho]at hp
  obtain⟨F',hK,hst⟩:=h.assign hp
  exact val (by simp[execOp,ho]) hK hst
 | box T x=>
  rw[ho]at hp
  obtain⟨v,w1,F',hK,hr,hst⟩:=h.boxW (P:=P) (T:=T) hp
  exact val (by simp[execOp,ho,hr]) hK hst
 | build T ps=>
  rw[ho]at hp
  obtain⟨v,F',hK,hr,hst⟩:=h.buildW hTE hp
  exact val (by simp only[execOp,ho];rw[Sem.run_bind,hr];rfl) hK hst
 | buildSlice T n ps=>
  rw[ho]at hp
  obtain⟨v,w1,F',hK,hr,hst⟩:=h.buildSW hTE hp
  exact val (by simp only[execOp,ho];rw[Sem.run_bind,hr];rfl) hK hst
 | move x=>
  rw[ho]at hp
  obtain⟨F',hK,hst⟩:=h.moveW hp
  exact val (by simp[execOp,ho]) hK hst
 | range T x=>
  rw[ho]at hp
  obtain⟨v,w1,F',hK,hr,hst⟩:=h.rangeW hTE hp
  exact val (by simp[execOp,ho,hr]) hK hst
 | next x str=>
  rw[ho]at hp
  cases str with
  | true=>exact hp.elim
  | false=>
   obtain⟨v,w1,F',hK,hr,hst⟩:=h.nextW (P:=P) (ty:=o.type) hp
   exact val (by simp[execOp,ho,hr]) hK hst
 | entry x=>
  rw[ho]at hp
  obtain⟨v,F',hK,hr,hst⟩:=h.entryW (P:=P) hp
  exact val (by simp[execOp,ho,hr]) hK hst
 | call c=>
  rw[ho]at hp
  simp only[ot]at hp
  cases ha:t7 c with
  | none=>rw[ha]at hp;exact pure1 (by rw[ho];exact hp)
  | some p=>
   rw[ha]at hp
   obtain⟨v,w1,F',hK,hr,hst⟩:=h.appW (ty:=o.type) hTE hp
   have:=tg ha
   subst this
   exact val (by simp[execOp,ho,resolve,invoke,builtin,hr]) hK hst
 | _=>rw[ho]at hp;exact pure1 (by rw[ho];exact hp)
theorem FT (h:aZ w0 M S0 N S φ F a w) {o:Oper} {p:Nat × List Operand × List Nat} (hm:Gl N F o.op=some p):G7 P p.1→(execOp a.eval o).run P w=.ok (.enter p.1 (p.2.1.map a.eval).toArray) w:=by
 intro hH
 unfold Gl at hm
 split at hm
 case h_2=>cases hm
 rename_i c ho
 obtain⟨callee,args,ts⟩:=c
 simp only at hm
 split at hm
 ·rename_i f
  split at hm
  ·cases hm
   have:=zu (a:=a) (w:=w) ho hH
   rw[this]
   congr 2
   apply Array.ext'
   rw[Array.toList_map]
  ·cases hm
 ·rename_i t
  have hs:=h.slot t
  split at hm
  ·rename_i f caps hF
   rw[hF]at hs
   split at hm
   ·cases hm
    have hrun:=pL (a:=a) (w:=w) (caps:=caps.map (tvs a)) ho hH hs
    rw[hrun]
    congr 2
    rw[List.map_append,List.map_map]
    rfl
   ·cases hm
  ·cases hm
 ·cases hm
theorem aZ.one (h:aZ w0 M S0 N S φ F a w) (hTE:∀ t i,TE t=some i→b9 P t i) {ops:Array Oper} {o:Oper} {K:(Nat→AV)→Prop} (hp:lZ P TE N ops o K F)
  {Kc:Act→World→Prop} {Q:Exit→Act→World→Prop} (hk:∀ F' a' w',K F'→St w0 M S0 N F' a' w'→Kc a' w') :
  if Region.wanted o (yielded ops a.tmps) then o.wp P a w Kc Q else Kc (a.put o.dst undef) w:=by
 unfold lZ at hp
 rcases tl h hp with⟨hw,hp⟩|⟨hw,hp⟩
 ·rw[hw,if_pos rfl]
  cases hm:Gl N F o.op with
  | some p=>
   rw[hm]at hp
   exact h.callM (FT h hm) hp hk
  | none=>
  rw[hm]at hp
  simp only at hp
  cases hd:o.dst with
  | none=>
   rw[hd]at hp
   simp only at hp
   split at hp
   ·rename_i T x y ho
    obtain⟨F',w1,hK,hrun,hst⟩:=h.storeOp hTE hp
    have:=u7.skip (P:=P) (o:=o) (a:=a) (w:=w) (w1:=w1) (R:=fun v w'=>v=undef∧w'=w1) (by simp[execOp,ho,hrun]) ⟨rfl,rfl⟩
    refine this Kc Q fun v w' ⟨_,e⟩=>?_
    rw[e,hd]
    exact hk F' a w1 hK hst
   ·rename_i T m x y ho
    obtain⟨F',w1,hK,hrun,hst⟩:=h.mapUpd hTE hp
    have:=u7.skip (P:=P) (o:=o) (a:=a) (w:=w) (w1:=w1) (R:=fun v w'=>v=undef∧w'=w1) (by simp[execOp,ho,hrun]) ⟨rfl,rfl⟩
    refine this Kc Q fun v w' ⟨_,e⟩=>?_
    rw[e,hd]
    exact hk F' a w1 hK hst
   ·exact hp.elim
  | some d=>
   rw[hd]at hp
   exact h.dst hTE hd hp hk
 ·rw[hw,if_neg (by simp)]
  cases hd:o.dst with
  | none=>rw[hd]at hp;exact hk F a w hp ⟨S,φ,h⟩
  | some d=>
   rw[hd]at hp
   obtain⟨F',hK,hst⟩:=h.putD_new (v:=undef) (kH.same (av:=.hold (.tup []) []) Fr) hp
   exact hk F' _ w hK hst
theorem zg (hTE:∀ t i,TE t=some i→b9 P t i) {ops:Array Oper} {K:(Nat→AV)→Prop} {Q:Exit→Act→World→Prop} (hk:∀ F' a' w',K F'→St w0 M S0 N F' a' w'→Q .normal a' w') :
  ∀ (l:List Oper) (F:Nat→AV) (a:Act) (w:World),DU P TE N ops l K F→St w0 M S0 N F a w→wpList P ops Q l a w
 | [],F,a,w,hp,hs=>hk F a w hp hs
 | o::l,F,a,w,hp,⟨S,φ,h⟩=>by
  have:=h.one hTE hp (Kc:=wpList P ops Q l) (Q:=Q) fun F' a' w' hK hs=>zg hTE hk l F' a' w' hK hs
  unfold wpList
  split
  ·rename_i hw;rw[if_pos hw]at this;exact .inl this
  ·rename_i hw;rw[if_neg hw]at this;exact this
end
end Go.Proofs.YtogajjgmcnjkbaaGreat.Ab
namespace Go.Proofs.YtogajjgmcnjkbaaGreat.Ab
open Go.RowKit
def tm:Operand→List Nat
 | .tmp t=>[t]
 | _=>[]
def gG (F F':Nat→AV) (ts:List Nat):Prop:=∀ t,t∈ts→F' t=F t∧∀ t',(F t).uses t'=true→∀ k cs,F t'=.hold k cs→F' t'=.hold k cs
theorem gG.mono {F F':Nat→AV} {ts ts':List Nat} (h:gG F F' ts) (hs:∀ t,t∈ts'→t∈ts):gG F F' ts':=fun t ht=>h t (hs t ht)
theorem gG.ev {F F':Nat→AV} {x:Operand} (h:gG F F' (tm x)):lW F' x=lW F x:=by
 cases x with
 | tmp t=>exact(h t (by simp[tm])).1
 | _=>rfl
def dB (F:Nat→AV) (ts:List Nat) (av:AV):Prop:=∀ d,av.uses d=true→d∈ts∨∃ t,t∈ts∧(F t).uses d=true
theorem dB.hold (F:Nat→AV) (ts:List Nat) (k:Kd) (cs:List C):dB F ts (.hold k cs):=fun d h=>by cases h
theorem dB.iref (F:Nat→AV) (ts:List Nat) (r:List C) (o:Nat):dB F ts (.iref r o):=fun d h=>by cases h
def mA (p:(Nat→AV)→(AV→Prop)→Prop) (F:Nat→AV) (ts:List Nat) (K:AV→Prop):Prop:=∃ av,K av∧dB F ts av∧∀ F',gG F F' ts→∀ K':AV→Prop,K' av→p F' K'
section
variable {F:Nat→AV} {K:AV→Prop} {TE:Nat→Option TI} {P:Program}
theorem sQ {t off:Nat} {st:bW} {k:List C→Nat→Prop} (h:rl F t off st k):∃ r j,k r j∧∀ F':Nat→AV,(∀ k cs,F t=.hold k cs→F' t=.hold k cs)→∀ k':List C→Nat→Prop,k' r j→rl F' t off st k':=by
 obtain⟨kd,cs,r,j,hF,hr,hk⟩:=mZ h
 refine⟨r,j,hk,fun F' hF' k' hk'=>?_⟩
 unfold rl
 rw[hF' kd cs hF]
 cases st with
 | nil=>
  simp only[bD,Option.some.injEq,Prod.mk.injEq]at hr
  obtain⟨rfl,rfl⟩:=hr
  exact hk'
 | cons s st=>exact Rw.mk hr hk'
theorem jO (v:Value) (d:Nat):(j6 v).uses d=false:=by
 cases v with
 | agg arr=>
  simp only[j6]
  cases arr.all (·.oneCell')<;>rfl
 | pointer p=>cases p<;>rfl
 | _=>rfl
theorem cn {x:Operand} {k:Option Nat→List C→Prop} (h:gx F (lW F x) k):∃ ag cs,k ag cs∧∀ F':Nat→AV,gG F F' (tm x)→∀ k':Option Nat→List C→Prop,k' ag cs→gx F' (lW F' x) k':=by
 cases hx:lW F x with
 | hold kd cs=>
  rw[hx]at h
  cases kd with
  | one=>exact⟨_,_,h,fun F' hF k' hk=>by rw[hF.ev,hx];exact hk⟩
  | agg=>exact⟨_,_,h,fun F' hF k' hk=>by rw[hF.ev,hx];exact hk⟩
  | _=>exact h.elim
 | bor t off st ag=>
  rw[hx]at h
  replace h:rl F t off st fun r j=>k ag (bp r j (ag.getD 1)):=h
  obtain⟨r,j,hk,hl⟩:=sQ h
  refine⟨_,_,hk,fun F' hF k' hk'=>?_⟩
  rw[hF.ev,hx]
  refine hl F' (fun kd cs hh=>?_) (fun r j=>k' ag (bp r j (ag.getD 1))) hk'
  cases x with
  | tmp t0=>
   have hx':F t0=.bor t off st ag:=hx
   exact(hF t0 (by simp[tm])).2 t (by rw[hx'];simp[AV.uses]) kd cs hh
  | const v=>
   have:=jO v t
   rw[show j6 v=.bor t off st ag from hx]at this
   simp[AV.uses]at this
  | global g=>cases hx
  | func f=>cases hx
 | dead=>rw[hx]at h;exact h.elim
 | ref=>rw[hx]at h;exact h.elim
 | iref=>rw[hx]at h;exact h.elim
 | fn f caps=>
  rw[hx]at h
  cases caps with
  | cons c cs=>exact h.elim
  | nil=>exact⟨_,_,h,fun F' hF k' hk=>by rw[hF.ev,hx];exact hk⟩
 | fv=>rw[hx]at h;exact h.elim
theorem gk {x:Operand} {k:Value→Prop} (h:An F x k):∃ z,k z∧∀ F':Nat→AV,gG F F' (tm x)→∀ k':Value→Prop,k' z→An F' x k':=by
 obtain⟨ag,cs,hk,hl⟩:=cn h
 match ag,cs,hk with
 | none,[.v z],hk=>exact⟨z,hk,fun F' hF k' hk'=>hl F' hF _ hk'⟩
theorem Ex {F':Nat→AV} {t:Nat} (h:F' t=F t):bb F' (.tmp t) K=bb F (.tmp t) K:=by simp only[bb,h]
theorem gM {x:Operand} (h:bb F x K):mA (fun F K=>bb F x K) F (tm x) K:=by
 cases x with
 | tmp t=>
  have ht:t∈tm (.tmp t):=by simp[tm]
  have fin:∀ av,K av→dB F (tm (.tmp t)) av→(∀ K':AV→Prop,K' av→bb F (.tmp t) K')→mA (fun F K=>bb F (.tmp t) K) F (tm (.tmp t)) K:=fun av h1 h2 h3=>
   ⟨av,h1,h2,fun F' hA K' hK=>by
     show bb F' (.tmp t) _
     rw[Ex (hA t ht).1]
     exact h3 K' hK⟩
  have loc:∀ d,d=t→d∈tm (.tmp t):=fun d e=>by subst e;exact ht
  cases hF:F t with
  | hold k cs=>
   cases k with
   | box=>
    have e:∀ K',bb F (.tmp t) K'=K' (.ref t 0 []):=fun K'=>by simp only[bb,hF]
    rw[e]at h
    exact fin _ h (fun d hd=>.inl (loc d (by simp[AV.uses]at hd;exact hd.symm))) (fun K' hK=>by rw[e];exact hK)
   | one=>
    cases hn:aQ cs with
    | true=>
     have e:∀ K',bb F (.tmp t) K'=K' (.hold .one cs):=fun K'=>by simp only[bb,hF,hn,cond_true]
     rw[e]at h
     exact fin _ h (dB.hold _ _ _ _) (fun K' hK=>by rw[e];exact hK)
    | false=>
     have e:∀ K',bb F (.tmp t) K'=K' (.bor t 0 [] none):=fun K'=>by simp only[bb,hF,hn,cond_false]
     rw[e]at h
     exact fin _ h (fun d hd=>.inl (loc d (by simp[AV.uses]at hd;exact hd.symm))) (fun K' hK=>by rw[e];exact hK)
   | agg=>
    cases hn:aQ cs with
    | true=>
     have e:∀ K',bb F (.tmp t) K'=K' (.hold .agg cs):=fun K'=>by simp only[bb,hF,hn,cond_true]
     rw[e]at h
     exact fin _ h (dB.hold _ _ _ _) (fun K' hK=>by rw[e];exact hK)
    | false=>
     have e:∀ K',bb F (.tmp t) K'=K' (.bor t 0 [] (some cs.length)):=fun K'=>by simp only[bb,hF,hn,cond_false]
     rw[e]at h
     exact fin _ h (fun d hd=>.inl (loc d (by simp[AV.uses]at hd;exact hd.symm))) (fun K' hK=>by rw[e];exact hK)
   | tup sh=>
    cases hn:aQ cs with
    | true=>
     have e:∀ K',bb F (.tmp t) K'=K' (.hold (.tup sh) cs):=fun K'=>by simp only[bb,hF,hn,cond_true]
     rw[e]at h
     exact fin _ h (dB.hold _ _ _ _) (fun K' hK=>by rw[e];exact hK)
    | false=>simp only[bb,hF,hn,cond_false]at h
  | dead=>
   have e:∀ K',bb F (.tmp t) K'=K' .dead:=fun K'=>by simp only[bb,hF]
   rw[e]at h
   exact fin _ h (fun d hd=>by cases hd) (fun K' hK=>by rw[e];exact hK)
  | ref t' off st=>
   have e:∀ K',bb F (.tmp t) K'=K' (.ref t' off st):=fun K'=>by simp only[bb,hF]
   rw[e]at h
   exact fin _ h (fun d hd=>.inr ⟨t,ht,by rw[hF];exact hd⟩) (fun K' hK=>by rw[e];exact hK)
  | bor t' off st ag=>
   have e:∀ K',bb F (.tmp t) K'=K' (.bor t' off st ag):=fun K'=>by simp only[bb,hF]
   rw[e]at h
   exact fin _ h (fun d hd=>.inr ⟨t,ht,by rw[hF];exact hd⟩) (fun K' hK=>by rw[e];exact hK)
  | iref r off=>
   have e:∀ K',bb F (.tmp t) K'=K' (.iref r off):=fun K'=>by simp only[bb,hF]
   rw[e]at h
   exact fin _ h (fun d hd=>by cases hd) (fun K' hK=>by rw[e];exact hK)
  | fn f caps=>
   have e:∀ K',bb F (.tmp t) K'=K' (.fn f caps):=fun K'=>by simp only[bb,hF]
   rw[e]at h
   exact fin _ h (fun d hd=>.inr ⟨t,ht,by rw[hF];exact hd⟩) (fun K' hK=>by rw[e];exact hK)
  | fv Ok=>
   have e:∀ K',bb F (.tmp t) K'=K' (.fv Ok):=fun K'=>by simp only[bb,hF]
   rw[e]at h
   exact fin _ h (fun d hd=>by cases hd) (fun K' hK=>by rw[e];exact hK)
 | const v=>
  refine⟨_,h,fun d hd=>?_,fun F' _ K' hK=>hK⟩
  have:=jO v d
  rw[show(j6 v).uses d=true from hd]at this
  cases this
 | global g=>exact⟨_,h,(fun d hd=>by cases hd),fun F' _ K' hK=>hK⟩
 | func f=>exact⟨_,h,(fun d hd=>by cases hd),fun F' _ K' hK=>hK⟩
theorem BY {i:TI} {t off:Nat} {st:bW} {ts:List Nat} (ht:t∈ts∨∃ t0,t0∈ts∧(F t0).uses t=true) (h:HI F i t off st K) :
  ∃ av,K av∧dB F ts av∧∀ F':Nat→AV,(∀ k cs,F t=.hold k cs→F' t=.hold k cs)→∀ K':AV→Prop,K' av→HI F' i t off st K':=by
 obtain⟨r,j,hk,hl⟩:=sQ h
 cases hb:Nat.beq (bp r j i.size).length i.size with
 | false=>rw[hb]at hk;exact hk.elim
 | true=>
  rw[hb]at hk
  simp only[cond_true]at hk
  cases hn:aQ (bp r j i.size) with
  | true=>rw[hn]at hk;exact⟨_,hk,dB.hold _ _ _ _,fun F' hF K' hK=>hl F' hF _ (by rw[hb,hn];exact hK)⟩
  | false=>rw[hn]at hk;exact⟨_,hk,fun d hd=>by simp[AV.uses]at hd;subst hd;exact ht,fun F' hF K' hK=>hl F' hF _ (by rw[hb,hn];exact hK)⟩
theorem F8 {T:Nat} {x:Operand} (h:qR TE F T x K):mA (fun F K=>qR TE F T x K) F (tm x) K:=by
 unfold qR at h
 cases hT:TE T with
 | none=>rw[hT]at h;exact h.elim
 | some i=>
  rw[hT]at h
  simp only at h
  cases ha:(i.agg || Nat.beq i.size 1) with
  | false=>rw[ha]at h;exact h.elim
  | true=>
   rw[ha]at h
   simp only[cond_true]at h
   cases x with
   | tmp t=>
    have ht:t∈tm (.tmp t):=by simp[tm]
    simp only at h
    have same:∀ {F'},gG F F' (tm (.tmp t))→F' t=F t:=fun hF=>(hF t ht).1
    have unf:∀ {F'} {K':AV→Prop},gG F F' (tm (.tmp t))→(match F t with|.hold .box _=>HI F' i t 0 [] K'|.ref t off st=>HI F' i t off st K'|.iref r off=>bif Nat.beq (bp r off i.size).length i.size then K' (.hold (jK (nm i)) (bp r off i.size)) else False|_=>False)→qR TE F' T (.tmp t) K':=fun hA hh=>by
     unfold qR
     rw[hT]
     simp only[ha,cond_true]
     rw[same hA]
     exact hh
    cases hF:F t with
    | hold k cs=>
     rw[hF]at h
     cases k with
     | box=>
      obtain⟨av,h1,h2,h3⟩:=BY (ts:=tm (.tmp t)) (.inl ht) h
      exact⟨av,h1,h2,fun F' hA K' hK=>unf hA (by rw[hF];exact h3 F' (fun k cs hh=>(same hA).trans hh) K' hK)⟩
     | _=>exact h.elim
    | ref t' off st=>
     rw[hF]at h
     have hu:(F t).uses t'=true:=by rw[hF];simp[AV.uses]
     obtain⟨av,h1,h2,h3⟩:=BY (ts:=tm (.tmp t)) (.inr ⟨t,ht,hu⟩) h
     exact⟨av,h1,h2,fun F' hA K' hK=>unf hA (by rw[hF];exact h3 F' (fun k cs hh=>(hA t ht).2 t' hu k cs hh) K' hK)⟩
    | iref r off=>
     rw[hF]at h
     simp only at h
     cases hb:Nat.beq (bp r off i.size).length i.size with
     | false=>rw[hb]at h;exact h.elim
     | true=>
      rw[hb]at h
      exact⟨_,h,dB.hold _ _ _ _,fun F' hA K' hK=>unf hA (by rw[hF];simp only[hb,cond_true];exact hK)⟩
    | dead=>rw[hF]at h;exact h.elim
    | bor=>rw[hF]at h;exact h.elim
    | fn=>rw[hF]at h;exact h.elim
    | fv=>rw[hF]at h;exact h.elim
   | _=>exact h.elim
theorem Ax {x:Operand} {o:Nat} (h:mQ F x o K):mA (fun F K=>mQ F x o K) F (tm x) K:=by
 cases x with
 | tmp t=>
  have ht:t∈tm (.tmp t):=by simp[tm]
  simp only[mQ]at h
  cases hF:F t with
  | hold k cs=>
   rw[hF]at h
   cases k with
   | box=>exact⟨_,h,fun d hd=>.inl (by simp[AV.uses]at hd;subst hd;exact ht),fun F' hA K' hK=>by simp only[mQ,(hA t ht).1,hF];exact hK⟩
   | _=>exact h.elim
  | ref t' off st=>rw[hF]at h;exact⟨_,h,fun d hd=>.inr ⟨t,ht,by rw[hF];exact hd⟩,fun F' hA K' hK=>by simp only[mQ,(hA t ht).1,hF];exact hK⟩
  | iref r off=>rw[hF]at h;exact⟨_,h,dB.iref _ _ _ _,fun F' hA K' hK=>by simp only[mQ,(hA t ht).1,hF];exact hK⟩
  | dead=>rw[hF]at h;exact h.elim
  | bor=>rw[hF]at h;exact h.elim
  | fn=>rw[hF]at h;exact h.elim
  | fv=>rw[hF]at h;exact h.elim
 | _=>exact h.elim
theorem tS {T:Nat} {x:Operand} {f:Nat} (h:fL TE F T x f K):mA (fun F K=>fL TE F T x f K) F (tm x) K:=by
 unfold fL at h
 unfold mA fL
 split at h
 case h_2=>exact h.elim
 split at h
 case h_2=>exact h.elim
 rename_i o ft _
 split at h
 case h_2=>exact h.elim
 rename_i fi _
 cases h0:Nat.beq fi.size 0 with
 | true=>rw[h0]at h;exact h.elim
 | false=>
  rw[h0]at h
  simp only[cond_false]at h ⊢
  exact Ax h
theorem xE {size t off:Nat} {st:bW} {c:C} {i:Int} {ts:List Nat} (ht:t∈ts∨∃ t0,t0∈ts∧(F t0).uses t=true) (h:Bx size t off st c i K):∃ av,K av∧dB F ts av∧∀ K':AV→Prop,K' av→Bx size t off st c i K':=by
 cases c with
 | s o rows=>
  obtain⟨h0,r,hr,hk⟩:=Ix.out h
  cases hb:Nat.beq r.length size with
  | false=>rw[hb]at hk;exact hk.elim
  | true=>
   rw[hb]at hk
   simp only[cond_true]at hk
   cases hm:o.mine with
   | true=>rw[hm]at hk;exact⟨_,hk,fun d hd=>by simp[AV.uses]at hd;subst hd;exact ht,fun K' hK=>Ix.mk h0 hr (by rw[hb,hm];exact hK)⟩
   | false=>rw[hm]at hk;exact⟨_,hk,dB.iref _ _ _ _,fun K' hK=>Ix.mk h0 hr (by rw[hb,hm];exact hK)⟩
 | _=>exact h.elim
theorem zW {size:Nat} {x:Operand} {i:Int} (h:lv F size x i K):mA (fun F K=>lv F size x i K) F (tm x) K:=by
 cases x with
 | tmp t=>
  have ht:t∈tm (.tmp t):=by simp[tm]
  simp only[lv]at h
  cases hF:F t with
  | hold k0 cs=>
   rw[hF]at h
   cases k0 with
   | one=>
    match cs,h,hF with
    | [c],h,hF=>
     obtain⟨av,h1,h2,h3⟩:=xE (ts:=tm (.tmp t)) (.inl ht) h
     exact⟨av,h1,h2,fun F' hA K' hK=>by simp only[lv,(hA t ht).1,hF];exact h3 K' hK⟩
   | _=>exact h.elim
  | bor t' off st ag=>
   rw[hF]at h
   cases ag with
   | none=>
    replace h:rl F t' off st fun r j=>match r[j]? with|some c=>Bx size t' off st c i K|none=>False:=h
    obtain⟨r,j,hk,hrl⟩:=sQ h
    have hu:(F t).uses t'=true:=by rw[hF];simp[AV.uses]
    cases hc:r[j]? with
    | none=>rw[hc]at hk;exact hk.elim
    | some c=>
     rw[hc]at hk
     obtain⟨av,h1,h2,h3⟩:=xE (ts:=tm (.tmp t)) (.inr ⟨t,ht,hu⟩) hk
     exact⟨av,h1,h2,fun F' hA K' hK=>by simp only[lv,(hA t ht).1,hF];exact hrl F' (fun k cs hh=>(hA t ht).2 t' hu k cs hh) _ (by rw[hc];exact h3 K' hK)⟩
   | some n=>exact h.elim
  | dead=>rw[hF]at h;exact h.elim
  | ref=>rw[hF]at h;exact h.elim
  | iref=>rw[hF]at h;exact h.elim
  | fn=>rw[hF]at h;exact h.elim
  | fv=>rw[hF]at h;exact h.elim
 | _=>exact h.elim
theorem uk {T:Nat} {x y:Operand} (h:fJ TE F T x y K):mA (fun F K=>fJ TE F T x y K) F (tm x++tm y) K:=by
 unfold fJ at h
 unfold mA fJ
 split at h
 case h_2=>exact h.elim
 split at h
 case h_2=>exact h.elim
 rename_i ei hei
 obtain⟨z,hz,hl⟩:=gk h
 cases z with
 | int kk i=>
  obtain⟨av,h1,h2,h3⟩:=zW hz
  refine⟨av,h1,fun d hd=>(h2 d hd).imp (fun h=>by simp[h]) (fun⟨t,ht,hu⟩=>⟨t,by simp[ht],hu⟩),fun F' hA K' hK=>?_⟩
  exact hl F' (hA.mono (by simp +contextual)) _ (h3 F' (hA.mono (by simp +contextual)) K' hK)
 | _=>exact hz.elim
end
end Go.Proofs.YtogajjgmcnjkbaaGreat.Ab
namespace Go.Proofs.YtogajjgmcnjkbaaGreat.Ab
open Go.RowKit
def lay:List (Nat × AV)→Nat→AV
 | [],_=>.dead
 | p::l,t=>bif Nat.beq t p.1 then p.2 else lay l t
def HF:C→C→Prop
 | _,.x=>True
 | .z,.s .imm rows=>rows=[]
 | .z,.s .own rows=>rows=[]
 | .s (.tag _) rows,.s .own rows'=>rows=rows'
 | c,c'=>c=c'
def G5:List C→List C→Prop
 | [],[]=>True
 | c::cs,c'::cs'=>HF c c'∧G5 cs cs'
 | _,_=>False
def H2 (F F1:Nat→AV) (t:Nat) (av:AV):Prop:=
 match av with
 | .dead=>True
 | .hold k cs=>(match F t with|.hold k' cs'=>k'=k∧G5 cs' cs|_=>False)
 | .ref t' off st=>F t=.ref t' off st∧F1 t'=F t'
 | .bor t' off st ag=>F t=.bor t' off st ag∧F1 t'=F t'
 | .iref r off=>F t=.iref r off
 | .fn f caps=>F t=.fn f caps
 | .fv Ok=>F t=.fv Ok
def Gp (F F1:Nat→AV):List (Nat × AV)→Prop
 | []=>True
 | p::l=>H2 F F1 p.1 p.2∧Gp F F1 l
def Wk (F:Nat→AV) (L:List (Nat × AV)):Prop:=Gp F (lay L) L
theorem tM {F F1:Nat→AV} : ∀ {L:List (Nat × AV)},Gp F F1 L→∀ t,lay L t=.dead∨H2 F F1 t (lay L t)
 | [],_,t=>.inl rfl
 | p::L,h,t=>by
  simp only[lay]
  cases hb:Nat.beq t p.1 with
  | true=>
   have:=Nat.eq_of_beq_eq_true hb
   subst this
   exact .inr h.1
  | false=>exact tM h.2 t
def fz1 (t:Nat) (F:Nat→AV):Nat→AV:=fun s=>bif Nat.beq s t then(match F s with|.hold k cs=>.hold k (dV cs)|.dead=>.dead|.ref ..=>.dead|.bor ..=>.dead|.iref ..=>.dead|.fn ..=>.dead|.fv _=>.dead) else kl t (F s)
def fzA:List Nat→(Nat→AV)→Nat→AV
 | [],F=>F
 | t::ts,F=>fzA ts (fz1 t F)
def J2 (F:Nat→AV) (x:Operand) (K:Bool→Prop):Prop:=An F x fun v=>match v with|.bool b=>K b|_=>False
def Jg (K:(Nat→AV)→Prop) (Q:Exit→(Nat→AV)→Prop):Exit→(Nat→AV)→Prop:=fun e F=>match e with|.normal=>K F|e=>Q e F
def J9 (id:Nat) (Q:Exit→(Nat→AV)→Prop):Exit→(Nat→AV)→Prop:=fun e F=>match e with|.exit i=>bif Nat.beq i id then Q .normal F else Q (.exit i) F|e=>Q e F
inductive Nx (ι:Type) (L:ι→List (Nat × AV)) (inv:ι→Prop) (μ:ι→Nat) (i:ι) (F:Nat→AV):Prop
 |mk_ (h:∃ i',inv i'∧μ i'<μ i∧Wk F (L i'))
theorem Nx.mk {ι:Type} {L:ι→List (Nat × AV)} {inv:ι→Prop} {μ:ι→Nat} {i:ι} {F:Nat→AV} (i':ι) (h1:inv i') (h2:μ i'<μ i) (h3:Wk F (L i')):Nx ι L inv μ i F:=by refine .mk_ ?_;exact⟨i',h1,h2,h3⟩
theorem Nx.out {ι:Type} {L:ι→List (Nat × AV)} {inv:ι→Prop} {μ:ι→Nat} {i:ι} {F:Nat→AV} (h:Nx ι L inv μ i F):∃ i',inv i'∧μ i'<μ i∧Wk F (L i'):=by obtain⟨h⟩:=h;exact h
inductive Lp (body:(Exit→(Nat→AV)→Prop)→(Nat→AV)→Prop) (Q:Exit→(Nat→AV)→Prop) (F:Nat→AV):Prop
 |mk_ (h:∃ (ts:List Nat) (ι:Type) (L:ι→List (Nat × AV)) (inv:ι→Prop) (μ:ι→Nat) (i0:ι),Wk (fzA ts F) (L i0)∧inv i0∧∀ i,inv i→body (Jg (Nx ι L inv μ i) Q) (lay (L i)))
theorem Lp.mk {body:(Exit→(Nat→AV)→Prop)→(Nat→AV)→Prop} {Q:Exit→(Nat→AV)→Prop} {F:Nat→AV} {ι:Type} (L:ι→List (Nat × AV)) (inv:ι→Prop) (μ:ι→Nat) (i0:ι) (h0:Wk F (L i0)) (h1:inv i0) (h2:∀ i,inv i→body (Jg (Nx ι L inv μ i) Q) (lay (L i))):Lp body Q F:=by refine .mk_ ?_;exact⟨[],ι,L,inv,μ,i0,h0,h1,h2⟩
theorem Lp.fz {body:(Exit→(Nat→AV)→Prop)→(Nat→AV)→Prop} {Q:Exit→(Nat→AV)→Prop} {F:Nat→AV} {ι:Type} (t:Nat) (L:ι→List (Nat × AV)) (inv:ι→Prop) (μ:ι→Nat) (i0:ι) (h0:Wk (fz1 t F) (L i0)) (h1:inv i0) (h2:∀ i,inv i→body (Jg (Nx ι L inv μ i) Q) (lay (L i))):Lp body Q F:=by refine .mk_ ?_;exact⟨[t],ι,L,inv,μ,i0,h0,h1,h2⟩
theorem Lp.out {body:(Exit→(Nat→AV)→Prop)→(Nat→AV)→Prop} {Q:Exit→(Nat→AV)→Prop} {F:Nat→AV} (h:Lp body Q F):∃ (ts:List Nat) (ι:Type) (L:ι→List (Nat × AV)) (inv:ι→Prop) (μ:ι→Nat) (i0:ι),Wk (fzA ts F) (L i0)∧inv i0∧∀ i,inv i→body (Jg (Nx ι L inv μ i) Q) (lay (L i)):=by obtain⟨h⟩:=h;exact h
def aw (P:Program) (TE:Nat→Option TI) (N:fq) (D:Nat→Array Oper→((Nat→AV)→Prop)→(Nat→AV)→Prop):Code→(Exit→(Nat→AV)→Prop)→(Nat→AV)→Prop
 | .skip,Q,F=>Q .normal F
 | .region id ops draw,Q,F=>bif draw then D id ops (Q .normal) F else DU P TE N ops ops.toList (Q .normal) F
 | .seq x y,Q,F=>aw P TE N D x (Jg (aw P TE N D y Q) Q) F
 | .cond c x y,Q,F=>J2 F c fun b=>Bf b (aw P TE N D x Q F) (aw P TE N D y Q F)
 | .block id c,Q,F=>aw P TE N D c (J9 id Q) F
 | .loop c,Q,F=>Lp (aw P TE N D c) Q F
 | .exit id,Q,F=>Q (.exit id) F
 | .ret,Q,F=>Q .ret F
 | _,_,_=>False
section
variable {P:Program} {w0 w w1:World} {M S0 S:ab} {N:fq} {φ:Nat→ab} {F:Nat→AV} {a:Act} {TE:Nat→Option TI}
theorem GO {Y:ab} {c c':C} {v:Value} (hc:HF c c') (h:dK w S Y c v):dK w S Y c' v:=by
 unfold HF at hc
 split at hc
 ·exact .x _ _ h.one
 ·subst hc
  obtain⟨b,rfl⟩:=tA h
  exact .nil _ _ _ trivial
 ·subst hc
  obtain⟨b,rfl⟩:=tA h
  exact .nil _ _ _ trivial
 ·subst hc
  rename_i v' rows
  generalize he:C.s (.tag v') rows=c0 at h
  cases h with
  | nil F o a ho=>cases he;exact .nil _ _ _ trivial
  | imm=>cases he
  | own F o g k n cap rows u f ho hn hk hcap hpos hF hu hf hd hc=>cases he;exact .own _ .own g k n cap rows u f trivial hn hk hcap hpos hF hu hf hd hc
  | _=>cases he
 ·subst hc;exact h
theorem rx:∀ {cs cs':List C},G5 cs cs'→cs.length=cs'.length∧∀ (j:Nat) (c':C),cs'[j]? = some c'→∃ c,cs[j]? = some c∧HF c c'
 | [],[],_=>⟨rfl,fun j c' h=>by simp at h⟩
 | c::cs,c'::cs',h=>by
  obtain⟨h1,h2⟩:=rx h.2
  refine⟨by simp[h1],fun j y hj=>?_⟩
  cases j with
  | zero=>simp at hj;subst hj;exact⟨c,rfl,h.1⟩
  | succ j=>exact h2 j y (by simpa using hj)
 | [],_::_,h=>h.elim
 | _::_,[],h=>h.elim
theorem BL {Y:ab} {cs cs':List C} {u:Nat→Value} (hc:G5 cs cs') (h:cm w S Y cs u):cm w S Y cs' u:=by
 obtain⟨hl,hg⟩:=rx hc
 obtain⟨f,h1,h2,h3⟩:=h
 exact⟨f,fun j c hj=>by obtain⟨c0,e1,e2⟩:=hg j c hj;exact GO e2 (h1 j c0 e1),fun j hj=>h2 j (by omega),fun j j' hj hj'=>h3 j j' (by omega) (by omega)⟩
theorem St.weaken {L:List (Nat × AV)} (h:St w0 M S0 N F a w) (hw:Wk F L):St w0 M S0 N (lay L) a w:=by
 obtain⟨S,φ,h⟩:=h
 refine⟨S,φ,fun t=>?_,h.dis,h.disS,h.ex,h.sub,h.sup,h.old,h.size,h.defers,h.par⟩
 rcases tM hw t with hd|hd
 ·rw[hd];trivial
 ·have hs:=h.slot t
  cases hav:lay L t with
  | dead=>trivial
  | hold k cs=>
   rw[hav]at hd
   simp only[H2]at hd
   split at hd
   case h_2=>exact hd.elim
   rename_i k' cs' hF
   obtain⟨rfl,hcs⟩:=hd
   rw[hF]at hs
   obtain⟨X1,Y,h1,h2,h3,h4,h5⟩:=hs
   exact⟨X1,Y,h1,h2,h3,by rw[←(rx hcs).1];exact h4,BL hcs h5⟩
  | ref t' off st=>
   rw[hav]at hd
   rw[hd.1]at hs
   obtain⟨k,cs,r,j,g,o,h1,h2⟩:=hs
   exact⟨k,cs,r,j,g,o,by rw[hd.2];exact h1,h2⟩
  | bor t' off st ag=>
   rw[hav]at hd
   rw[hd.1]at hs
   obtain⟨k,cs,r,j,h1,h2⟩:=hs
   exact⟨k,cs,r,j,by rw[hd.2];exact h1,h2⟩
  | iref r off=>
   rw[hav]at hd
   have hd:F t=.iref r off:=hd
   rw[hd]at hs;exact hs
  | fn f caps=>
   rw[hav]at hd
   have hd:F t=.fn f caps:=hd
   rw[hd]at hs;exact hs
  | fv Ok=>
   rw[hav]at hd
   have hd:F t=.fv Ok:=hd
   rw[hd]at hs;exact hs
theorem St.fz1 (h:St w0 M S0 N F a w) (t:Nat):St w0 M S0 N (Ab.fz1 t F) a w:=by
 obtain⟨S,φ,h⟩:=h
 have hne:∀ {s},s≠t→Ab.fz1 t F s=kl t (F s):=fun {s} hs=>by
  have:Nat.beq s t=false:=by rw[←Bool.not_eq_true,Nat.beq_eq];exact hs
  simp[Ab.fz1,this]
 have hkeep:∀ (S':ab),(∀ b o,S b o→S' b o)→∀ s,s≠t→cb w S' (Ab.fz1 t F) (tvs a) (φ s) (Ab.fz1 t F s) (tvs a s):=fun S' hS s hs=>by
  rw[hne hs,vE]
  cases hu:(F s).uses t with
  | true=>trivial
  | false=>
   simp only[cond_false]
   refine(h.slot s).keep (φ:=φ) (fun t _ _ _=>h.slot t) (fun t' hu'=>?_) (fun _ _ _=>⟨rfl,rfl⟩) (fun _ _ _=>⟨rfl,rfl⟩) (fun _ _ h=>h) hS
   have hn:t'≠t:=fun e=>by subst e;rw[hu]at hu';cases hu'
   exact⟨fun k cs he=>by rw[hne hn,he,wz],rfl,fun _ _ _=>⟨rfl,rfl⟩⟩
 have hdead:(∀ k cs,F t≠.hold k cs)→St w0 M S0 N (Ab.fz1 t F) a w:=fun hn=>by
  refine⟨S,fun s=>if s=t then NO else φ s,fun s=>?_,fun s s' hss b o hb hb'=>?_,fun s b o hb=>?_,fun s b o hb=>?_,h.sub,h.sup,h.old,h.size,h.defers,h.par⟩
  ·by_cases hs:s=t
   ·subst hs
    have:Ab.fz1 s F s=.dead:=by
     unfold Ab.fz1
     rw[Nat.beq_refl]
     simp only[cond_true]
     cases hF:F s with
     | hold k cs=>exact absurd hF (hn k cs)
     | _=>rfl
    rw[this];trivial
   ·rw[if_neg hs];exact hkeep S (fun _ _ h=>h) s hs
  ·split at hb
   ·exact hb.elim
   ·split at hb'
    ·exact hb'.elim
    ·exact h.dis s s' hss b o hb hb'
  ·split at hb
   ·exact hb.elim
   ·exact h.disS s b o hb
  ·split at hb
   ·exact hb.elim
   ·exact h.ex s b o hb
 cases hF:F t with
 | hold k cs=>
  have hs:=h.slot t
  rw[hF]at hs
  obtain⟨X1,Y,h1,h2,h3,h4,h5⟩:=hs
  have hft:Ab.fz1 t F t=.hold k (dV cs):=by
   unfold Ab.fz1
   rw[Nat.beq_refl]
   simp only[cond_true,hF]
  refine⟨fun b o=>S b o∨Y b o,fun s=>if s=t then X1 else φ s,fun s=>?_,fun s s' hss b o hb hb'=>?_,fun s b o hb hS=>?_,fun s b o hb=>?_,fun b o hb=>.inl (h.sub b o hb),fun b o hb=>?_,h.old,h.size,h.defers,h.par⟩
  ·by_cases hs:s=t
   ·subst hs
    rw[hft,if_pos rfl]
    exact⟨X1,NO,fun _ _ h=>h,fun _ _ h=>h.elim,fun _ _ _ h=>h,by rw[cR,List.length_map];exact h4,h5.freeze⟩
   ·rw[if_neg hs];exact hkeep _ (fun _ _ h=>.inl h) s hs
  ·by_cases hs:s=t
   ·rw[if_pos hs]at hb
    by_cases hs':s'=t
    ·exact hss (hs.trans hs'.symm)
    ·rw[if_neg hs']at hb';exact h.dis t s' (Ne.symm hs') b o (h1 b o hb) hb'
   ·rw[if_neg hs]at hb
    by_cases hs':s'=t
    ·rw[if_pos hs']at hb';exact h.dis s t hs b o hb (h1 b o hb')
    ·rw[if_neg hs']at hb';exact h.dis s s' hss b o hb hb'
  ·by_cases hs:s=t
   ·rw[if_pos hs]at hb
    exact hS.elim (h.disS t b o (h1 b o hb)) (h3 b o hb)
   ·rw[if_neg hs]at hb
    exact hS.elim (h.disS s b o hb) fun hy=>h.dis s t hs b o hb (h2 b o hy)
  ·split at hb
   ·exact h.ex t b o (h1 b o hb)
   ·exact h.ex s b o hb
  ·rcases hb with hb|hb
   ·exact h.sup b o hb
   ·exact⟨(h.ex t b o (h2 b o hb)).1,.inr (h.ex t b o (h2 b o hb)).2⟩
 | _=>exact hdead fun k cs e=>by rw[hF]at e;cases e
theorem St.fzA:∀ (ts:List Nat) {F:Nat→AV},St w0 M S0 N F a w→St w0 M S0 N (Ab.fzA ts F) a w
 | [],_,h=>h
 | t::ts,_,h=>St.fzA ts (h.fz1 t)
def gt (ck:Nat→Array Oper→Bool):Code→Bool
 | .region id ops draw=>bif draw then ck id ops else true
 | .seq x y=>gt ck x&&gt ck y
 | .cond _ x y=>gt ck x&&gt ck y
 | .block _ c=>gt ck c
 | .loop c=>gt ck c
 | _=>true
def wC (P:Program) (N:fq) (ck:Nat→Array Oper→Bool) (D:Nat→Array Oper→((Nat→AV)→Prop)→(Nat→AV)→Prop):Prop:=
 ∀ (id:Nat) (ops:Array Oper),ck id ops=true→∀ (K:(Nat→AV)→Prop) (w0:World) (M S0:ab) (F:Nat→AV) (a:Act) (w:World) (Q:Exit→Act→World→Prop),D id ops K F→St w0 M S0 N F a w→(∀ F' a' w',K F'→St w0 M S0 N F' a' w'→Q .normal a' w')→(Code.region id ops true).wp P Q a w
theorem gR (hTE:∀ t i,TE t=some i→b9 P t i) {D:Nat→Array Oper→((Nat→AV)→Prop)→(Nat→AV)→Prop} {ck:Nat→Array Oper→Bool} (hD:wC P N ck D):∀ (c:Code),gt ck c=true→∀ (QA:Exit→(Nat→AV)→Prop) (Q:Exit→Act→World→Prop) (F:Nat→AV) (a:Act) (w:World),
  aw P TE N D c QA F→St w0 M S0 N F a w→(∀ e F' a' w',QA e F'→St w0 M S0 N F' a' w'→Q e a' w')→c.wp P Q a w
 | .skip,_,QA,Q,F,a,w,hp,hs,hq=>wp_skip (hq _ _ _ _ hp hs)
 | .region id ops draw,hc,QA,Q,F,a,w,hp,hs,hq=>by
  cases draw with
  | false=>exact wp_region_list (zg hTE (fun F' a' w'=>hq .normal F' a' w') _ F a w hp hs)
  | true=>exact hD id ops hc _ w0 M S0 F a w Q hp hs (fun F' a' w'=>hq .normal F' a' w')
 | .seq x y,hc,QA,Q,F,a,w,hp,hs,hq=>by
  simp only[gt,Bool.and_eq_true]at hc
  refine wp_seq (gR hTE hD x hc.1 _ _ F a w hp hs fun e F' a' w' he hs'=>?_)
  cases e with
  | normal=>exact gR hTE hD y hc.2 QA Q F' a' w' he hs' hq
  | _=>exact hq _ F' a' w' he hs'
 | .cond c x y,hck,QA,Q,F,a,w,hp,⟨S,φ,h⟩,hq=>by
  simp only[gt,Bool.and_eq_true]at hck
  obtain⟨hc,-⟩:=h.scalar hp
  cases hv:a.eval c<;>rw[hv]at hc<;>try exact hc.elim
  rename_i b
  exact wp_cond_split hv (fun hb=>gR hTE hD x hck.1 QA Q F a w (by subst hb;exact Bf.out hc) ⟨S,φ,h⟩ hq) (fun hb=>gR hTE hD y hck.2 QA Q F a w (by subst hb;exact Bf.out hc) ⟨S,φ,h⟩ hq)
 | .block id c,hc,QA,Q,F,a,w,hp,hs,hq=>by
  refine wp_block (gR hTE hD c hc _ _ F a w hp hs fun e F' a' w' he hs'=>?_)
  cases e with
  | exit i=>
   simp only[J9]at he
   simp only[Exit.inBlock]
   by_cases hi:i=id
   ·subst hi
    rw[if_pos rfl]
    simp only[Nat.beq_refl,cond_true]at he
    exact hq _ F' a' w' he hs'
   ·have hb:Nat.beq i id=false:=by rw[←Bool.not_eq_true,Nat.beq_eq];exact hi
    rw[hb]at he
    rw[if_neg hi]
    exact hq _ F' a' w' he hs'
  | _=>exact hq _ F' a' w' he hs'
 | .loop c,hc,QA,Q,F,a,w,hp,hs,hq=>by
  obtain⟨ts,ι,L,inv,μ,i0,h0,hi0,hround⟩:=Lp.out hp
  refine wp_loop_ghost (fun n a w=>∃ i,μ i=n∧inv i∧St w0 M S0 N (lay (L i)) a w) (μ i0) ⟨i0,rfl,hi0,(hs.fzA ts).weaken h0⟩ fun n a w ⟨i,hn,hi,hs⟩=>?_
  refine gR hTE hD c hc _ _ (lay (L i)) a w (hround i hi) hs fun e F' a' w' he hs'=>?_
  cases e with
  | normal=>
   obtain⟨i',h1,h2,h3⟩:=Nx.out he
   exact⟨μ i',by omega,i',rfl,h1,hs'.weaken h3⟩
  | _=>exact hq _ F' a' w' he hs'
 | .exit id,_,QA,Q,F,a,w,hp,hs,hq=>wp_exit (hq _ _ _ _ hp hs)
 | .ret,_,QA,Q,F,a,w,hp,hs,hq=>wp_ret (hq _ _ _ _ hp hs)
 | .rangeFunc ..,_,_,_,_,_,_,hp,_,_=>hp.elim
 | .scope _,_,_,_,_,_,_,hp,_,_=>hp.elim
 | .label _,_,_,_,_,_,_,hp,_,_=>hp.elim
 | .goto _,_,_,_,_,_,_,hp,_,_=>hp.elim
 | .refuse _,_,_,_,_,_,_,hp,_,_=>hp.elim
end
end Go.Proofs.YtogajjgmcnjkbaaGreat.Ab
