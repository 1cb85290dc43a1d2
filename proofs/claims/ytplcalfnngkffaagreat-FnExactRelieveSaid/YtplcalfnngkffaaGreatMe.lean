/- A slot-only operation looks at its operands alone (the rest), and: a region that draws its order may be run in the text's. No condition. -/
import Derived.Test.YtplcalfnngkffaaGreatMd
import Derived.Orders
set_option linter.unusedVariables false

namespace Go.Proofs.YtplcalfnngkffaaGreat.Ab
open Go.RowKit
section
variable {F:Nat→AV} {K:AV→Prop} {TE:Nat→Option TI} {P:Program}
theorem Jg {op:BinOp} {x y:Value} {K K':Value→Prop} (h:zz op x y K) (hk:∀ v,K v→K' v):zz op x y K':=by
 cases x<;>cases y<;>try exact h.elim
 rename_i k a k' b
 have sk:∀ {X Y:Prop},(bif gc k k' then X else False)→(X→Y)→(bif gc k k' then Y else False):=fun {X Y} h hxy=>by
  cases hs:gc k k' with
  | true=>rw[hs]at h;exact hxy h
  | false=>rw[hs]at h;exact h.elim
 have wr:∀ {k:IntKind} {x:Int},Wr k x (fun z=>K (.int k z))→Wr k x (fun z=>K' (.int k z)):=fun h=>by
  obtain⟨z,h1,h2⟩:=h.out
  exact Wr.mk h1 (hk _ h2)
 have ev:∀ {k:IntKind} {x:Int},Ev x (fun z=>K (.int k z))→Ev x (fun z=>K' (.int k z)):=fun h=>by
  obtain⟨z,h1,h2⟩:=h.out
  exact Ev.mk h1 (hk _ h2)
 have cd:∀ {p X Y:Prop},Cd p X→(X→Y)→Cd p Y:=fun h hxy=>Cd.mk h.out.1 (hxy h.out.2)
 cases op<;>simp only[zz]at h ⊢
 case add=>exact sk h wr
 case sub=>exact sk h wr
 case mul=>exact sk h wr
 case quo=>exact sk h fun h=>cd h wr
 case rem=>exact sk h fun h=>cd h ev
 case and=>exact sk h wr
 case or=>exact sk h wr
 case xor=>exact sk h wr
 case andNot=>exact sk h wr
 case shl=>exact cd h wr
 case shr=>exact cd h ev
 all_goals exact sk h (hk _)
theorem JB {op:BinOp} {x y:Value} {K:Value→Prop} (h:zz op x y K):∃ v,K v∧zz op x y (· = v):=by
 cases x<;>cases y<;>try exact h.elim
 rename_i k a k' b
 have sk:∀ {X:Prop},(bif gc k k' then X else False)→X∧∀ Y:Prop,Y→(bif gc k k' then Y else False):=fun {X} h=>by
  cases hs:gc k k' with
  | true=>rw[hs]at h;exact⟨h,fun Y hY=>hY⟩
  | false=>rw[hs]at h;exact h.elim
 cases op<;>simp only[zz]at h ⊢
 case add=>obtain⟨h,b⟩:=sk h;obtain⟨z,h1,h2⟩:=h.out;exact⟨_,h2,b _ (Wr.mk h1 rfl)⟩
 case sub=>obtain⟨h,b⟩:=sk h;obtain⟨z,h1,h2⟩:=h.out;exact⟨_,h2,b _ (Wr.mk h1 rfl)⟩
 case mul=>obtain⟨h,b⟩:=sk h;obtain⟨z,h1,h2⟩:=h.out;exact⟨_,h2,b _ (Wr.mk h1 rfl)⟩
 case quo=>obtain⟨h,b⟩:=sk h;obtain⟨z,h1,h2⟩:=h.out.2.out;exact⟨_,h2,b _ (Cd.mk h.out.1 (Wr.mk h1 rfl))⟩
 case rem=>obtain⟨h,b⟩:=sk h;obtain⟨z,h1,h2⟩:=h.out.2.out;exact⟨_,h2,b _ (Cd.mk h.out.1 (Ev.mk h1 rfl))⟩
 case and=>obtain⟨h,b⟩:=sk h;obtain⟨z,h1,h2⟩:=h.out;exact⟨_,h2,b _ (Wr.mk h1 rfl)⟩
 case or=>obtain⟨h,b⟩:=sk h;obtain⟨z,h1,h2⟩:=h.out;exact⟨_,h2,b _ (Wr.mk h1 rfl)⟩
 case xor=>obtain⟨h,b⟩:=sk h;obtain⟨z,h1,h2⟩:=h.out;exact⟨_,h2,b _ (Wr.mk h1 rfl)⟩
 case andNot=>obtain⟨h,b⟩:=sk h;obtain⟨z,h1,h2⟩:=h.out;exact⟨_,h2,b _ (Wr.mk h1 rfl)⟩
 case shl=>obtain⟨z,h1,h2⟩:=h.out.2.out;exact⟨_,h2,Cd.mk h.out.1 (Wr.mk h1 rfl)⟩
 case shr=>obtain⟨z,h1,h2⟩:=h.out.2.out;exact⟨_,h2,Cd.mk h.out.1 (Ev.mk h1 rfl)⟩
 all_goals(obtain⟨h,b⟩:=sk h;exact⟨_,h,b _ rfl⟩)
theorem Lb {op:BinOp} {T:Nat} {x y:Value} {K:Value→Prop} (h:Dz TE op T x y K):∃ v,K v∧∀ K':Value→Prop,K' v→Dz TE op T x y K':=by
 unfold Dz at h
 split at h
 ·split at h
  case h_2=>exact h.elim
  rename_i hT
  cases op<;>simp only at h<;>try exact h.elim
  all_goals exact⟨_,h,fun K' hK=>by unfold Dz;simp only[hT];exact hK⟩
 ·cases op<;>simp only at h<;>try exact h.elim
  case add=>obtain⟨h1,h2⟩:=h.out;obtain⟨z,h3,h4⟩:=h2.out;exact⟨_,h4,fun K' hK=>Cd.mk h1 (Es.mk h3 hK)⟩
  all_goals exact⟨_,h,fun K' hK=>hK⟩
 ·rename_i h1 h2
  obtain⟨v,hv,hs⟩:=JB h
  refine⟨v,hv,fun K' hK=>?_⟩
  have:=Jg (K':=K') hs fun v' e=>by rw[e];exact hK
  unfold Dz
  split
  ·exact(h1 _ _ rfl rfl).elim
  ·exact(h2 _ _ rfl rfl).elim
  ·exact this
theorem KI {op:UnOp} {x:Value} {K K':Value→Prop} (h:LU op x K) (hk:∀ v,K v→K' v):LU op x K':=by
 unfold LU at h ⊢
 split at h
 ·exact hk _ h
 ·obtain⟨z,h1,h2⟩:=Wr.out h;exact Wr.mk h1 (hk _ h2)
 ·exact h.elim
theorem Mx {op:UnOp} {x:Value} {K:Value→Prop} (h:LU op x K):∃ v,K v∧LU op x (· = v):=by
 unfold LU at h
 split at h
 ·exact⟨_,h,rfl⟩
 ·obtain⟨z,h1,h2⟩:=Wr.out h;exact⟨_,h2,Wr.mk h1 rfl⟩
 ·exact h.elim
theorem J4 {c x y:Operand} (h:G3 F c x y K):nX (fun F K=>G3 F c x y K) F (tm c++tm x++tm y) K:=by
 obtain⟨z,hz,hl⟩:=ik h
 cases z with
 | bool b=>
  cases b with
  | true=>
   obtain⟨av,h1,h2,h3⟩:=iY (Bf.out hz)
   refine⟨av,h1,fun d hd=>(h2 d hd).imp (fun h=>by simp[h]) (fun⟨t,ht,hu⟩=>⟨t,by simp[ht],hu⟩),fun F' hA K' hK=>hl F' (hA.mono (by simp +contextual)) _ (Bf.in_ (h3 F' (hA.mono (by simp +contextual)) K' hK))⟩
  | false=>
   obtain⟨av,h1,h2,h3⟩:=iY (Bf.out hz)
   refine⟨av,h1,fun d hd=>(h2 d hd).imp (fun h=>by simp[h]) (fun⟨t,ht,hu⟩=>⟨t,by simp[ht],hu⟩),fun F' hA K' hK=>hl F' (hA.mono (by simp +contextual)) _ (Bf.in_ (h3 F' (hA.mono (by simp +contextual)) K' hK))⟩
 | _=>exact hz.elim
theorem LG {x:Operand} (h:LX F x K):nX (fun F K=>LX F x K) F (tm x) K:=by
 obtain⟨ag,cs,hk,hl⟩:=cH h
 cases hn:aW cs with
 | false=>rw[hn]at hk;exact hk.elim
 | true=>rw[hn]at hk;exact⟨_,hk,ep.hold _ _ _ _,fun F' hA K' hK=>hl F' hA _ (by rw[hn];exact hK)⟩
theorem BC {x:Operand} {i:Nat} (h:iW F x i K):nX (fun F K=>iW F x i K) F (tm x) K:=by
 cases x with
 | tmp t=>
  have ht:t∈tm (.tmp t):=by simp[tm]
  simp only[iW]at h
  cases hF:F t with
  | hold k cs=>
   rw[hF]at h
   cases k with
   | tup sh=>
    simp only at h
    cases hs:AB sh i with
    | none=>rw[hs]at h;exact h.elim
    | some p=>
     rw[hs]at h
     simp only at h
     cases hn:aW (bp cs p.1 (p.2.getD 1)) with
     | true=>rw[hn]at h;exact⟨_,h,ep.hold _ _ _ _,fun F' hA K' hK=>by simp only[iW,(hA t ht).1,hF,hs,hn,cond_true];exact hK⟩
     | false=>rw[hn]at h;exact⟨_,h,fun d hd=>.inl (by simp[AV.uses]at hd;subst hd;exact ht),fun F' hA K' hK=>by simp only[iW,(hA t ht).1,hF,hs,hn,cond_false];exact hK⟩
   | _=>exact h.elim
  | _=>rw[hF]at h;exact h.elim
 | _=>exact h.elim
theorem Mf {T:Nat} {x:Operand} (h:FU TE F T x K):nX (fun F K=>FU TE F T x K) F (tm x) K:=by
 unfold FU at h
 unfold nX FU
 split at h
 ·obtain⟨ag,cs,hk,hl⟩:=cH h
  match ag,cs,hk with
  | none,[.s o rows],hk=>exact⟨_,Ln.out hk,ep.hold _ _ _ _,fun F' hA K' hK=>hl F' hA _ (Ln.mk rfl hK)⟩
  | none,[.z],hk=>exact⟨_,hk,ep.hold _ _ _ _,fun F' hA K' hK=>hl F' hA _ hK⟩
 ·obtain⟨z,hk,hl⟩:=ik h
  cases z with
  | string s=>exact⟨_,Ln.out hk,ep.hold _ _ _ _,fun F' hA K' hK=>hl F' hA _ (Ln.mk rfl hK)⟩
  | _=>exact hk.elim
 ·exact h.elim
theorem Mj {T:Nat} {x:Operand} (h:Fx TE F T x K):nX (fun F K=>Fx TE F T x K) F (tm x) K:=by
 unfold Fx at h
 unfold nX Fx
 split at h
 ·obtain⟨ag,cs,hk,hl⟩:=cH h
  match ag,cs,hk with
  | none,[.s o rows],hk=>exact⟨_,hk.out.2,ep.hold _ _ _ _,fun F' hA K' hK=>hl F' hA _ (Nn.mk hk.out.1 hK)⟩
 ·exact h.elim
def tms (xs:List Operand):List Nat:=xs.flatMap tm
theorem KK {x:Operand} {k:Bool→RA→Prop} (h:argV F x k):∃ b A,k b A∧∀ F':Nat→AV,iJ F F' (tm x)→∀ k':Bool→RA→Prop,k' b A→argV F' x k':=by
 have key:∀ F':Nat→AV,iJ F F' (tm x)→nj F' x=nj F x:=fun F' hA=>hA.ev
 have vl:∀ av,nj F x=av→iA F av (uh k)→(∀ F' k',nj F' x=av→(argV F' x k'=iA F' av (uh k')))→∃ b A,k b A∧∀ F':Nat→AV,iJ F F' (tm x)→∀ k':Bool→RA→Prop,k' b A→argV F' x k':=fun av hav hv he=>by
  obtain⟨ag,cs,hK,hl⟩:=cH (x:=x) (by rw[hav];exact hv)
  unfold uh at hK
  cases hn:aW cs with
  | true=>
   rw[hn]at hK
   refine⟨true,_,hK,fun F' hA k' hk'=>?_⟩
   have h1:=key F' hA
   rw[he F' k' (h1.trans hav),←hav,←h1]
   exact hl F' hA _ (by unfold uh;rw[hn];exact hk')
  | false=>
   rw[hn]at hK
   refine⟨false,_,hK,fun F' hA k' hk'=>?_⟩
   have h1:=key F' hA
   rw[he F' k' (h1.trans hav),←hav,←h1]
   exact hl F' hA _ (by unfold uh;rw[hn];exact hk')
 have h0:=h
 unfold argV at h0
 cases hav:nj F x with
 | hold kd cs=>
  rw[hav]at h0
  cases kd with
  | box=>exact⟨false,_,h0,fun F' hA k' hk'=>by unfold argV;rw[key F' hA,hav];exact hk'⟩
  | one=>exact vl _ hav h0 fun F' k' e=>by unfold argV;rw[e];rfl
  | agg=>exact vl _ hav h0 fun F' k' e=>by unfold argV;rw[e];rfl
  | tup sh=>exact h0.elim
 | bor t off st ag=>rw[hav]at h0;exact vl _ hav h0 fun F' k' e=>by unfold argV;rw[e]
 | ref t off st=>
  rw[hav]at h0
  simp only at h0
  split at h0
  ·rename_i cs hF
   refine⟨false,_,h0,fun F' hA k' hk'=>?_⟩
   unfold argV
   rw[key F' hA,hav]
   have:F' t=.hold .box cs:=by
    cases x with
    | tmp s=>exact(hA s (by simp[tm])).2 t (by show AV.uses t (F s)=true;rw[show F s=_ from hav];simp[AV.uses]) _ _ hF
    | const v=>simp only[nj]at hav;have:=lw v t;rw[hav]at this;simp[AV.uses]at this
    | global g=>cases hav
    | func f=>cases hav
   simp only[this]
   exact hk'
  ·exact h0.elim
 | iref r off=>
  rw[hav]at h0
  simp only at h0
  cases hb:Nat.beq off 0 with
  | false=>rw[hb]at h0;exact h0.elim
  | true=>rw[hb]at h0;exact⟨true,_,h0,fun F' hA k' hk'=>by unfold argV;rw[key F' hA,hav];simp only[hb];exact hk'⟩
 | fv Ok=>rw[hav]at h0;exact⟨true,_,h0,fun F' hA k' hk'=>by unfold argV;rw[key F' hA,hav];exact hk'⟩
 | fn f caps=>rw[hav]at h0;exact h0.elim
 | dead=>rw[hav]at h0;exact h0.elim
theorem om:∀ {cs:List Nat} {k:List RA→Prop},mh F cs k→∃ D,k D∧∀ F':Nat→AV,(∀ t,t∈cs→∀ kd xs,F t=.hold kd xs→F' t=.hold kd xs)→∀ k':List RA→Prop,k' D→mh F' cs k'
 | [],k,h=>⟨[],h,fun _ _ _ h=>h⟩
 | c::cs,k,h=>by
  simp only[mh]at h
  split at h
  ·rename_i xs hF
   obtain⟨D,hK,hl⟩:=om h
   exact⟨_,hK,fun F' hA k' hk'=>by simp only[mh,hA c (List.mem_cons_self ..) _ _ hF];exact hl F' (fun t ht=>hA t (List.mem_cons_of_mem _ ht)) _ hk'⟩
  ·rename_i xs hF
   obtain⟨D,hK,hl⟩:=om h
   exact⟨_,hK,fun F' hA k' hk'=>by simp only[mh,hA c (List.mem_cons_self ..) _ _ hF];exact hl F' (fun t ht=>hA t (List.mem_cons_of_mem _ ht)) _ hk'⟩
  ·rename_i xs hF
   obtain⟨D,hK,hl⟩:=om h
   exact⟨_,hK,fun F' hA k' hk'=>by simp only[mh,hA c (List.mem_cons_self ..) _ _ hF];exact hl F' (fun t ht=>hA t (List.mem_cons_of_mem _ ht)) _ hk'⟩
  ·exact h.elim
theorem GH {F':Nat→AV} {t:Nat} {ts:List Nat} {f:FuncId} {caps:List Nat} (hA:iJ F F' ts) (ht:t∈ts) (hF:F t=.fn f caps):∀ c,c∈caps→∀ kd xs,F c=.hold kd xs→F' c=.hold kd xs:=fun c hc kd xs h=>
 (hA t ht).2 c (by rw[hF];simp only[AV.uses,List.any_eq_true];exact⟨c,hc,Nat.beq_refl c⟩) kd xs h
theorem Kv {x:Operand} {k:Bool→RA→Prop} (h:argA P F x k):∃ b A,k b A∧∀ F':Nat→AV,iJ F F' (tm x)→∀ k':Bool→RA→Prop,k' b A→argA P F' x k':=by
 have h0:=h
 unfold argA at h0
 split at h0
 ·rename_i f caps hav
  obtain⟨D,hK,hl⟩:=om h0
  obtain⟨Q,q1,q2,q3⟩:=hK
  refine⟨false,_,q3,fun F' hA k' hk'=>?_⟩
  unfold argA
  rw[hA.ev,hav]
  refine hl F' ?_ _ ⟨Q,q1,q2,hk'⟩
  cases x with
  | tmp s=>exact GH hA (t:=s) (by simp[tm]) hav
  | const v=>
   intro c hc
   simp only[nj]at hav
   have:=lw v c
   rw[hav]at this
   simp only[AV.uses]at this
   have h2:caps.any (Nat.beq · c)=true:=List.any_eq_true.2 ⟨c,hc,Nat.beq_refl c⟩
   rw[h2]at this;cases this
  | global g=>cases hav
  | func f=>cases hav;intro c hc;cases hc
 ·rename_i hne
  obtain⟨b,A,hK,hl⟩:=KK h0
  refine⟨b,A,hK,fun F' hA k' hk'=>?_⟩
  have:=hl F' hA k' hk'
  unfold argA
  rw[hA.ev]
  split
  ·rename_i f caps hav;exact absurd hav (hne f caps)
  ·exact this
theorem uJ:∀ {xs:List Operand} {k:Bool→List RA→Prop},zb P F xs k→∃ b A,k b A∧∀ F':Nat→AV,iJ F F' (tms xs)→∀ k':Bool→List RA→Prop,k' b A→zb P F' xs k'
 | [],k,h=>⟨true,[],h,fun _ _ _ h=>h⟩
 | x::xs,k,h=>by
  obtain⟨b1,A,hk,hl⟩:=Kv h
  obtain⟨b,As,hk,hl2⟩:=uJ hk
  have s1:∀ {F':Nat→AV},iJ F F' (tms (x::xs))→iJ F F' (tm x):=fun hA=>hA.mono (by simp +contextual [tms])
  have s2:∀ {F':Nat→AV},iJ F F' (tms (x::xs))→iJ F F' (tms xs):=fun hA=>hA.mono (fun t ht=>by simp only[tms,List.flatMap_cons,List.mem_append];exact .inr ht)
  exact⟨_,_,hk,fun F' hA k' hk'=>hl F' (s1 hA) _ (hl2 F' (s2 hA) _ hk')⟩
theorem zp:∀ {xs:List Operand} {k:List (Option Nat × List C)→Prop},argsV F xs k→∃ L,k L∧∀ F':Nat→AV,iJ F F' (tms xs)→∀ k':List (Option Nat × List C)→Prop,k' L→argsV F' xs k'
 | [],k,h=>⟨[],h,fun _ _ _ h=>h⟩
 | x::xs,k,h=>by
  obtain⟨ag,cs,hk,hl⟩:=cH h
  obtain⟨L,hk,hl2⟩:=zp hk
  have s1:∀ {F':Nat→AV},iJ F F' (tms (x::xs))→iJ F F' (tm x):=fun hA=>hA.mono (by simp +contextual [tms])
  have s2:∀ {F':Nat→AV},iJ F F' (tms (x::xs))→iJ F F' (tms xs):=fun hA=>hA.mono (fun t ht=>by simp only[tms,List.flatMap_cons,List.mem_append];exact .inr ht)
  exact⟨_,hk,fun F' hA k' hk'=>hl F' (s1 hA) _ (hl2 F' (s2 hA) _ hk')⟩
theorem Lu {f:Nat} {xs:List Operand} (h:Gv P F f xs K):nX (fun F K=>Gv P F f xs K) F (tms xs) K:=by
 obtain⟨b,A,hk,hl⟩:=uJ h
 obtain⟨sh,k,rcs,h1,h2,h3⟩:=hk.out
 exact⟨_,h3,ep.hold _ _ _ _,fun F' hA K' hK=>hl F' hA _ (.mk_ ⟨sh,k,rcs,h1,h2,hK⟩)⟩
theorem HZ {t:Nat} {xs:List Operand} (h:lN P F t xs K):nX (fun F K=>lN P F t xs K) F (t::tms xs) K:=by
 have h0:=h
 unfold lN at h0
 split at h0
 ·rename_i f caps hF
  obtain⟨b,A,hk,hl⟩:=uJ h0
  obtain⟨D,hk,hl2⟩:=om hk
  obtain⟨sh,k,rcs,h1,h2,h3⟩:=hk.out
  refine⟨_,h3,ep.hold _ _ _ _,fun F' hA K' hK=>?_⟩
  show lN P F' t xs K'
  unfold lN
  rw[(hA t (List.mem_cons_self ..)).1,hF]
  exact hl F' (hA.mono fun t ht=>List.mem_cons_of_mem _ ht) _ (hl2 F' (GH hA (List.mem_cons_self ..) hF) _ (.mk_ ⟨sh,k,rcs,h1,h2,hK⟩))
 ·rename_i Ok hF
  obtain⟨L,hk,hl⟩:=zp h0
  obtain⟨Q,k,rcs,h1,h2,h3⟩:=hk
  refine⟨_,h3,ep.hold _ _ _ _,fun F' hA K' hK=>?_⟩
  show lN P F' t xs K'
  unfold lN
  rw[(hA t (List.mem_cons_self ..)).1,hF]
  exact hl F' (hA.mono fun t ht=>List.mem_cons_of_mem _ ht) _ ⟨Q,k,rcs,h1,h2,hK⟩
 ·exact h0.elim
theorem jO {T:Nat} {k:Nat→TI→Prop} (h:G7 TE T k):∃ e ie,k e ie∧∀ k':Nat→TI→Prop,k' e ie→G7 TE T k':=by
 unfold G7 at h
 split at h
 case h_2=>exact h.elim
 rename_i e hT
 split at h
 case h_2=>exact h.elim
 rename_i ie he
 cases hb:(Nat.beq ie.zero.length ie.size&&Nat.ble 1 ie.size) with
 | false=>rw[hb]at h;exact h.elim
 | true=>rw[hb]at h;exact⟨e,ie,h,fun k' hk=>by unfold G7;simp only[hT,he,hb,cond_true];exact hk⟩
theorem qR {x:Operand} {k:Int→Prop} (h:BW F x k):∃ n,k n∧∀ F':Nat→AV,iJ F F' (tm x)→∀ k':Int→Prop,k' n→BW F' x k':=by
 obtain⟨z,hz,hl⟩:=ik h
 cases z with
 | int kk n=>exact⟨n,hz,fun F' hA k' hk=>hl F' hA _ hk⟩
 | _=>exact hz.elim
def otm (x:Option Operand):List Nat:=x.toList.flatMap tm
theorem Hi {x:Option Operand} {k:Option Int→Prop} (h:Lg F x k):∃ n,k n∧∀ F':Nat→AV,iJ F F' (otm x)→∀ k':Option Int→Prop,k' n→Lg F' x k':=by
 cases x with
 | none=>exact⟨none,h,fun _ _ _ hk=>hk⟩
 | some x=>
  obtain⟨n,hn,hl⟩:=qR h
  exact⟨some n,hn,fun F' hA k' hk=>hl F' (hA.mono (by simp +contextual [otm])) _ hk⟩
theorem rW {pl:Nat→Option (Nat × Nat)} : ∀ {parts:List (Nat × Operand)} {cs:List C} {k:List C→Prop},fillP F pl parts cs k→∃ cs',k cs'∧∀ F':Nat→AV,iJ F F' (tms (parts.map (·.2)))→∀ k':List C→Prop,k' cs'→fillP F' pl parts cs k'
 | [],cs,k,h=>⟨cs,h,fun _ _ _ h=>h⟩
 | p::rest,cs,k,h=>by
  simp only[fillP]at h
  split at h
  case h_2=>exact h.elim
  rename_i q hq
  obtain⟨ag,xs,hk,hl⟩:=cH h
  cases hb:(aW xs&&Nat.beq xs.length q.2&&Nat.ble (q.1+q.2) cs.length) with
  | false=>rw[hb]at hk;exact hk.elim
  | true=>
   rw[hb]at hk
   simp only[cond_true,ek]at hk
   obtain⟨cs',hk',hl'⟩:=rW hk
   refine⟨cs',hk',fun F' hA k' hk2=>?_⟩
   simp only[fillP,hq]
   refine hl F' (hA.mono (by simp +contextual [tms])) _ ?_
   rw[hb]
   simp only[cond_true,ek]
   exact hl' F' (hA.mono (fun t ht=>by simp only[tms,List.map_cons,List.flatMap_cons,List.mem_append];exact .inr ht)) _ hk2
theorem Hs {T:Nat} {parts:List (Nat × Operand)} (h:qd TE F T parts K):nX (fun F K=>qd TE F T parts K) F (tms (parts.map (·.2))) K:=by
 unfold qd at h
 unfold nX qd
 split at h
 case h_2=>exact h.elim
 rename_i size bytes zero flds hT
 cases ha:vm TE flds with
 | false=>rw[ha]at h;exact h.elim
 | true=>
  rw[ha]at h
  obtain⟨cs',hk,hl⟩:=rW h
  exact⟨_,hk,ep.hold _ _ _ _,fun F' hA K' hK=>by simp only[cond_true];exact hl F' hA _ hK⟩
theorem ET {T n:Nat} {parts:List (Nat × Operand)} (h:u4 TE F T n parts K):nX (fun F K=>u4 TE F T n parts K) F (tms (parts.map (·.2))) K:=by
 obtain⟨e,ie,hk,hs⟩:=jO h
 cases hb:Nat.ble (n*ie.size) 16777216 with
 | false=>rw[hb]at hk;exact hk.elim
 | true=>
  rw[hb]at hk
  simp only[cond_true]at hk
  split at hk
  ·exact⟨_,hk,ep.hold _ _ _ _,fun F' hA K' hK=>hs _ (by rw[hb];exact hK)⟩
  ·rw[ek]at hk
   obtain⟨cs',hk',hl⟩:=rW hk
   rw[qo]at hk'
   exact⟨_,hk',ep.hold _ _ _ _,fun F' hA K' hK=>hs _ (by rw[hb];simp only[cond_true,ek];exact hl F' hA _ (by rw[qo];exact hK))⟩
  ·exact hk.elim
theorem Km {T:Nat} {x y:Operand} (h:Gs TE F T x y K):nX (fun F K=>Gs TE F T x y K) F (tm x++tm y) K:=by
 obtain⟨e,ie,hk,hs⟩:=jO h
 obtain⟨ag,cs,hk,hl⟩:=cH hk
 match ag,cs,hk with
 | none,[.z],hk=>
  obtain⟨ag2,cs2,hk,hl2⟩:=cH hk
  match ag2,cs2,hk with
  | none,[.s o rows],hk=>
   obtain⟨h1,h2,h3,hk⟩:=hk.out
   exact⟨_,hk,ep.hold _ _ _ _,fun F' hA K' hK=>hs _ (hl F' (hA.mono (by simp +contextual)) _ (hl2 F' (hA.mono (by simp +contextual)) _ (Fl.mk h1 h2 h3 hK)))⟩
  | none,[.z],hk=>
   exact⟨_,hk,ep.hold _ _ _ _,fun F' hA K' hK=>hs _ (hl F' (hA.mono (by simp +contextual)) _ (hl2 F' (hA.mono (by simp +contextual)) _ hK))⟩
theorem La {T:Nat} {x y:Operand} (h:G2 TE F T x y K):nX (fun F K=>G2 TE F T x y K) F (tm x++tm y) K:=by
 obtain⟨e,ie,hk,hs⟩:=jO h
 obtain⟨l,hk,hl⟩:=qR hk
 obtain⟨c,hk,hl2⟩:=qR hk
 obtain⟨n,h1,h2,h3,h4,hk⟩:=hk.out
 exact⟨_,hk,ep.hold _ _ _ _,fun F' hA K' hK=>hs _ (hl F' (hA.mono (by simp +contextual)) _ (hl2 F' (hA.mono (by simp +contextual)) _ (Mk.mk n h1 h2 h3 h4 rfl hK)))⟩
theorem Ks {T:Nat} {x y:Operand} {ok:Bool} (h:uM TE F T x y ok K):nX (fun F K=>uM TE F T x y ok K) F (tm x++tm y) K:=by
 unfold uM at h
 split at h
 case h_2=>exact h.elim
 rename_i hT
 cases ok with
 | true=>exact h.elim
 | false=>
  simp only[cond_false]at h
  obtain⟨ag,cs,hK,hl⟩:=cH h
  match ag,cs,hK,hl with
  | none,[.m es],hK,hl=>
   obtain⟨v,hv,hl2⟩:=ik hK
   match v,hv,hl2 with
   | .int .i64 z,hv,hl2=>
    refine⟨_,hv.out,ep.hold _ _ _ _,fun F' hA K' hK'=>?_⟩
    simp only[uM,hT,cond_false]
    exact hl F' (hA.mono (by simp +contextual)) _ (hl2 F' (hA.mono (by simp +contextual)) _ (Ml.mk rfl hK'))
theorem Js {T:Nat} {x:Operand} {lo hi:Option Operand} (h:AE TE F T x lo hi K):nX (fun F K=>AE TE F T x lo hi K) F (tm x++otm lo++otm hi) K:=by
 obtain⟨e,ie,hk,hs⟩:=jO h
 obtain⟨l,hk,hl⟩:=Hi hk
 obtain⟨r,hk,hl2⟩:=Hi hk
 obtain⟨ag,cs,hk,hl3⟩:=cH hk
 have back:∀ (rows:List (List C)) (k:List (List C)→Prop),Sl rows ie.size l r k→∃ rows',k rows'∧∀ k':List (List C)→Prop,k' rows'→Sl rows ie.size l r k':=fun rows k h=>by
  obtain⟨x,y,h1,h2,h3,h4,h5,h6⟩:=h.out
  exact⟨_,h6,fun k' hk=>by refine .mk_ ?_;exact⟨x,y,h1,h2,h3,h4,h5,_,rfl,hk⟩⟩
 match ag,cs,hk with
 | none,[.s .imm rows],hk=>
  obtain⟨rows',hk,hb⟩:=back _ _ hk
  exact⟨_,hk,ep.hold _ _ _ _,fun F' hA K' hK=>hs _ (hl F' (hA.mono (by simp +contextual)) _ (hl2 F' (hA.mono (by simp +contextual)) _ (hl3 F' (hA.mono (by simp +contextual)) _ (hb _ hK))))⟩
 | none,[.z],hk=>
  obtain⟨rows',hk,hb⟩:=back _ _ hk
  exact⟨_,hk,ep.hold _ _ _ _,fun F' hA K' hK=>hs _ (hl F' (hA.mono (by simp +contextual)) _ (hl2 F' (hA.mono (by simp +contextual)) _ (hl3 F' (hA.mono (by simp +contextual)) _ (hb _ hK))))⟩
theorem EF {T:Nat} {x hi mx:Operand} (h:LP TE F T x hi mx K):nX (fun F K=>LP TE F T x hi mx K) F (tm x) K:=by
 obtain⟨e,ie,hk,hs⟩:=jO h
 cases hb:M6 hi&&M6 mx with
 | false=>rw[hb]at hk;exact hk.elim
 | true=>
  rw[hb]at hk
  obtain⟨ag,cs,hk,hl⟩:=cH hk
  match ag,cs,hk with
  | none,[.s o rows],hk=>exact⟨_,hk,ep.hold _ _ _ _,fun F' hA K' hK=>hs _ (by rw[hb];exact hl F' hA _ hK)⟩
  | none,[.z],hk=>exact⟨_,hk,ep.hold _ _ _ _,fun F' hA K' hK=>hs _ (by rw[hb];exact hl F' hA _ hK)⟩
theorem Hw {T f:Nat} {x:Operand} (h:pT TE F T x f K):nX (fun F K=>pT TE F T x f K) F (tm x) K:=by
 unfold pT at h
 split at h
 case h_2=>exact h.elim
 rename_i flds hT
 split at h
 case h_2=>exact h.elim
 rename_i p hp
 split at h
 case h_2=>exact h.elim
 rename_i i hi
 obtain⟨ag,cs,hk,hl⟩:=cH h
 cases hb:(ag.isSome&&(i.agg || Nat.beq i.size 1)&&Nat.ble (p.1+i.size) cs.length) with
 | false=>rw[hb]at hk;exact hk.elim
 | true=>
  rw[hb]at hk
  simp only[cond_true]at hk
  cases hn:aW (bp cs p.1 i.size) with
  | false=>rw[hn]at hk;exact hk.elim
  | true=>
   rw[hn]at hk
   simp only[cond_true,ek]at hk
   exact⟨_,hk,ep.hold _ _ _ _,fun F' hA K' hK=>by unfold pT;simp only[hT,hp,hi];exact hl F' hA _ (by rw[hb,hn];simp only[cond_true,ek];exact hK)⟩
theorem J8 {T1 T2:Nat} {x:Operand} (h:wb TE F T1 T2 x K):nX (fun F K=>wb TE F T1 T2 x K) F (tm x) K:=by
 unfold wb at h
 split at h
 ·rename_i h1 h2
  obtain⟨n,hk,hl⟩:=qR h
  obtain⟨z,h3,hk⟩:=hk.out
  exact⟨_,hk,ep.hold _ _ _ _,fun F' hA K' hK=>by unfold wb;simp only[h1,h2];exact hl F' hA _ (Wr.mk h3 hK)⟩
 ·exact h.elim
theorem JY {mx:Bool} {x y:Operand} (h:NI mx F x y K):nX (fun F K=>NI mx F x y K) F (tm x++tm y) K:=by
 obtain⟨z,hz,hl⟩:=ik h
 cases z with
 | int kk n=>
  obtain⟨m,hk,hl2⟩:=qR hz
  obtain⟨z,h3,hk⟩:=hk.out
  exact⟨_,hk,ep.hold _ _ _ _,fun F' hA K' hK=>hl F' (hA.mono (by simp +contextual)) _ (hl2 F' (hA.mono (by simp +contextual)) _ (Ev.mk h3 hK))⟩
 | _=>exact hz.elim
theorem ep.mono {ts ts':List Nat} {av:AV} (h:ep F ts av) (hs:∀ t,t∈ts→t∈ts'):ep F ts' av:=fun d hd=>(h d hd).imp (hs d) (fun⟨t,ht,hu⟩=>⟨t,hs t ht,hu⟩)
theorem nX.mono {p:(Nat→AV)→(AV→Prop)→Prop} {ts ts':List Nat} (h:nX p F ts K) (hs:∀ t,t∈ts→t∈ts'):nX p F ts' K:=by
 obtain⟨av,h1,h2,h3⟩:=h
 exact⟨av,h1,h2.mono hs,fun F' hA K' hK=>h3 F' (hA.mono hs) K' hK⟩
def dq (o:Op):List Nat:=o.operands.toList.flatMap tm
theorem mr {o:Op} (h:dL P TE F o K):nX (fun F K=>dL P TE F o K) F (dq o) K:=by
 cases o with
 | move x=>exact(iY h).mono (by simp[dq,Op.operands])
 | assign x=>exact(iY h).mono (by simp[dq,Op.operands])
 | nilCheck x=>
  cases x with
  | tmp t=>
   have ht:t∈tm (.tmp t):=by simp[tm]
   have key:∀ F':Nat→AV,F' t=F t→∀ K',dL P TE F' (.nilCheck (.tmp t)) K'=(match F t with|.ref ..=>bo F' (.tmp t) K'|.iref ..=>bo F' (.tmp t) K'|.hold .box _=>bo F' (.tmp t) K'|_=>False):=fun F' e K'=>by
    unfold dL
    simp only
    rw[e]
    cases F t with
    | hold k cs=>cases k<;>rfl
    | _=>rfl
   rw[key F rfl]at h
   have fin:bo F (.tmp t) K→(∀ K' (F':Nat→AV),F' t=F t→bo F' (.tmp t) K'→dL P TE F' (.nilCheck (.tmp t)) K')→nX (fun F K=>dL P TE F (.nilCheck (.tmp t)) K) F (dq (.nilCheck (.tmp t))) K:=fun hm hc=>by
    obtain⟨av,h1,h2,h3⟩:=iY hm
    exact⟨av,h1,h2.mono (by simp[dq,Op.operands]),fun F' hA K' hK=>hc _ F' (hA t (by simp[dq,Op.operands,tm])).1 (h3 F' (hA.mono (by simp[dq,Op.operands])) K' hK)⟩
   cases hF:F t with
   | hold k cs=>
    rw[hF]at h
    cases k with
    | box=>exact fin h fun K' F' e hm=>by rw[key F' e,hF];exact hm
    | _=>exact h.elim
   | ref=>rw[hF]at h;exact fin h fun K' F' e hm=>by rw[key F' e,hF];exact hm
   | iref=>rw[hF]at h;exact fin h fun K' F' e hm=>by rw[key F' e,hF];exact hm
   | _=>rw[hF]at h;exact h.elim
  | _=>exact h.elim
 | load T x=>exact(JW h).mono (by simp[dq,Op.operands])
 | fieldAddr T x f=>exact(xc h).mono (by simp[dq,Op.operands])
 | indexAddr T x y=>exact(xn h).mono (by simp[dq,Op.operands])
 | binOp op T x y yT=>
  simp only[dL]at h
  cases hb:vh op y with
  | true=>
   rw[hb]at h
   obtain⟨av,h1,h2,h3⟩:=Mj h
   exact⟨av,h1,h2.mono (by simp +contextual [dq,Op.operands]),fun F' hA K' hK=>by simp only[dL,hb,cond_true];exact h3 F' (hA.mono (by simp +contextual [dq,Op.operands])) K' hK⟩
  | false=>
   rw[hb]at h
   obtain⟨z,hz,hl⟩:=ik h
   obtain⟨z2,hz2,hl2⟩:=ik hz
   obtain⟨v,hv,hs⟩:=Lb hz2
   refine⟨_,hv,ep.hold _ _ _ _,fun F' hA K' hK=>by simp only[dL,hb,cond_false];exact hl F' (hA.mono (by simp +contextual [dq,Op.operands])) _ (hl2 F' (hA.mono (by simp +contextual [dq,Op.operands])) _ (hs _ hK))⟩
 | unOp op T x=>
  obtain⟨z,hz,hl⟩:=ik h
  obtain⟨v,hv,hs⟩:=Mx hz
  exact⟨_,hv,ep.hold _ _ _ _,fun F' hA K' hK=>hl F' (hA.mono (by simp[dq,Op.operands])) _ (KI hs fun v' e=>by rw[e];exact hK)⟩
 | pick c x y=>exact(J4 h).mono (by simp[dq,Op.operands])
 | alloc T=>
  simp only[dL]at h
  unfold wU at h
  split at h
  ·rename_i i hT
   exact⟨_,h,ep.hold _ _ _ _,fun F' _ K' hK=>by simp only[dL,wU,hT];exact hK⟩
  ·exact h.elim
 | box T x=>exact(LG h).mono (by simp[dq,Op.operands])
 | extract x i=>exact(BC h).mono (by simp[dq,Op.operands])
 | build T ps=>exact(Hs h).mono (by simp +contextual [dq,Op.operands,tms])
 | buildSlice T n ps=>exact(ET h).mono (by simp +contextual [dq,Op.operands,tms])
 | makeSlice T x y=>exact(La h).mono (by simp[dq,Op.operands])
 | makeMap T r=>
  simp only[dL,qX]at h ⊢
  split at h
  case h_2=>exact h.elim
  exact⟨_,h,ep.hold _ _ _ _,fun F' _ K' hK=>hK⟩
 | lookup T x y ok=>exact(Ks h).mono (by simp[dq,Op.operands])
 | slice T x lo hi mx=>
  cases mx with
  | none=>exact(Js h).mono (by cases lo<;>cases hi<;>simp[dq,Op.operands,otm])
  | some m=>
   cases lo with
   | some _=>exact h.elim
   | none=>
    cases hi with
    | none=>exact h.elim
    | some y=>exact(EF h).mono (by simp +contextual [dq,Op.operands])
 | field T x f=>exact(Hw h).mono (by simp[dq,Op.operands])
 | convert T1 T2 x=>exact(J8 h).mono (by simp[dq,Op.operands])
 | makeFunc fn fs cs=>
  simp only[dL]at h
  split at h
  ·rename_i f hfs
   obtain⟨l,hK,hl⟩:=qi h
   refine⟨_,hK,fun d hd=>.inl ?_,fun F' _ K' hK'=>?_⟩
   ·simp only[AV.uses,List.any_eq_true]at hd
    obtain⟨c,hc,he⟩:=hd
    have:=Nat.eq_of_beq_eq_true he
    subst this
    simp only[dq,Op.operands,List.mem_flatMap]
    refine⟨.tmp c,?_,by simp[tm]⟩
    have hm:Operand.tmp c∈cs.toList:=by rw[hl];exact List.mem_map.2 ⟨c,hc,rfl⟩
    simpa using .inr (by simpa using hm)
   ·simp only[dL,hfs]
    rw[hl]
    exact Eo l hK'
  ·exact h.elim
 | call c=>
  obtain⟨callee,args,ts⟩:=c
  simp only[dL]at h
  split at h
  ·rename_i f
   exact(Lu h).mono (by simp +contextual [dq,Op.operands,Call.operands,tms])
  ·exact(HZ h).mono (fun t ht=>by
     rcases List.mem_cons.1 ht with rfl|ht
     · simp[dq,Op.operands,Call.operands,tm]
     · simp only[tms,List.mem_flatMap]at ht
       obtain⟨x,hx,hx2⟩:=ht
       simp only[dq,Op.operands,Call.operands,List.mem_flatMap]
       exact⟨x,by simp_all,hx2⟩)
  ·split at h
   ·rename_i x T hx hT
    have e1:args = #[x]:=by apply Array.ext';simpa using hx
    have e2:ts = #[T]:=by apply Array.ext';simpa using hT
    subst e1 e2
    exact(Mf h).mono (by simp[dq,Op.operands,Call.operands])
   ·exact h.elim
  ·split at h
   ·rename_i x y T T2 hx hT
    have e1:args = #[x,y]:=by apply Array.ext';simpa using hx
    have e2:ts = #[T,T2]:=by apply Array.ext';simpa using hT
    subst e1 e2
    cases hb:Nat.beq T T2 with
    | false=>rw[hb]at h;exact h.elim
    | true=>
     rw[hb]at h
     obtain⟨av,h1,h2,h3⟩:=(Km h).mono (ts':=dq (.call ⟨.builtin .append,#[x,y],#[T,T2]⟩)) (by simp[dq,Op.operands,Call.operands])
     exact⟨av,h1,h2,fun F' hA K' hK=>by simp only[dL,hb,cond_true];exact h3 F' hA K' hK⟩
   ·exact h.elim
  ·split at h
   ·rename_i x y hx
    have e1:args = #[x,y]:=by apply Array.ext';simpa using hx
    subst e1
    exact(JY h).mono (by simp[dq,Op.operands,Call.operands])
   ·exact h.elim
  ·split at h
   ·rename_i x y hx
    have e1:args = #[x,y]:=by apply Array.ext';simpa using hx
    subst e1
    exact(JY h).mono (by simp[dq,Op.operands,Call.operands])
   ·exact h.elim
  ·exact h.elim
 | _=>exact h.elim
end
end Go.Proofs.YtplcalfnngkffaaGreat.Ab
/- A region that draws its order may be run in the text's order, where its operations are apart. No condition. -/
namespace Go.Proofs.YtplcalfnngkffaaGreat.Ab
open Go.RowKit
def cN (o:Oper) (i:Nat):Bool:=o.after.toList.any fun e=>Region.binds .any e&&Nat.beq e.on i
def cZ (ops:Array Oper) (i:Nat):Oper:=ops.getD i default
def below (n:Nat) (p:Nat→Bool):Bool:=(List.range n).all p
def sg (ops:Array Oper) (i j:Nat):Bool:=match(cZ ops i).dst with|some d=>((cZ ops j).looksAt ops).any (Nat.beq d)|none=>false
def Bv:List Nat→Nat
 | []=>0
 | k::ks=>2 ^ k ||| Bv ks
def ons (o:Oper):List Nat:=(o.after.toList.filter fun e=>Region.binds .any e).map (·.on)
def frc {α:Type} (n:Nat) (K:Nat→α):α:=match n with|0=>K 0|n+1=>K (n+1)
theorem KH {α:Type} (n:Nat) (K:Nat→α):frc n K=K n:=by cases n<;>rfl
def clo (ops:Array Oper):Nat→Nat→Nat
 | 0,S=>S
 | k+1,S=>bif S.testBit k then frc (S ||| Bv (ons (cZ ops k))) (clo ops k) else clo ops k S
def Au (ops:Array Oper) (m:Nat):Bool:=
 below ops.size fun j=>((cZ ops j).after.toList.all fun e=>!Region.binds .any e || Nat.blt e.on j) &&
  (bif Nat.blt j m then below m (fun i=>Nat.beq i j || ((cN (cZ ops j) i || cN (cZ ops i) j || (cZ ops i).apart ops (cZ ops j))&&(!sg ops i j || cN (cZ ops j) i))) else frc (clo ops j (Bv (ons (cZ ops j)))) fun S=>below j fun i=>S.testBit i)
def wo:List (Nat × Nat × List Nat)→Nat→Option (Nat × List Nat)
 | [],_=>none
 | p::l,id=>bif Nat.beq id p.1 then some p.2 else wo l id
def ju (P:Program) (TE:Nat→Option TI) (N:fF) (ops:Array Oper) (o:Oper) (K:(Nat→AV)→Prop) (F:Nat→AV):Prop:=
 gz F ops o.guard (fun F=>match o.dst with|some d=>dL P TE F o.op fun av=>bO N F d av K|none=>False)
  (fun F=>match o.dst with|some d=>bO N F d (.hold (.tup []) []) K|none=>False)
def nz:Op→Option (Option Nat × Nat)
 | .buildSlice T 1 ps=>(match ps.toList with|[(0,.tmp s)]=>some (some T,s)|_=>none)
 | .move (.tmp s)=>some (none,s)
 | _=>none
def own1 (T:Option Nat) (k:Kd) (cs:List C):Bool:=match T with
 | some _=>(match k with
   | .one=>(match cs with|[c]=>eB c|_=>false)
   | .agg=>(match cs with|[c]=>eB c|_=>false)
   | _=>false)
 | none=>(match k with|.tup _=>!aW cs|_=>false)
def Ns (TE:Nat→Option TI) (N:fF) (F:Nat→AV) (d:Nat) (T:Option Nat) (s:Nat) (K:(Nat→AV)→Prop):Prop:=match T with
 | some T=>ir TE N F d T 1 [(0,.tmp s)] K
 | none=>iq N F d (.tmp s) K
def J0 (F:Nat→AV) (o:Oper):Option (Option Nat × Nat):=
 match o.guard with
 | some _=>none
 | none=>match nz o.op with
  | none=>none
  | some p=>match F p.2 with
   | .hold k cs=>bif own1 p.1 k cs then some p else none
   | .dead=>none
   | .ref ..=>none
   | .bor ..=>none
   | .iref ..=>none
   | .fn ..=>none
   | .fv _=>none
def iT (ops:Array Oper) (o:Oper) (s:Nat):Bool:=
 ((List.range ops.size).any fun k=>cN o k&&(match(cZ ops k).dst with|some a=>Nat.beq a s|none=>false))&&Nat.ble (ops.toList.filter fun k=>(k.looksAt ops).any (Nat.beq s)).length 1
def pQ (ds:List Nat) (o:Oper):Bool:=match o.dst with|some d=>ds.any (Nat.beq d)|none=>false
def twk:List Nat→List Nat
 | []=>[]
 | e::l=>bif Nat.ble 1000 e then(e - 1000)::twk l else []
def dec:List Nat→List (Nat × List Nat)
 | []=>[]
 | e::l=>bif Nat.ble 1000 e then dec l else(e,twk l)::dec l
def Nr:Op→Bool
 | .move (.tmp _)=>true
 | .assign _=>true
 | .extract ..=>true
 | .build ..=>true
 | .store ..=>true
 | .load ..=>true
 | .fieldAddr ..=>true
 | .field ..=>true
 | .binOp ..=>true
 | .unOp ..=>true
 | .call c=>(wa c).isSome
 | _=>false
def pm (l:List (Nat × List Nat)) (i:Nat):Bool:=l.any fun p=>Nat.beq p.1 i
def ud (ops:Array Oper) (j i:Nat):Bool:=(clo ops j (Bv (ons (cZ ops j)))).testBit i
def Nz (o:Oper):Bool:=match o.guard with|none=>true|some _=>false
def Pa (ops:Array Oper) (oj oa:Oper):Bool:=match oa.dst with
 | none=>false
 | some da=>Nz oj&&Nr oj.op&&!(match oj.dst with|some d=>Nat.beq d da|none=>false)&&!(oj.looksAt ops).any (Nat.beq da)&&Nz oa&&!(oa.looksAt ops).any (Nat.beq da)&&(match nz oa.op with|none=>true|some p=>!iT ops oa p.2)
def yp (ops:Array Oper) (ds:List Nat) (i j:Nat):Bool:=
 bif pQ ds (cZ ops j) then(bif pQ ds (cZ ops i) then(cN (cZ ops j) i || cN (cZ ops i) j || (cZ ops i).apart ops (cZ ops j))&&(!sg ops i j || cN (cZ ops j) i)&&!(match(cZ ops i).dst with|some d=>(match(cZ ops j).dst with|some e=>Nat.beq d e|none=>false)|none=>false) else true)
 else(bif pQ ds (cZ ops i) then(ud ops j i || ud ops i j || Pa ops (cZ ops j) (cZ ops i))&&(!sg ops i j || cN (cZ ops j) i) else true)
def B7 (ops:Array Oper) (ds:List Nat):List (Nat × List Nat)→Bool
 | []=>true
 | k::l=>Nat.blt k.1 ops.size&&!pm l k.1&&((cZ ops k.1).after.toList.all fun e=>!Region.binds .any e || !(Nat.beq k.1 e.on || pm l e.on)) &&
  (pQ ds (cZ ops k.1) || ((l.all fun j=>ud ops j.1 k.1)&&(below ops.size fun p=>!pQ ds (cZ ops p) || pm l p || ud ops k.1 p || k.2.any (Nat.beq p))&&(!(l.any fun j=>pQ ds (cZ ops j.1)) || (Nz (cZ ops k.1)&&Nr (cZ ops k.1).op))))&&B7 ops ds l
def AO (ops:Array Oper) (ds:List Nat) (sch:List (Nat × List Nat)):Bool:=
 (below ops.size fun j=>((cZ ops j).after.toList.all fun e=>!Region.binds .any e || Nat.blt e.on j)&&pm sch j&&(!pQ ds (cZ ops j) || (match nz (cZ ops j).op with|none=>true|some p=>!iT ops (cZ ops j) p.2 || ds.any (Nat.beq p.2)))&&below ops.size fun i=>Nat.beq i j || yp ops ds i j)&&Nat.beq sch.length ops.size&&B7 ops ds sch
def ne (tb:List (Nat × Nat × List Nat)) (id:Nat) (ops:Array Oper):Bool:=
 match wo tb id with
 | some (m,ds)=>bif Nat.ble 256 m then AO ops (ds.take (m - 256)) (dec (ds.drop (m - 256))) else(Nat.ble m ops.size&&below m fun j=>match(cZ ops j).dst with|some d=>ds.any (Nat.beq d)|none=>true)&&Au ops m
 | none=>false
def kN (P:Program) (TE:Nat→Option TI) (N:fF) (ops:Array Oper) (o:Oper) (K:(Nat→AV)→Prop) (F:Nat→AV):Prop:=
 match J0 F o with
 | some p=>(match o.dst with|some d=>bif iT ops o p.2 then Ns TE N F d p.1 p.2 K else False|none=>False)
 | none=>ju P TE N ops o K F
def Lw (P:Program) (TE:Nat→Option TI) (N:fF) (ops:Array Oper):Nat→List Oper→((Nat→AV)→Prop)→(Nat→AV)→Prop
 | 0,l,K,F=>Jy P TE N ops l K F
 | _+1,[],K,F=>K F
 | m+1,o::l,K,F=>kN P TE N ops o (Lw P TE N ops m l K) F
def Mi (ds:List Nat) (t:Nat):Bool:=ds.any (Nat.beq t)
def Po (ds:List Nat):AV→AV
 | .ref t off st=>bif Mi ds t then .dead else .ref t off st
 | .bor t off st ag=>bif Mi ds t then .dead else .bor t off st ag
 | .fn f caps=>bif caps.any (Mi ds) then .dead else .fn f caps
 | .hold k cs=>.hold k cs
 | .iref r off=>.iref r off
 | .fv Ok=>.fv Ok
 | .dead=>.dead
def clr (ds:List Nat) (F:Nat→AV):Nat→AV:=fun t=>Po ds (F t)
theorem AD (ds:List Nat) (F:Nat→AV) (t:Nat):clr ds F t=bif ds.any (fun d=>(F t).uses d) then .dead else F t:=by
 unfold clr
 cases F t with
 | dead=>cases ds.any fun d=>AV.uses d .dead<;>rfl
 | hold k cs=>
  have:ds.any (fun d=>(AV.hold k cs).uses d)=false:=by
   rw[←Bool.not_eq_true,List.any_eq_true]
   rintro⟨d,_,h⟩
   cases h
  rw[this];rfl
 | iref r off=>
  have:ds.any (fun d=>(AV.iref r off).uses d)=false:=by
   rw[←Bool.not_eq_true,List.any_eq_true]
   rintro⟨d,_,h⟩
   cases h
  rw[this];rfl
 | fv Ok=>
  have:ds.any (fun d=>(AV.fv Ok).uses d)=false:=by
   rw[←Bool.not_eq_true,List.any_eq_true]
   rintro⟨d,_,h⟩
   cases h
  rw[this];rfl
 | ref t' off st=>rfl
 | bor t' off st ag=>rfl
 | fn f caps=>
  have:ds.any (fun d=>(AV.fn f caps).uses d)=caps.any (Mi ds):=by
   rw[Bool.eq_iff_iff,List.any_eq_true,List.any_eq_true]
   constructor
   ·rintro⟨d,hd,h⟩
    simp only[AV.uses,List.any_eq_true]at h
    obtain⟨c,hc,he⟩:=h
    exact⟨c,hc,List.any_eq_true.2 ⟨d,hd,he⟩⟩
   ·rintro⟨c,hc,h⟩
    obtain⟨d,hd,he⟩:=List.any_eq_true.1 h
    exact⟨d,hd,by simp only[AV.uses,List.any_eq_true];exact⟨c,hc,he⟩⟩
  rw[this];rfl
inductive Sm (a b:AV) (K:Prop):Prop
 |mk_ (h:a=b∧K)
theorem Sm.rf {a:AV} {K:Prop} (h:K):Sm a a K:=.mk_ ⟨rfl,h⟩
theorem Sm.out {a b:AV} {K:Prop} (h:Sm a b K):a=b∧K:=h.1
def N3 (P:Program) (TE:Nat→Option TI) (ops:Array Oper) (p:Nat) (K:Prop) (F:Nat→AV):Prop:=
 match(cZ ops p).dst with
 | none=>False
 | some d=>(match J0 F (cZ ops p) with
   | some _=>False
   | none=>dL P TE F (cZ ops p).op fun av=>Sm av (F d) K)
def KT (P:Program) (TE:Nat→Option TI) (ops:Array Oper):List Nat→Prop→(Nat→AV)→Prop
 | [],K,_=>K
 | p::l,K,F=>N3 P TE ops p (KT P TE ops l K F) F
def H3 (P:Program) (TE:Nat→Option TI) (N:fF) (ops:Array Oper) (ds:List Nat):List (Nat × List Nat)→((Nat→AV)→Prop)→(Nat→AV)→Prop
 | [],K,F=>K F
 | k::l,K,F=>bif pQ ds (cZ ops k.1) then kN P TE N ops (cZ ops k.1) (H3 P TE N ops ds l K) F else n6 P TE N ops (cZ ops k.1) (fun F1=>KT P TE ops k.2 (H3 P TE N ops ds l K F1) F1) F
def Mm:List Nat→(List Nat→Prop)→Prop
 | [],K=>K []
 | a::l,K=>Mm l fun l'=>K (a::l')
theorem GT:∀ (l:List Nat) (K:List Nat→Prop),Mm l K=K l
 | [],_=>rfl
 | a::l,K=>by rw[Mm,GT l]
def DD (P:Program) (TE:Nat→Option TI) (N:fF) (tb:List (Nat × Nat × List Nat)) (id:Nat) (ops:Array Oper) (K:(Nat→AV)→Prop) (F:Nat→AV):Prop:=
 match wo tb id with
 | some (m,ds)=>bif Nat.ble 256 m then Mm (ds.take (m - 256)) fun ds'=>H3 P TE N ops ds' (dec (ds.drop (m - 256))) K (clr ds' F) else Lw P TE N ops m ops.toList K (clr ds F)
 | none=>False
theorem gm {n:Nat} {p:Nat→Bool} (h:below n p=true) {i:Nat} (hi:i<n):p i=true:=List.all_eq_true.1 h i (List.mem_range.2 hi)
theorem bX {o:Oper} {i:Nat} : cN o i=true↔∃ e,e∈o.after∧Region.binds .any e=true∧e.on=i:=by
 unfold cN
 rw[List.any_eq_true]
 constructor
 ·rintro⟨e,he,hb⟩
  simp only[Bool.and_eq_true]at hb
  exact⟨e,by simpa using he,hb.1,Nat.eq_of_beq_eq_true hb.2⟩
 ·rintro⟨e,he,hb,rfl⟩
  exact⟨e,by simpa using he,by rw[hb,Nat.beq_refl];rfl⟩
theorem bc {ops:Array Oper} {i:Nat} {o:Oper} (h:ops[i]? = some o):cZ ops i=o:=by simp[cZ,Array.getD_eq_getD_getElem?,h]
section
variable {P:Program} {w0 w w1:World} {M S0 S:ab} {N:fF} {φ:Nat→ab} {F:Nat→AV} {a:Act} {TE:Nat→Option TI} {ops:Array Oper}
theorem sN {d:Nat} {b:Bool} (hF:F d=.hold .one [.v (.bool b)]):BY F d b=F:=by
 funext t
 unfold BY
 cases ht:Nat.beq t d with
 | true=>have:=Nat.eq_of_beq_eq_true ht;subst this;rw[hF];rfl
 | false=>rfl
theorem gh (o:Oper) (t:Nat) (h:t∈dq o.op):t∈o.looksAt ops:=by
 unfold Oper.looksAt
 refine List.mem_append_left _ ?_
 unfold dq at h
 obtain⟨x,hx,ht⟩:=List.mem_flatMap.1 h
 refine List.mem_filterMap.2 ⟨x,hx,?_⟩
 cases x with
 | tmp t'=>simp[tm]at ht;subst ht;rfl
 | _=>simp[tm]at ht
structure P1 (P:Program) (TE:Nat→Option TI) (N:fF) (ops:Array Oper) (o:Oper) (F:Nat→AV) (d:Nat) (av:AV):Prop where
 dst:o.dst=some d
 lt:N.free d=true
 self:av.uses d=false
 from_:ep F (o.looksAt ops) av
 at_:∀ F':Nat→AV,iJ F F' (o.looksAt ops)→∀ K':(Nat→AV)→Prop,K' (put F' d av)→ju P TE N ops o K' F'
theorem iJ.refl (F:Nat→AV) (ts:List Nat):iJ F F ts:=fun _ _=>⟨rfl,fun _ _ _ _ h=>h⟩
theorem FW {o:Oper} {K:(Nat→AV)→Prop} (h:ju P TE N ops o K F):∃ d av,P1 P TE N ops o F d av∧K (put F d av):=by
 cases hd:o.dst with
 | none=>
  exfalso
  unfold ju at h
  rw[hd]at h
  unfold gz at h
  cases hg:o.guard with
  | none=>rw[hg]at h;exact h
  | some p=>
   obtain⟨j,want⟩:=p
   rw[hg]at h
   simp only at h
   cases hj:(ops[j]?).bind (·.dst) with
   | none=>rw[hj]at h;exact h
   | some dg=>
    rw[hj]at h
    simp only at h
    split at h
    ·rename_i b _
     replace h:=Bf.out h
     cases b<;>cases want<;>exact h
    ·exact h
    ·exact h
 | some d=>
  have put1:∀ {F':Nat→AV} {av:AV} {K':(Nat→AV)→Prop},N.free d=true→av.uses d=false→K' (put F' d av)→bO N F' d av K':=fun h1 h2 h3=>by unfold bO;rw[h1,h2];exact h3
  have put2:∀ {F':Nat→AV} {av:AV} {K':(Nat→AV)→Prop},bO N F' d av K'→N.free d=true∧av.uses d=false∧K' (put F' d av):=fun {F' av K'} hp=>by
   unfold bO at hp
   cases hc:(N.free d&&!av.uses d) with
   | false=>rw[hc]at hp;exact hp.elim
   | true=>
    rw[hc]at hp
    simp only[Bool.and_eq_true,Bool.not_eq_true']at hc
    exact⟨hc.1,hc.2,hp⟩
  have pure1:dL P TE F o.op (fun av=>bO N F d av K)→∃ av,N.free d=true∧av.uses d=false∧K (put F d av)∧ep F (o.looksAt ops) av∧∀ F':Nat→AV,iJ F F' (o.looksAt ops)→∀ K':(Nat→AV)→Prop,K' (put F' d av)→dL P TE F' o.op (fun av=>bO N F' d av K'):=fun hp=>by
   obtain⟨av,h1,h2,h3⟩:=mr hp
   obtain⟨p1,p2,p3⟩:=put2 h1
   refine⟨av,p1,p2,p3,h2.mono fun t ht=>gh o t ht,fun F' hA K' hK=>?_⟩
   exact h3 F' (hA.mono fun t ht=>gh o t ht) _ (put1 p1 p2 hK)
  unfold ju at h
  rw[hd]at h
  unfold gz at h
  cases hg:o.guard with
  | none=>
   rw[hg]at h
   obtain⟨av,p1,p2,p3,p4,p5⟩:=pure1 h
   exact⟨d,av,⟨hd,p1,p2,p4,fun F' hA K' hK=>by unfold ju gz;rw[hg,hd];exact p5 F' hA K' hK⟩,p3⟩
  | some p=>
   obtain⟨j,want⟩:=p
   rw[hg]at h
   simp only at h
   cases hj:(ops[j]?).bind (·.dst) with
   | none=>rw[hj]at h;exact h.elim
   | some dg=>
    rw[hj]at h
    simp only at h
    have hdg:dg∈o.looksAt ops:=by
     unfold Oper.looksAt
     rw[hg]
     simp only[hj,Option.toList_some]
     simp
    split at h
    case h_3=>exact h.elim
    case h_2=>
     rename_i sh cs hFd
     obtain⟨p1,p2,p3⟩:=put2 h
     refine⟨d,.hold (.tup []) [],⟨hd,p1,p2,(fun d hd=>by cases hd),fun F' hA K' hK=>?_⟩,p3⟩
     unfold ju gz
     rw[hg,hd]
     simp only
     rw[hj]
     simp only
     rw[(hA dg hdg).1.trans hFd]
     exact put1 p1 p2 hK
    rename_i b hFd
    have same:∀ {F':Nat→AV},iJ F F' (o.looksAt ops)→F' dg=.hold .one [.v (.bool b)]:=fun hA=>(hA dg hdg).1.trans hFd
    have back:∀ {F':Nat→AV} {K':(Nat→AV)→Prop},iJ F F' (o.looksAt ops)→(b=want→dL P TE F' o.op (fun av=>bO N F' d av K'))→(b = !want→bO N F' d (.hold (.tup []) []) K')→ju P TE N ops o K' F':=fun {F' K'} hA h1 h2=>by
     unfold ju gz
     rw[hg,hd]
     simp only
     rw[hj]
     simp only
     rw[same hA]
     simp only
     refine Bf.P (fun hb=>?_) (fun hb=>?_)
     ·subst hb
      rw[sN (same hA)]
      cases want with
      | true=>exact h1 rfl
      | false=>exact h2 rfl
     ·subst hb
      rw[sN (same hA)]
      cases want with
      | true=>exact h2 rfl
      | false=>exact h1 rfl
    have hset:=sN hFd
    replace h:=Bf.out h
    by_cases hbw:b=want
    ·have hp:dL P TE F o.op (fun av=>bO N F d av K):=by
      subst hbw
      cases b with
      | true=>have:=h;rw[hset]at this;exact this
      | false=>have:=h;rw[hset]at this;exact this
     obtain⟨av,p1,p2,p3,p4,p5⟩:=pure1 hp
     exact⟨d,av,⟨hd,p1,p2,p4,fun F' hA K' hK=>back hA (fun _=>p5 F' hA K' hK) (fun e=>by subst hbw;cases b<;>cases e)⟩,p3⟩
    ·have hp:bO N F d (.hold (.tup []) []) K:=by
      cases b<;>cases want<;>first|exact absurd rfl hbw|skip
      ·have:=h;rw[hset]at this;exact this
      ·have:=h;rw[hset]at this;exact this
     obtain⟨p1,p2,p3⟩:=put2 hp
     exact⟨d,.hold (.tup []) [],⟨hd,p1,p2,(fun d hd=>by cases hd),fun F' hA K' hK=>back hA (fun e=>absurd e hbw) (fun _=>put1 p1 p2 hK)⟩,p3⟩
def aft:AV→AV
 | .hold k cs=>.hold k (splice cs 0 (List.replicate cs.length .x))
 | _=>.hold .one [.x]
theorem KV (v:AV) (e:Nat):(aft v).uses e=false:=by unfold aft;split<;>rfl
def eff (mv:Option Nat) (d:Nat) (av:AV) (F:Nat→AV):Nat→AV:=fun t=>if t=d then av else if mv=some t then aft (F t) else F t
theorem A2 {d:Nat} (av:AV) (hc:∀ t,(F t).uses d=false):put F d av=eff none d av F:=by
 funext t
 unfold eff
 by_cases h:t=d
 ·subst h;rw[mc,if_pos rfl]
 ·rw[gw _ _ h,if_neg h,if_neg (fun e=>by cases e),yu,hc t];rfl
theorem Nl {s:Nat} {v:AV} (h:v.uses s=false):qW s v=v:=by
 cases v with
 | bor t off st ag=>simp only[AV.uses]at h;simp[qW,h]
 | ref t off st=>simp only[AV.uses]at h;cases st<;>simp[qW,h]
 | _=>rfl
theorem Kh {d s:Nat} {k:Kd} {cs:List C} (av:AV) (hF:F s=.hold k cs) (hc:∀ t,(F t).uses d=false) (hs:∀ t,(F t).uses s=false):put (updH F s k (splice cs 0 (List.replicate cs.length .x))) d av=eff (some s) d av F:=by
 funext t
 unfold eff
 by_cases h:t=d
 ·subst h;rw[mc,if_pos rfl]
 ·rw[gw _ _ h,if_neg h]
  by_cases h2:t=s
  ·subst h2;rw[gr,if_pos rfl,hF];rfl
  ·rw[if_neg (fun e=>h2 (by simpa using e.symm))]
   unfold updH
   rw[show Nat.beq t s=false by rw[←Bool.not_eq_true,Nat.beq_eq];exact h2]
   simp only[cond_false]
   rw[Nl (hs t),yu,hc t];rfl
theorem EX {d T s:Nat} {k:Kd} {c:C} {K:(Nat→AV)→Prop} (hk:k=.one∨k=.agg) (hF:F s=.hold k [c]) (hc:eB c=true) (h:ir TE N F d T 1 [(0,.tmp s)] K) :
  ∃ av,N.free d=true∧(∀ e,av.uses e=false)∧K (put (updH F s k [.x]) d av)∧∀ (F':Nat→AV) (K':(Nat→AV)→Prop),F' s=.hold k [c]→K' (put (updH F' s k [.x]) d av)→ir TE N F' d T 1 [(0,.tmp s)] K':=by
 have key:∀ F':Nat→AV,F' s=.hold k [c]→∀ K':(Nat→AV)→Prop,ir TE N F' d T 1 [(0,.tmp s)] K'=G7 TE T fun _ ie=>bif Nat.ble (1*ie.size) 16777216 then(bif Nat.beq 1 ie.size&&Nat.ble (0*ie.size+ie.size) (rep ie.zero 1).length then bO N (updH F' s k [.x]) d (.hold .one [.s .own (chunk ie.size 1 (splice (rep ie.zero 1) (0*ie.size) [c]))]) K' else False) else False:=by
  intro F' hF' K'
  unfold ir
  congr 1
  funext e ie
  rcases hk with rfl|rfl<;>simp only[ek,fillW,Pf,tG,nj,hF',iA,aW,hc,cond_true,cond_false,gx,qo,List.length_singleton,List.replicate]
  all_goals rfl
 rw[key F hF]at h
 obtain⟨e,ie,h1,hsel⟩:=jO h
 cases hb1:Nat.ble (1*ie.size) 16777216 with
 | false=>rw[hb1]at h1;exact h1.elim
 | true=>
  cases hb2:(Nat.beq 1 ie.size&&Nat.ble (0*ie.size+ie.size) (rep ie.zero 1).length) with
  | false=>rw[hb1,hb2]at h1;exact h1.elim
  | true=>
   rw[hb1,hb2]at h1
   simp only[cond_true]at h1
   unfold bO at h1
   cases hfr:N.free d with
   | false=>rw[hfr]at h1;exact h1.elim
   | true=>
    rw[hfr]at h1
    refine⟨_,rfl,fun _=>rfl,h1,fun F' K' hF' hK=>?_⟩
    rw[key F' hF']
    refine hsel _ ?_
    simp only[hb1,hb2,cond_true]
    unfold bO
    rw[hfr]
    exact hK
theorem MZ {d s:Nat} {T:Option Nat} {k:Kd} {cs:List C} {K:(Nat→AV)→Prop} (hF:F s=.hold k cs) (ho:own1 T k cs=true) (h:Ns TE N F d T s K) :
  ∃ av,N.free d=true∧(∀ e,av.uses e=false)∧K (put (updH F s k (splice cs 0 (List.replicate cs.length .x))) d av)∧∀ (F':Nat→AV) (K':(Nat→AV)→Prop),F' s=.hold k cs→K' (put (updH F' s k (splice cs 0 (List.replicate cs.length .x))) d av)→Ns TE N F' d T s K':=by
 cases T with
 | some T=>
  have h1:(k=.one∨k=.agg)∧∃ c,cs=[c]∧eB c=true:=by
   unfold own1 at ho
   cases k with
   | one=>match cs,ho with|[c],ho=>exact⟨.inl rfl,c,rfl,ho⟩
   | agg=>match cs,ho with|[c],ho=>exact⟨.inr rfl,c,rfl,ho⟩
   | _=>cases ho
  obtain⟨hk,c,rfl,hc⟩:=h1
  exact EX hk hF hc h
 | none=>
  have h1:∃ sh,k=.tup sh∧aW cs=false:=by
   unfold own1 at ho
   cases k with
   | tup sh=>exact⟨sh,rfl,by simpa using ho⟩
   | _=>cases ho
  obtain⟨sh,rfl,hn⟩:=h1
  have key:∀ F':Nat→AV,F' s=.hold (.tup sh) cs→∀ K',Ns TE N F' d none s K'=bO N (updH F' s (.tup sh) (splice cs 0 (List.replicate cs.length .x))) d (.hold (.tup sh) cs) K':=fun F' hF' K'=>by
   simp only[Ns,iq,hF',hn,cond_false]
  rw[key F hF]at h
  unfold bO at h
  cases hfr:N.free d with
  | false=>rw[hfr]at h;exact h.elim
  | true=>
   rw[hfr]at h
   refine⟨_,rfl,fun _=>rfl,h,fun F' K' hF' hK=>?_⟩
   rw[key F' hF']
   unfold bO
   rw[hfr]
   exact hK
structure Yl (P:Program) (TE:Nat→Option TI) (N:fF) (ops:Array Oper) (o:Oper) (F:Nat→AV) (mv:Option Nat) (d:Nat) (av:AV):Prop where
 dst:o.dst=some d
 lt:N.free d=true
 self:av.uses d=false
 from_:ep F (o.looksAt ops) av
 mvl:∀ s,mv=some s→o.guard=none∧(∃ T,nz o.op=some (T,s))∧iT ops o s=true
 at_:∀ F':Nat→AV,iJ F F' (o.looksAt ops)→(∀ t,(F' t).uses d=false)→(∀ s,mv=some s→∀ t,(F' t).uses s=false)→∀ K':(Nat→AV)→Prop,K' (eff mv d av F')→kN P TE N ops o K' F'
theorem He {o:Op} {T:Option Nat} {s:Nat} (h:nz o=some (T,s)):(∃ T' ps,T=some T'∧o=.buildSlice T' 1 ps∧ps.toList=[(0,.tmp s)])∨(T=none∧o=.move (.tmp s)):=by
 unfold nz at h
 split at h
 ·split at h
  ·rename_i T' ps s' hps
   simp only[Option.some.injEq,Prod.mk.injEq]at h
   obtain⟨rfl,rfl⟩:=h
   exact .inl ⟨_,_,rfl,rfl,hps⟩
  ·cases h
 ·simp only[Option.some.injEq,Prod.mk.injEq]at h
  obtain⟨rfl,rfl⟩:=h
  exact .inr ⟨rfl,rfl⟩
 ·cases h
theorem cK {o:Oper} {T:Option Nat} {s:Nat} (h:nz o.op=some (T,s)):s∈o.looksAt ops:=by
 refine gh o s ?_
 unfold dq
 refine List.mem_flatMap.2 ⟨.tmp s,?_,by simp[tm]⟩
 rcases He h with⟨T',ps,-,h1,h2⟩|⟨-,h1⟩
 ·rw[h1]
  simp only[Op.operands]
  have:ps = #[(0,.tmp s)]:=Array.ext' (by rw[h2])
  subst this
  simp
 ·rw[h1];simp[Op.operands]
theorem BO {o:Oper} {p:Option Nat × Nat} (h:J0 F o=some p):o.guard=none∧nz o.op=some p∧∃ k cs,F p.2=.hold k cs∧own1 p.1 k cs=true:=by
 unfold J0 at h
 split at h
 ·cases h
 rename_i hg
 split at h
 ·cases h
 rename_i p' hp
 split at h
 case h_1=>
  rename_i k cs hF
  cases hb:own1 p'.1 k cs with
  | false=>rw[hb]at h;cases h
  | true=>
   rw[hb]at h
   simp only[cond_true,Option.some.injEq]at h
   subst h
   exact⟨hg,hp,_,_,hF,hb⟩
 all_goals cases h
theorem uw {F':Nat→AV} {o:Oper} (hA:iJ F F' (o.looksAt ops)):J0 F' o=J0 F o:=by
 unfold J0
 cases hg:o.guard with
 | some _=>rfl
 | none=>
  cases hm:nz o.op with
  | none=>rfl
  | some p=>simp only;rw[(hA p.2 (cK hm)).1]
theorem oR {o:Oper} {K:(Nat→AV)→Prop} (h:kN P TE N ops o K F) (hc:∀ d,o.dst=some d→∀ t,(F t).uses d=false) (hs:∀ T s,o.guard=none→nz o.op=some (T,s)→iT ops o s=true→∀ t,(F t).uses s=false) :
  ∃ mv d av,Yl P TE N ops o F mv d av∧K (eff mv d av F):=by
 unfold kN at h
 cases hm:J0 F o with
 | none=>
  rw[hm]at h
  obtain⟨d,av,hy,hK⟩:=FW h
  refine⟨none,d,av,⟨hy.dst,hy.lt,hy.self,hy.from_,fun s hs=>(by cases hs),fun F' hA hd _ K' hK'=>?_⟩,by rw[←A2 av (hc d hy.dst)];exact hK⟩
  unfold kN
  rw[uw hA,hm]
  exact hy.at_ F' hA K' (by rw[A2 av hd];exact hK')
 | some p=>
  rw[hm]at h
  obtain⟨hg,hmo,k,cs,hF,hown⟩:=BO hm
  simp only at h
  cases hd:o.dst with
  | none=>rw[hd]at h;exact h.elim
  | some d=>
   rw[hd]at h
   simp only at h
   cases hso:iT ops o p.2 with
   | false=>rw[hso]at h;exact h.elim
   | true=>
    rw[hso]at h
    simp only[cond_true]at h
    obtain⟨av,h1,h2,h3,h4⟩:=MZ hF hown h
    refine⟨some p.2,d,av,⟨hd,h1,h2 d,fun e he=>(by rw[h2 e]at he;cases he),fun s hs=>?_,fun F' hA hd' hs' K' hK'=>?_⟩,?_⟩
    ·simp only[Option.some.injEq]at hs
     subst hs
     exact⟨hg,⟨p.1,hmo⟩,hso⟩
    ·unfold kN
     rw[uw hA,hm]
     simp only
     rw[hd]
     simp only
     rw[hso]
     refine h4 F' K' ((hA p.2 (cK hmo)).1.trans hF) ?_
     rw[Kh av ((hA p.2 (cK hmo)).1.trans hF) hd' (hs' p.2 rfl)]
     exact hK'
    ·rw[←Kh av hF (hc d hd) (hs p.1 p.2 hg hmo hso)]
     exact h3
end
end Go.Proofs.YtplcalfnngkffaaGreat.Ab
/- The orders of a region: the text's order stands for all. No condition. -/
namespace Go.Proofs.YtplcalfnngkffaaGreat.Ab
open Go.RowKit
section
variable {P:Program} {w0 w w1:World} {M S0 S:ab} {N:fF} {φ:Nat→ab} {F:Nat→AV} {a:Act} {TE:Nat→Option TI} {ops:Array Oper}
def wD (P:Program) (TE:Nat→Option TI) (N:fF) (ops:Array Oper) (m i:Nat) (K:(Nat→AV)→Prop) (F:Nat→AV):Prop:=
 match ops[i]? with
 | none=>K F
 | some o=>if i<m then kN P TE N ops o K F else n6 P TE N ops o K F
def F7 (P:Program) (TE:Nat→Option TI) (N:fF) (ops:Array Oper) (m:Nat) (K:(Nat→AV)→Prop):Nat→Array Bool→(Nat→AV)→Prop
 | 0,listed,F=>Region.ready .any ops listed=[]∧K F
 | fuel+1,listed,F=>(Region.ready .any ops listed=[]→K F)∧∀ i,i∈Region.ready .any ops listed→wD P TE N ops m i (F7 P TE N ops m K fuel (listed.setIfInBounds i true)) F
theorem bj.oneP0 (h:bj w0 M S0 N S φ F a w) (hTE:∀ t i,TE t=some i→bA P t i) {o:Oper} {K:(Nat→AV)→Prop} (hp:ju P TE N ops o K F)
  {Kc:Act→World→Prop} {Q:Exit→Act→World→Prop} (hk:∀ F' a' w',K F'→St w0 M S0 N F' a' w'→Kc a' w') :
  if Region.wanted o (yielded ops a.tmps) then o.wp P a w Kc Q else Kc (a.put o.dst undef) w:=by
 unfold ju at hp
 rcases u5 h hp with⟨hw,hp⟩|⟨hw,hp⟩
 ·rw[hw,if_pos rfl]
  cases hd:o.dst with
  | none=>rw[hd]at hp;exact hp.elim
  | some d=>
   rw[hd]at hp
   obtain⟨av,hK,hy⟩:=h.pure_ hTE hp
   refine hy Kc Q fun v w' hn=>?_
   obtain⟨F',hK',hst⟩:=h.putD_new hn hK
   rw[hd]
   exact hk F' _ w' hK' hst
 ·rw[hw,if_neg (by simp)]
  cases hd:o.dst with
  | none=>rw[hd]at hp;exact hp.elim
  | some d=>
   rw[hd]at hp
   obtain⟨F',hK,hst⟩:=h.putD_new (v:=undef) (lV.same (av:=.hold (.tup []) []) Kn) hp
   exact hk F' _ w hK hst
theorem Hj {o:Oper} {p:Option Nat × Nat} {d:Nat} {K:(Nat→AV)→Prop} (hm:J0 F o=some p) (hd:o.dst=some d) (h:Ns TE N F d p.1 p.2 K):n6 P TE N ops o K F:=by
 obtain⟨hg,hmo,-⟩:=BO hm
 obtain⟨T,s⟩:=p
 rcases He hmo with⟨T',ps,rfl,h1,h2⟩|⟨rfl,h1⟩
 ·unfold n6 gz
  rw[hg]
  simp only
  rw[h1]
  simp only[KU]
  rw[hd]
  simp only[qm,h2]
  exact h
 ·unfold n6 gz
  rw[hg]
  simp only
  rw[h1]
  simp only[KU]
  rw[hd]
  simp only[qm]
  exact h
theorem bj.oneP (h:bj w0 M S0 N S φ F a w) (hTE:∀ t i,TE t=some i→bA P t i) {o:Oper} {K:(Nat→AV)→Prop} (hp:kN P TE N ops o K F)
  {Kc:Act→World→Prop} {Q:Exit→Act→World→Prop} (hk:∀ F' a' w',K F'→St w0 M S0 N F' a' w'→Kc a' w') :
  if Region.wanted o (yielded ops a.tmps) then o.wp P a w Kc Q else Kc (a.put o.dst undef) w:=by
 unfold kN at hp
 cases hm:J0 F o with
 | none=>rw[hm]at hp;exact h.oneP0 hTE hp hk
 | some p=>
  rw[hm]at hp
  simp only at hp
  cases hd:o.dst with
  | none=>rw[hd]at hp;exact hp.elim
  | some d=>
   rw[hd]at hp
   simp only at hp
   cases hso:iT ops o p.2 with
   | false=>rw[hso]at hp;exact hp.elim
   | true=>
    rw[hso]at hp
    have:=h.one hTE (Hj (P:=P) (ops:=ops) hm hd hp) (Q:=Q) hk
    rw[hd]at this
    exact this
theorem EP (hTE:∀ t i,TE t=some i→bA P t i) {m i:Nat} {K:(Nat→AV)→Prop} (hp:wD P TE N ops m i K F) (hs:St w0 M S0 N F a w) {Kc:Act→World→Prop} {Q:Exit→Act→World→Prop}
  (hk:∀ F' a' w',K F'→St w0 M S0 N F' a' w'→Kc a' w'):wpOp P ops Q i Kc a w:=by
 unfold wD at hp
 unfold wpOp
 cases ho:ops[i]? with
 | none=>rw[ho]at hp;exact hk F a w hp hs
 | some o=>
  rw[ho]at hp
  simp only at hp ⊢
  obtain⟨S,φ,h⟩:=hs
  have:if Region.wanted o (yielded ops a.tmps) then o.wp P a w Kc Q else Kc (a.put o.dst undef) w:=by
   split at hp
   ·exact h.oneP hTE hp hk
   ·exact h.one hTE hp hk
  split
  ·rename_i hw;rw[if_pos hw]at this;exact .inl this
  ·rename_i hw;rw[if_neg hw]at this;exact this
theorem y8 (hTE:∀ t i,TE t=some i→bA P t i) {m:Nat} {K:(Nat→AV)→Prop} {Q:Exit→Act→World→Prop} (hk:∀ F' a' w',K F'→St w0 M S0 N F' a' w'→Q .normal a' w') :
  ∀ (fuel:Nat) (listed:Array Bool) (F:Nat→AV) (a:Act) (w:World),F7 P TE N ops m K fuel listed F→St w0 M S0 N F a w→wpAny P .any ops Q fuel listed a w
 | 0,_,F,a,w,hp,hs=>⟨hp.1,hk F a w hp.2 hs⟩
 | fuel+1,_,F,a,w,hp,hs=>⟨fun h0=>hk F a w (hp.1 h0) hs,fun i hi=>EP hTE (hp.2 i hi) hs fun F' a' w' hK hs'=>y8 hTE hk fuel _ F' a' w' hK hs'⟩
structure yP (ops:Array Oper) (m:Nat) (F:Nat→AV) (listed:Array Bool):Prop where
 dst:∀ j o d,j<m→ops[j]? = some o→listed.getD j true=false→o.dst=some d→∀ t,(F t).uses d=false
 mv:∀ j o T s,j<m→ops[j]? = some o→listed.getD j true=false→o.guard=none→nz o.op=some (T,s)→iT ops o s=true→∀ t,(F t).uses s=false
def DC (ops:Array Oper) (listed:Array Bool):Prop:=∀ j oj,ops[j]? = some oj→listed.getD j false=true→∀ k,cN oj k=true→listed.getD k false=true
theorem Mo {d e:Nat} {v:AV} (h:(kl d v).uses e=true):v.uses e=true∧v.uses d=false:=by
 rw[yu]at h
 cases hd:v.uses d with
 | true=>rw[hd]at h;cases h
 | false=>rw[hd]at h;exact⟨h,rfl⟩
theorem wh {α:Type} {p:α→Bool} : ∀ {l:List α} {i j:Nat} {x y:α},(l.filter p).length≤1→l[i]? = some x→l[j]? = some y→p x=true→p y=true→i=j
 | [],_,_,_,_,_,h,_,_,_=>by simp at h
 | a::l,0,0,_,_,_,_,_,_,_=>rfl
 | a::l,i+1,j+1,x,y,h,hx,hy,px,py=>by
  rw[wh (l:=l) (Nat.le_trans (List.Sublist.length_le ((List.sublist_cons_self a l).filter p)) h) hx hy px py]
 | a::l,0,j+1,x,y,h,hx,hy,px,py=>by
  simp only[List.getElem?_cons_zero,Option.some.injEq]at hx
  subst hx
  rw[List.filter_cons_of_pos px]at h
  have:y∈l.filter p:=List.mem_filter.2 ⟨List.mem_of_getElem? hy,py⟩
  have:=List.length_pos_of_mem this
  rw[List.length_cons]at h;omega
 | a::l,i+1,0,x,y,h,hx,hy,px,py=>by
  simp only[List.getElem?_cons_zero,Option.some.injEq]at hy
  subst hy
  rw[List.filter_cons_of_pos py]at h
  have:x∈l.filter p:=List.mem_filter.2 ⟨List.mem_of_getElem? hx,px⟩
  have:=List.length_pos_of_mem this
  rw[List.length_cons]at h;omega
theorem ig {listed:Array Bool} {j j':Nat} (hl:(listed.setIfInBounds j true).getD j' true=false):j'≠j:=fun e=>by
 subst e
 have hlt:j'<listed.size:=by
  rcases Nat.lt_or_ge j' listed.size with h|h
  ·exact h
  ·simp[Array.getD_eq_getD_getElem?,Array.getElem?_eq_none (show(listed.setIfInBounds j' true).size≤j' by simpa using h)]at hl
 simp[Array.getD_eq_getD_getElem?,hlt]at hl
theorem je {mv:Option Nat} {d e t:Nat} {av:AV} (hav:av.uses e=false) (hF:(F t).uses e=false):(eff mv d av F t).uses e=false:=by
 unfold eff
 split
 ·exact hav
 ·split
  ·exact KV _ _
  ·exact hF
theorem yP.put {m j d:Nat} {mv:Option Nat} {listed:Array Bool} {av:AV} (h:yP ops m F listed) (hav:∀ j' o' d',j'<m→j'≠j→ops[j']? = some o'→listed.getD j' true=false→o'.dst=some d'→av.uses d'=false)
  (hmv:∀ j' o' T s,j'<m→j'≠j→ops[j']? = some o'→listed.getD j' true=false→o'.guard=none→nz o'.op=some (T,s)→iT ops o' s=true→av.uses s=false) :
  yP ops m (eff mv d av F) (listed.setIfInBounds j true):=by
 refine⟨fun j' o' d' hm hj' hl hd' t=>?_,fun j' o' T s hm hj' hl hg hmo hso t=>?_⟩
 ·have hne:=ig hl
  rw[getD_set_ne true (Ne.symm hne)]at hl
  exact je (hav j' o' d' hm hne hj' hl hd') (h.dst j' o' d' hm hj' hl hd' t)
 ·have hne:=ig hl
  rw[getD_set_ne true (Ne.symm hne)]at hl
  exact je (hmv j' o' T s hm hne hj' hl hg hmo hso) (h.mv j' o' T s hm hj' hl hg hmo hso t)
inductive nu (ops:Array Oper):Nat→Nat→Prop
 |one {j i:Nat} (h:cN (cZ ops j) i=true):nu ops j i
 |step {j k i:Nat} (h:cN (cZ ops j) k=true) (h2:nu ops k i):nu ops j i
theorem nu.trans {i j k:Nat} (h:nu ops j k) (h2:nu ops k i):nu ops j i:=by
 induction h with
 | one h=>exact .step h h2
 | step h _ ih=>exact .step h (ih h2)
theorem DW {i:Nat} : ∀ {ks:List Nat},(Bv ks).testBit i=true→i∈ks
 | [],h=>by simp[Bv]at h
 | k::ks,h=>by
  rw[Bv,Nat.testBit_or,Bool.or_eq_true]at h
  rcases h with h|h
  ·rw[Nat.testBit_two_pow]at h
   rw[decide_eq_true_eq]at h
   rw[h];exact List.mem_cons_self
  ·exact List.mem_cons_of_mem _ (DW h)
theorem uB {o:Oper} {i:Nat} (h:(Bv (ons o)).testBit i=true):cN o i=true:=by
 have:=DW h
 unfold ons at this
 obtain⟨e,he,rfl⟩:=List.mem_map.1 this
 rw[List.mem_filter]at he
 exact bX.2 ⟨e,by simpa using he.1,he.2,rfl⟩
theorem rC {j:Nat} : ∀ (k S:Nat),(∀ i,S.testBit i=true→nu ops j i)→∀ i,(clo ops k S).testBit i=true→nu ops j i
 | 0,_,h,i,hi=>h i hi
 | k+1,S,h,i,hi=>by
  rw[clo,KH]at hi
  cases hb:S.testBit k with
  | false=>rw[hb]at hi;exact rC k S h i hi
  | true=>
   rw[hb]at hi
   refine rC k _ (fun i' hi'=>?_) i hi
   rw[Nat.testBit_or,Bool.or_eq_true]at hi'
   rcases hi' with h'|h'
   ·exact h i' h'
   ·exact(h k hb).trans (.one (uB h'))
theorem mP {listed:Array Bool} (hdc:DC ops listed) (hback:∀ j oj,ops[j]? = some oj→∀ e∈oj.after,Region.binds .any e=true→e.on<j) {j i:Nat} (hr:nu ops j i):j<ops.size→(∀ k,cN (cZ ops j) k=true→listed.getD k false=true)→listed.getD i false=true:=by
 induction hr with
 | one h=>exact fun _ hj=>hj _ h
 | @step j k i h h2 ih=>
  intro hlt hj
  have hk:k<j:=by
   have h0:=(show ops[j]? = some ops[j] from Array.getElem?_eq_getElem hlt)
   rw[bc h0]at h
   obtain⟨e,he1,he2,rfl⟩:=bX.1 h
   exact hback j _ h0 e he1 he2
  have hk':k<ops.size:=by omega
  have h0:=(show ops[k]? = some ops[k] from Array.getElem?_eq_getElem hk')
  exact ih hk' fun k' hk'=>hdc k _ h0 (hj k h) k' (by rw[bc h0]at hk';exact hk')
theorem DC.put {listed:Array Bool} (h:DC ops listed) {j:Nat} (hj:j∈Region.ready .any ops listed):DC ops (listed.setIfInBounds j true):=by
 obtain⟨h1,oj,hoj,hall⟩:=mem_ready.1 hj
 intro k ok hk hl e he
 by_cases hkj:k=j
 ·subst hkj
  rw[hoj]at hk
  simp only[Option.some.injEq]at hk
  subst hk
  obtain⟨e',he1,he2,rfl⟩:=bX.1 he
  exact getD_set_true (hall e' he1 he2)
 ·rw[getD_set_ne false (Ne.symm hkj)]at hl
  exact getD_set_true (h k ok hk hl e he)
theorem fK {o:Oper} {s:Nat} (h:iT ops o s=true):(∃ k ok,cN o k=true∧ops[k]? = some ok∧ok.dst=some s)∧∀ (i j:Nat) (oi oj:Oper),ops[i]? = some oi→ops[j]? = some oj→s∈oi.looksAt ops→s∈oj.looksAt ops→i=j:=by
 unfold iT at h
 rw[Bool.and_eq_true]at h
 obtain⟨h1,h2⟩:=h
 constructor
 ·obtain⟨k,hk,hb⟩:=List.any_eq_true.1 h1
  have hlt:=List.mem_range.1 hk
  have h0:=(show ops[k]? = some ops[k] from Array.getElem?_eq_getElem hlt)
  rw[Bool.and_eq_true,bc h0]at hb
  refine⟨k,_,hb.1,h0,?_⟩
  have:=hb.2
  cases hd:ops[k].dst with
  | none=>rw[hd]at this;cases this
  | some a=>rw[hd]at this;simp only at this;rw[Nat.eq_of_beq_eq_true this]
 ·intro i j oi oj hi hj hsi hsj
  have hle:=Nat.le_of_ble_eq_true h2
  have hi':ops.toList[i]? = some oi:=by simpa using hi
  have hj':ops.toList[j]? = some oj:=by simpa using hj
  have pi:(oi.looksAt ops).any (Nat.beq s)=true:=List.any_eq_true.2 ⟨s,hsi,Nat.beq_refl s⟩
  have pj:(oj.looksAt ops).any (Nat.beq s)=true:=List.any_eq_true.2 ⟨s,hsj,Nat.beq_refl s⟩
  generalize ops.toList=l at hle hi' hj'
  exact wh (p:=fun k:Oper=>(k.looksAt ops).any (Nat.beq s)) hle hi' hj' pi pj
structure Pn (ops:Array Oper) (m:Nat):Prop where
 back:∀ j oj,ops[j]? = some oj→∀ e∈oj.after,Region.binds .any e=true→e.on<j
 tail:∀ j,m≤j→j<ops.size→∀ i,i<j→nu ops j i
 apart:∀ i j oi oj,i<m→j<m→i≠j→ops[i]? = some oi→ops[j]? = some oj→cN oj i=true∨cN oi j=true∨oi.apart ops oj=true
 look:∀ i j oi oj d,i<m→j<m→i≠j→ops[i]? = some oi→ops[j]? = some oj→oi.dst=some d→d∈oj.looksAt ops→cN oj i=true
theorem D9 {m:Nat} (h:Au ops m=true):Pn ops m:=by
 have hb:∀ j oj,ops[j]? = some oj→_:=fun j oj hj=>gm h (Array.getElem?_eq_some_iff.1 hj).1
 refine⟨fun j oj hj e he hbe=>?_,fun j hm hj i hi=>?_,fun i j oi oj hi hj hne h1 h2=>?_,fun i j oi oj d hi hj hne h1 h2 hd hl=>?_⟩
 ·have:=hb j oj hj
  rw[bc hj]at this
  simp only[Bool.and_eq_true]at this
  have:=List.all_eq_true.1 this.1 e (by simpa using he)
  rw[hbe]at this
  simpa[Nat.blt_eq] using this
 ·have hj':=(show ops[j]? = some ops[j] from Array.getElem?_eq_getElem hj)
  have:=hb j _ hj'
  simp only[Bool.and_eq_true]at this
  have h3:=this.2
  rw[show Nat.blt j m=false by rw[←Bool.not_eq_true,Nat.blt_eq];omega]at h3
  simp only[cond_false,KH]at h3
  exact rC j _ (fun i' hi'=>.one (uB hi')) i (gm h3 hi)
 ·have:=hb j oj h2
  rw[bc h2]at this
  simp only[Bool.and_eq_true]at this
  have h3:=this.2
  rw[show Nat.blt j m=true by simpa[Nat.blt_eq] using hj]at h3
  have h4:=gm h3 hi
  rw[bc h1,show Nat.beq i j=false by rw[←Bool.not_eq_true,Nat.beq_eq];exact hne]at h4
  simp only[Bool.false_or,Bool.and_eq_true,Bool.or_eq_true]at h4
  rcases h4.1 with(h|h)|h
  ·exact .inl h
  ·exact .inr (.inl h)
  ·exact .inr (.inr h)
 ·have:=hb j oj h2
  rw[bc h2]at this
  simp only[Bool.and_eq_true]at this
  have h3:=this.2
  rw[show Nat.blt j m=true by simpa[Nat.blt_eq] using hj]at h3
  have h4:=gm h3 hi
  rw[bc h1,show Nat.beq i j=false by rw[←Bool.not_eq_true,Nat.beq_eq];exact hne]at h4
  simp only[Bool.false_or,Bool.and_eq_true,Bool.or_eq_true]at h4
  rcases h4.2 with h|h
  ·exfalso
   unfold sg at h
   rw[bc h1,hd]at h
   simp only at h
   rw[bc h2]at h
   have:(oj.looksAt ops).any (Nat.beq d)=true:=List.any_eq_true.2 ⟨d,hl,Nat.beq_refl d⟩
   rw[this]at h;cases h
  ·exact h
theorem HH {m:Nat} (hok:Pn ops m) {i d:Nat} {oi:Oper} {mv:Option Nat} {av:AV} {K:(Nat→AV)→Prop} (hi:ops[i]? = some oi) (him:i<m) :
  ∀ (fuel:Nat) (listed:Array Bool) (F:Nat→AV),i∈Region.ready .any ops listed→yP ops m F listed→DC ops listed→Yl P TE N ops oi F mv d av→F7 P TE N ops m K fuel (listed.setIfInBounds i true) (eff mv d av F)→F7 P TE N ops m K (fuel+1) listed F:=by
 have self:∀ (listed:Array Bool) (F:Nat→AV),i∈Region.ready .any ops listed→yP ops m F listed→Yl P TE N ops oi F mv d av→∀ K':(Nat→AV)→Prop,K' (eff mv d av F)→kN P TE N ops oi K' F:=fun listed F hr hcl hy K' hK=>by
  have hiun:=(mem_ready.1 hr).1
  refine hy.at_ F (iJ.refl _ _) (hcl.dst i oi d him hi hiun hy.dst) (fun s hs=>?_) K' hK
  obtain⟨h1,⟨T,h2⟩,h3⟩:=hy.mvl s hs
  exact hcl.mv i oi T s him hi hiun h1 h2 h3
 intro fuel
 induction fuel with
 | zero=>
  intro listed F hr hcl hdc hy H
  refine⟨fun h=>(by rw[h]at hr;cases hr),fun j hj=>?_⟩
  by_cases hji:j=i
  ·subst hji
   unfold wD
   rw[hi]
   simp only[if_pos him]
   exact self listed F hr hcl hy _ H
  ·have:=ready_mono hj hji
   rw[H.1]at this
   cases this
 | succ fuel ih=>
  intro listed F hr hcl hdc hy H
  refine⟨fun h=>(by rw[h]at hr;cases hr),fun j hj=>?_⟩
  by_cases hji:j=i
  ·subst hji
   unfold wD
   rw[hi]
   simp only[if_pos him]
   exact self listed F hr hcl hy _ H
  ·have h1:=H.2 j (ready_mono hj hji)
   obtain⟨hjun,oj,hoj,hall⟩:=mem_ready.1 hj
   have hiun:=(mem_ready.1 hr).1
   have unl:∀ k,listed.getD k true=false→listed.getD k false=true→False:=fun k h1 h2=>by
    rcases Nat.lt_or_ge k listed.size with h'|h'
    ·simp[h']at h1 h2;rw[h1]at h2;cases h2
    ·simp[Array.getElem?_eq_none h']at h2
   have noedge:∀ k ok,ops[k]? = some ok→listed.getD k true=false→cN oj k=false:=fun k ok hk hkun=>by
    rw[←Bool.not_eq_true]
    intro he
    obtain⟨e,he1,he2,he3⟩:=bX.1 he
    exact unl k hkun (he3 ▸ hall e he1 he2)
   have noedge':∀ k ok,ops[k]? = some ok→listed.getD k true=false→cN oi k=false:=fun k ok hk hkun=>by
    rw[←Bool.not_eq_true]
    intro he
    obtain⟨e,he1,he2,he3⟩:=bX.1 he
    obtain⟨-,oi',hoi',hall'⟩:=mem_ready.1 hr
    rw[hi]at hoi'
    simp only[Option.some.injEq]at hoi'
    subst hoi'
    exact unl k hkun (he3 ▸ hall' e he1 he2)
   have hjm:j<m:=by
    rcases Nat.lt_or_ge j m with h|h
    ·exact h
    ·have hjlt:=(Array.getElem?_eq_some_iff.1 hoj).1
     refine(unl i hiun (mP hdc hok.back (hok.tail j h hjlt i (by omega)) hjlt fun k hk=>?_)).elim
     rw[bc hoj]at hk
     obtain⟨e,he1,he2,rfl⟩:=bX.1 hk
     exact hall e he1 he2
   have hap:oi.apart ops oj=true:=by
    rcases hok.apart i j oi oj him hjm (Ne.symm hji) hi hoj with h|h|h
    ·rw[noedge i oi hi hiun]at h;cases h
    ·rw[noedge' j oj hoj hjun]at h;cases h
    ·exact h
   obtain⟨ap1,ap2,ap3⟩:=Oper.apart_spec hap
   unfold wD at h1 ⊢
   rw[hoj]at h1 ⊢
   simp only[if_pos hjm]at h1 ⊢
   have hdl:d∉oj.looksAt ops:=ap1 d hy.dst
   have cd:∀ t,(F t).uses d=false:=hcl.dst i oi d him hi hiun hy.dst
   have cdj':∀ dj,oj.dst=some dj→∀ t,(F t).uses dj=false:=fun dj hdj=>hcl.dst j oj dj hjm hoj hjun hdj
   have cmv:∀ s,mv=some s→(∀ t,(F t).uses s=false)∧s∉oj.looksAt ops∧s∈oi.looksAt ops:=fun s hs=>by
    obtain⟨g1,⟨T,g2⟩,g3⟩:=hy.mvl s hs
    exact⟨hcl.mv i oi T s him hi hiun g1 g2 g3,fun hl=>hji ((fK g3).2 i j oi oj hi hoj (cK g2) hl).symm,cK g2⟩
   have cmvj:∀ T s,oj.guard=none→nz oj.op=some (T,s)→iT ops oj s=true→(∀ t,(F t).uses s=false)∧s∉oi.looksAt ops∧s∈oj.looksAt ops:=fun T s g1 g2 g3=>
    ⟨hcl.mv j oj T s hjm hoj hjun g1 g2 g3,fun hl=>hji ((fK g3).2 i j oi oj hi hoj hl (cK g2)).symm,cK g2⟩
   have avno:∀ e,e∉oi.looksAt ops→(∀ t,(F t).uses e=false)→av.uses e=false:=fun e h1 h2=>by
    cases hu:av.uses e with
    | false=>rfl
    | true=>
     rcases hy.from_ e hu with h|⟨t,_,h⟩
     ·exact absurd h h1
     ·rw[h2 t]at h;cases h
   obtain⟨mvj,dj,avj,hyj,hKj⟩:=oR h1 (fun dj hdj t=>je (avno dj (ap3 dj hdj) (cdj' dj hdj)) (cdj' dj hdj t)) (fun T s g1 g2 g3 t=>by
     obtain⟨c1,c2,-⟩:=cmvj T s g1 g2 g3
     exact je (avno s c2 c1) (c1 t))
   have hdne:d≠dj:=fun e=>ap2 d hy.dst (by rw[hyj.dst,e])
   have hdjl:dj∉oi.looksAt ops:=ap3 dj hyj.dst
   have cdj:∀ t,(F t).uses dj=false:=cdj' dj hyj.dst
   have cmj:∀ s,mvj=some s→(∀ t,(F t).uses s=false)∧s∉oi.looksAt ops∧s∈oj.looksAt ops:=fun s hs=>by
    obtain⟨g1,⟨T,g2⟩,g3⟩:=hyj.mvl s hs
    exact cmvj T s g1 g2 g3
   have lookj:∀ t,t∈oj.looksAt ops→eff mv d av F t=F t:=fun t ht=>by
    unfold eff
    have e1:t≠d:=fun e=>hdl (e ▸ ht)
    have e2:mv≠some t:=fun e=>(cmv t e).2.1 ht
    rw[if_neg e1,if_neg e2]
   have looki:∀ t,t∈oi.looksAt ops→eff mvj dj avj F t=F t:=fun t ht=>by
    unfold eff
    have e1:t≠dj:=fun e=>hdjl (e ▸ ht)
    have e2:mvj≠some t:=fun e=>(cmj t e).2.1 ht
    rw[if_neg e1,if_neg e2]
   have avjno:∀ e,e∉oj.looksAt ops→(∀ t,(F t).uses e=false)→avj.uses e=false:=fun e h1 h2=>by
    cases hu:avj.uses e with
    | false=>rfl
    | true=>
     rcases hyj.from_ e hu with h|⟨t,ht,h⟩
     ·exact absurd h h1
     ·rw[lookj t ht,h2 t]at h;cases h
   have agrj:iJ (eff mv d av F) F (oj.looksAt ops):=fun t ht=>by
    rw[lookj t ht]
    refine⟨rfl,fun t' hu k cs hh=>?_⟩
    have hne':t'≠d:=fun e=>by rw[e,cd t]at hu;cases hu
    have hnm:mv≠some t':=fun e=>by rw[(cmv t' e).1 t]at hu;cases hu
    unfold eff at hh
    rw[if_neg hne',if_neg hnm]at hh
    exact hh
   refine hyj.at_ F agrj cdj (fun s hs=>(cmj s hs).1) _ (ih (listed.setIfInBounds j true) (eff mvj dj avj F) (ready_mono hr (Ne.symm hji)) (hcl.put (fun j' o' d' hm' hne' hj' hl' hd'=>?_) (fun j' o' T s hm' hne' hj' hl' g1 g2 g3=>?_)) (hdc.put hj) ?_ ?_)
   ·refine avjno d' (fun h=>?_) (hcl.dst j' o' d' hm' hj' hl' hd')
    have:=hok.look j' j o' oj d' hm' hjm hne' hj' hoj hd' h
    rw[noedge j' o' hj' hl']at this;cases this
   ·exact avjno s (fun h=>hne' ((fK g3).2 j' j o' oj hj' hoj (cK g2) h)) (hcl.mv j' o' T s hm' hj' hl' g1 g2 g3)
   ·refine⟨hy.dst,hy.lt,hy.self,fun e he=>?_,hy.mvl,fun F' hA hd' hs' K' hK=>hy.at_ F' (fun t ht=>?_) hd' hs' K' hK⟩
    ·rcases hy.from_ e he with h|⟨t,ht,h⟩
     ·exact .inl h
     ·exact .inr ⟨t,ht,by rw[looki t ht];exact h⟩
    ·obtain⟨a1,a2⟩:=hA t ht
     rw[looki t ht]at a1 a2
     refine⟨a1,fun t' hu k cs hh=>a2 t' hu k cs ?_⟩
     have hne':t'≠dj:=fun e=>by rw[e,cdj t]at hu;cases hu
     have hnm:mvj≠some t':=fun e=>by rw[(cmj t' e).1 t]at hu;cases hu
     unfold eff
     rw[if_neg hne',if_neg hnm]
     exact hh
   ·rw[Array.setIfInBounds_comm _ _ hji]
    have:eff mv d av (eff mvj dj avj F)=eff mvj dj avj (eff mv d av F):=by
     funext t
     unfold eff
     by_cases e1:t=d
     ·have g1:t≠dj:=fun e=>hdne (e1.symm.trans e)
      have g2:mvj≠some t:=fun e=>hdl (e1 ▸ (cmj t e).2.2)
      simp only[if_pos e1,if_neg g1,if_neg g2]
     ·rw[if_neg e1]
      by_cases e2:t=dj
      ·have g2:mv≠some t:=fun e=>hdjl (e2 ▸ (cmv t e).2.2)
       simp only[if_pos e2,if_neg g2]
      ·simp only[if_neg e2,if_neg e1]
       by_cases e3:mv=some t
       ·by_cases e4:mvj=some t
        ·simp only[if_pos e3,if_pos e4]
        ·simp only[if_pos e3,if_neg e4]
       ·by_cases e4:mvj=some t
        ·simp only[if_neg e3,if_pos e4]
        ·simp only[if_neg e3,if_neg e4]
    rw[this]
    exact hKj
theorem sF {o:Op} {K K':AV→Prop} (h:dL P TE F o K) (hk:∀ av,K av→K' av):dL P TE F o K':=by
 obtain⟨av,h1,-,h3⟩:=mr h
 exact h3 F (iJ.refl _ _) K' (hk av h1)
theorem bT {d:Nat} {av:AV} {K K':(Nat→AV)→Prop} (h:bO N F d av K) (hk:∀ F',K F'→K' F'):bO N F d av K':=by
 unfold bO at h ⊢
 cases hc:(N.free d&&!av.uses d) with
 | false=>rw[hc]at h;exact h.elim
 | true=>rw[hc]at h;exact hk _ h
theorem fR {y:Operand} {K K':(Nat→AV)→Option Nat→List C→Prop} (h:gx F y K) (hk:∀ F' ag cs,K F' ag cs→K' F' ag cs):gx F y K':=by
 cases y with
 | tmp t=>
  simp only[gx]at h ⊢
  cases hF:F t with
  | hold k cs=>
   rw[hF]at h
   cases k with
   | one=>exact hk _ _ _ h
   | agg=>exact hk _ _ _ h
   | _=>exact h.elim
  | bor t2 off st ag=>
   rw[hF]at h
   cases st with
   | cons s st=>
    simp only at h ⊢
    cases hF2:F t2 with
    | hold k cs=>
     rw[hF2]at h
     obtain⟨r,j,e1,e2,e3,hK⟩:=Lq.out h
     exact .mk_ ⟨r,j,_,_,e1,e2,e3,rfl,rfl,hk _ _ _ hK⟩
    | _=>rw[hF2]at h;exact h.elim
   | nil=>
    simp only at h ⊢
    cases hF2:F t2 with
    | hold k cs=>
     rw[hF2]at h
     simp only at h ⊢
     cases hb:Nat.ble (off+ag.getD 1) cs.length with
     | false=>rw[hb]at h;exact h.elim
     | true=>rw[hb]at h;exact hk _ _ _ h
    | _=>rw[hF2]at h;exact h.elim
  | _=>rw[hF]at h;exact h.elim
 | _=>exact h.elim
theorem zm {x:Operand} {K K':AV→Prop} (h:bo F x K) (hk:∀ av,K av→K' av):bo F x K':=by
 obtain⟨av,h1,-,h3⟩:=iY h
 exact h3 F (iJ.refl _ _) K' (hk av h1)
theorem B0 {d:Nat} {x:Operand} {K K':(Nat→AV)→Prop} (h:jX N F d x K) (hk:∀ F',K F'→K' F'):jX N F d x K':=by
 have m1:∀ y,bo F y (fun av=>bO N F d av K)→bo F y (fun av=>bO N F d av K'):=fun y h=>zm h fun av h=>bT h hk
 have m2:∀ y,gx F y (fun F' ag cs=>bO N F' d (.hold (jc ag) cs) K)→gx F y (fun F' ag cs=>bO N F' d (.hold (jc ag) cs) K'):=fun y h=>fR h fun F' ag cs h=>bT h hk
 cases x with
 | tmp t=>
  unfold jX at h ⊢
  simp only at h ⊢
  cases hF:F t with
  | hold k cs=>
   rw[hF]at h
   cases k with
   | one=>
    simp only at h ⊢
    cases hn:aW cs with
    | true=>rw[hn]at h;exact m1 (.tmp t) h
    | false=>rw[hn]at h;exact m2 (.tmp t) h
   | agg=>
    simp only at h ⊢
    cases hn:aW cs with
    | true=>rw[hn]at h;exact m1 (.tmp t) h
    | false=>rw[hn]at h;exact m2 (.tmp t) h
   | tup sh=>exact m1 _ h
   | box=>exact m1 _ h
  | bor t2 off st ag=>
   rw[hF]at h
   simp only at h ⊢
   cases hn:N.al d with
   | true=>rw[hn]at h;exact m1 (.tmp t) h
   | false=>rw[hn]at h;exact m2 (.tmp t) h
  | dead=>rw[hF]at h;exact m1 _ h
  | ref=>rw[hF]at h;exact m1 _ h
  | iref=>rw[hF]at h;exact m1 _ h
  | fn=>rw[hF]at h;exact m1 _ h
  | fv=>rw[hF]at h;exact m1 _ h
 | const v=>exact m1 (.const v) h
 | global g=>exact m1 (.global g) h
 | func f=>exact m1 (.func f) h
theorem sT {x:Operand} {cs:List C} {K K':(Nat→AV)→Prop} (h:pD F x cs K) (hk:∀ F',K F'→K' F'):pD F x cs K':=by
 cases x with
 | tmp t=>
  simp only[pD]at h ⊢
  cases hF:F t with
  | hold k bs=>
   rw[hF]at h
   cases k with
   | box=>
    simp only at h ⊢
    cases hb:Nat.ble cs.length bs.length with
    | false=>rw[hb]at h;exact h.elim
    | true=>rw[hb]at h;simp only[cond_true,ek]at h ⊢;exact hk _ h
   | _=>exact h.elim
  | ref t2 off st=>
   rw[hF]at h
   cases st with
   | cons s st=>
    simp only at h ⊢
    cases hF2:F t2 with
    | hold k bs=>
     rw[hF2]at h
     obtain⟨r,j,e1,e2,e3,hK⟩:=Pu.out h
     exact Pu.mk e1 e2 e3 rfl (hk _ hK)
    | _=>rw[hF2]at h;exact h.elim
   | nil=>
    simp only at h ⊢
    cases hF2:F t2 with
    | hold k bs=>
     rw[hF2]at h
     cases k with
     | box=>
      simp only at h ⊢
      cases hb:Nat.ble (off+cs.length) bs.length with
      | false=>rw[hb]at h;exact h.elim
      | true=>rw[hb]at h;simp only[cond_true,ek]at h ⊢;exact hk _ h
     | _=>exact h.elim
    | _=>rw[hF2]at h;exact h.elim
  | _=>rw[hF]at h;exact h.elim
 | _=>exact h.elim
theorem F8 {T:Nat} {x y:Operand} {K K':(Nat→AV)→Prop} (h:mR TE F T x y K) (hk:∀ F',K F'→K' F'):mR TE F T x y K':=by
 unfold mR at h ⊢
 split at h
 ·rename_i i hT
  obtain⟨ag,cs,h1,h2⟩:=cH h
  refine h2 F (iJ.refl _ _) _ ?_
  cases hl:Nat.beq cs.length i.size with
  | false=>rw[hl]at h1;exact h1.elim
  | true=>
   rw[hl]at h1
   simp only[cond_true]at h1 ⊢
   cases hn:aW cs with
   | true=>rw[hn]at h1;exact sT h1 hk
   | false=>
    rw[hn]at h1
    simp only[cond_false]at h1 ⊢
    refine fR h1 fun F' ag' cs' h=>?_
    cases hl':Nat.beq cs'.length i.size with
    | false=>rw[hl']at h;exact h.elim
    | true=>rw[hl']at h;exact sT h hk
 ·exact h.elim
theorem Fy {g:Option (Nat × Bool)} {K1 K0 K1' K0':(Nat→AV)→Prop} (h:gz F ops g K1 K0) (h1:∀ F,K1 F→K1' F) (h0:∀ F,K0 F→K0' F):gz F ops g K1' K0':=by
 unfold gz at h ⊢
 split at h
 ·exact h1 _ h
 ·rename_i j want
  split at h
  ·rename_i d hd
   split at h
   ·rename_i b hF
    replace h:=Bf.out h
    cases b<;>cases want<;>first|exact .in_ (h1 _ h)|exact .in_ (h0 _ h)
   ·exact h0 _ h
   ·exact h.elim
  ·exact h.elim
theorem sE {x:Operand} {K K':(Nat→AV)→Option Nat→List C→Prop} (h:tG F x K) (hk:∀ F' ag cs,K F' ag cs→K' F' ag cs):tG F x K':=by
 obtain⟨ag,cs,h1,h2⟩:=cH h
 refine h2 F (iJ.refl _ _) _ ?_
 cases hn:aW cs with
 | true=>rw[hn]at h1;exact hk _ _ _ h1
 | false=>rw[hn]at h1;exact fR h1 hk
theorem kq {pl:Nat→Option (Nat × Nat)} : ∀ {parts:List (Nat × Operand)} {cs:List C} {K K':(Nat→AV)→List C→Prop} {F:Nat→AV},fillW pl parts cs K F→(∀ F' cs,K F' cs→K' F' cs)→fillW pl parts cs K' F
 | [],cs,K,K',F,h,hk=>hk _ _ h
 | p::rest,cs,K,K',F,h,hk=>by
  simp only[fillW]at h ⊢
  split at h
  case h_2=>exact h.elim
  rename_i q hq
  refine sE h fun F' ag xs h=>?_
  cases hb:(Nat.beq xs.length q.2&&Nat.ble (q.1+q.2) cs.length) with
  | false=>rw[hb]at h;exact h.elim
  | true=>
   rw[hb]at h
   simp only[cond_true,ek]at h ⊢
   exact kq h hk
theorem Er {d T:Nat} {parts:List (Nat × Operand)} {K K':(Nat→AV)→Prop} (h:jP TE N F d T parts K) (hk:∀ F',K F'→K' F'):jP TE N F d T parts K':=by
 unfold jP at h ⊢
 split at h
 case h_2=>exact h.elim
 rename_i size bytes zero flds hT
 cases ha:vm TE flds with
 | false=>rw[ha]at h;exact h.elim
 | true=>rw[ha]at h;exact kq h fun F' cs h=>bT h hk
theorem AS {d T n:Nat} {parts:List (Nat × Operand)} {K K':(Nat→AV)→Prop} (h:ir TE N F d T n parts K) (hk:∀ F',K F'→K' F'):ir TE N F d T n parts K':=by
 obtain⟨e,ie,h,hs⟩:=jO h
 refine hs _ ?_
 cases hb:Nat.ble (n*ie.size) 16777216 with
 | false=>rw[hb]at h;exact h.elim
 | true=>
  rw[hb]at h
  simp only[cond_true]at h ⊢
  split at h
  ·exact bT h hk
  ·rw[ek]at h ⊢
   refine kq h fun F' cs h=>?_
   rw[qo]at h ⊢
   exact bT h hk
  ·exact h.elim
theorem Dn {y:Operand} {K K':Bool→(Nat→AV)→List (List C)→Prop} (h:AQ F y K) (hk:∀ b F' xr,K b F' xr→K' b F' xr):AQ F y K':=by
 unfold AQ at h ⊢
 split at h
 ·refine fR h fun F' ag cs h=>?_
  match ag,cs,h with
  | none,[.s .own rows],h=>exact hk _ _ _ h
 ·obtain⟨ag,cs,h1,h2⟩:=cH h
  refine h2 F (iJ.refl _ _) _ ?_
  match ag,cs,h1 with
  | none,[.s o rows],h=>exact hk _ _ _ h
  | none,[.z],h=>exact hk _ _ _ h
theorem zf {x:Operand} {K K':(Nat→AV)→List (List C)→Prop} (h:yA F x K) (hk:∀ F' xr,K F' xr→K' F' xr):yA F x K':=by
 obtain⟨ag,cs,h1,h2⟩:=cH h
 refine h2 F (iJ.refl _ _) _ ?_
 match ag,cs,h1 with
 | none,[.z],h=>exact hk _ _ h
 | none,[.s .own _],h=>
  refine fR h fun F' ag cs h=>?_
  match ag,cs,h with
  | none,[.s .own rows],h=>exact hk _ _ h
theorem H4 {d T:Nat} {x y:Operand} {K K':(Nat→AV)→Prop} (h:yH TE N F d T x y K) (hk:∀ F',K F'→K' F'):yH TE N F d T x y K':=by
 obtain⟨e,ie,h,hs⟩:=jO h
 refine hs _ (Dn h fun b F' xr h=>zf h fun F'' rows h=>?_)
 obtain⟨h1,h2,h3,h4,h5,h6⟩:=h.out
 exact Ap.mk h1 h2 h3 h4 h5 rfl (bT h6 hk)
theorem Dw {d T:Nat} {x:Operand} {K K':(Nat→AV)→Prop} (h:pb TE N F d T x K) (hk:∀ F',K F'→K' F'):pb TE N F d T x K':=by
 unfold pb at h ⊢
 split at h
 case h_2=>exact h.elim
 refine fR h fun F' ag cs h=>?_
 split at h
 ·exact bT h hk
 ·exact h.elim
theorem Gf {d:Nat} {x:Operand} {K K':(Nat→AV)→Prop} (h:iq N F d x K) (hk:∀ F',K F'→K' F'):iq N F d x K':=by
 have std:∀ {y:Operand},bo F y (fun av=>bO N F d av K)→bo F y (fun av=>bO N F d av K'):=fun h=>zm h fun av h=>bT h hk
 cases x with
 | tmp t=>
  simp only[iq]at h ⊢
  split at h
  ·rename_i sh cs hF
   cases hn:aW cs with
   | true=>rw[hn]at h;exact bT h hk
   | false=>rw[hn]at h;exact bT h hk
  all_goals exact std h
 | const v=>simp only[iq]at h ⊢;exact std h
 | global g=>simp only[iq]at h ⊢;exact std h
 | func f=>simp only[iq]at h ⊢;exact std h
theorem Ge {d:Nat} {x:Operand} {K K':(Nat→AV)→Prop} (h:sA N F d x K) (hk:∀ F',K F'→K' F'):sA N F d x K':=by
 unfold sA at h ⊢
 split at h
 case h_2=>exact h.elim
 split at h
 case h_2=>exact h.elim
 obtain⟨h0,h1⟩:=h.out
 exact Nt.mk (fun e=>bT (h0 e) hk) fun l1 k l2 e=>bT (h1 l1 k l2 e) hk
theorem Dp {d:Nat} {x:Operand} {K K':(Nat→AV)→Prop} (h:oN N F d x K) (hk:∀ F',K F'→K' F'):oN N F d x K':=by
 unfold oN at h ⊢
 split at h
 case h_2=>exact h.elim
 split at h
 case h_2=>exact h.elim
 exact bT h hk
theorem Lf {d:Nat} {op:Op} {K K':(Nat→AV)→Prop} (h:qm P TE N d op K F) (hk:∀ F',K F'→K' F'):qm P TE N d op K' F:=by
 cases op with
 | assign x=>exact B0 h hk
 | box T x=>simp only[qm,K2]at h ⊢;exact sE h fun F' ag cs h=>bT h hk
 | build T ps=>exact Er h hk
 | buildSlice T n ps=>exact AS h hk
 | range T x=>exact Dw h hk
 | move x=>exact Gf h hk
 | next x str=>
  cases str with
  | true=>exact h.elim
  | false=>exact Ge h hk
 | entry x=>exact Dp h hk
 | call c=>
  simp only[qm]at h ⊢
  cases ha:wa c with
  | none=>rw[ha]at h;exact sF h fun av h=>bT h hk
  | some p=>rw[ha]at h;exact H4 h hk
 | _=>simp only[qm]at h ⊢;exact sF h fun av h=>bT h hk
theorem o9 {t off n:Nat} {st:cm} {K K':(Nat→AV)→List C→Prop} (h:lendAt F t off st n K) (hk:∀ F' cs,K F' cs→K' F' cs):lendAt F t off st n K':=by
 unfold lendAt at h ⊢
 split at h
 case h_2=>exact h.elim
 split at h
 ·rename_i k bs _ _
  cases hb:Nat.ble (off+n) bs.length with
  | false=>rw[hb]at h;exact h.elim
  | true=>
   rw[hb]at h
   simp only[cond_true,ek]at h ⊢
   exact hk _ _ h
 ·obtain⟨r,j,h1,h2,h3,hK⟩:=Lq.out h
  refine .mk_ ?_
  exact⟨r,j,_,_,h1,h2,h3,rfl,rfl,hk _ _ hK⟩
theorem gU:∀ {xs:List (Operand × Nat)} {K K':(Nat→AV)→List (MA × yY)→Prop} {F:Nat→AV},lendP xs K F→(∀ F' l,K F' l→K' F' l)→lendP xs K' F
 | [],K,K',F,h,hk=>hk _ _ h
 | (x,0)::xs,K,K',F,h,hk=>gU (xs:=xs) h fun F' l h=>hk _ _ h
 | (x,1)::xs,K,K',F,h,hk=>by
  simp only[lendP]at h ⊢
  split at h
  case h_2=>exact h.elim
  split at h
  ·exact o9 h fun F' cs h=>gU h fun F'' l h=>hk _ _ h
  ·exact o9 h fun F' cs h=>gU h fun F'' l h=>hk _ _ h
  ·exact o9 h fun F' cs h=>gU h fun F'' l h=>hk _ _ h
  ·exact h.elim
 | (x,n+2)::xs,K,K',F,h,hk=>by
  simp only[lendP]at h ⊢
  split at h
  case h_2=>exact h.elim
  split at h
  ·split at h
   ·exact gU h fun F'' l h=>hk _ _ h
   ·exact h.elim
  ·exact gU h fun F'' l h=>hk _ _ h
  ·exact h.elim
theorem mA:∀ {l:List (MA × yY)} {xs:List Operand} {K K':Bool→List MA→Prop},valsP F l xs K→(∀ b A,K b A→K' b A)→valsP F l xs K'
 | [],[],K,K',h,hk=>hk _ _ h
 | (m,.no)::l,x::xs,K,K',h,hk=>by
  obtain⟨ag,cs,h1,h2⟩:=cH h
  refine h2 F (iJ.refl _ _) _ (mA h1 fun b A h=>?_)
  cases hn:aW cs with
  | true=>rw[hn]at h;exact hk _ _ h
  | false=>rw[hn]at h;exact hk _ _ h
 | (m,.at_ t off st)::l,x::xs,K,K',h,hk=>mA (l:=l) (xs:=xs) h fun b A h=>hk _ _ h
 | (m,.box t)::l,x::xs,K,K',h,hk=>mA (l:=l) (xs:=xs) h fun b A h=>hk _ _ h
 | [],_::_,K,K',h,hk=>h.elim
 | (m,.no)::l,[],K,K',h,hk=>h.elim
 | (m,.at_ t off st)::l,[],K,K',h,hk=>h.elim
 | (m,.box t)::l,[],K,K',h,hk=>h.elim
theorem gX {K K':(Nat→AV)→Prop} (hk:∀ F',K F'→K' F'):∀ {l:List (MA × yY)} {B:List MA} {F:Nat→AV},lu l B K F→lu l B K' F
 | [],[],F,h=>hk _ h
 | [],_::_,F,h=>h.elim
 | (m,.no)::l,[],F,h=>h.elim
 | (m,.at_ t off st)::l,[],F,h=>h.elim
 | (m,.box t)::l,[],F,h=>h.elim
 | (m,.no)::l,.val _ _::B,F,h=>gX hk (l:=l) (B:=B) h
 | (m,.no)::l,.mut _ _::B,F,h=>gX hk (l:=l) (B:=B) h
 | (m,.no)::l,.ptr _::B,F,h=>gX hk (l:=l) (B:=B) h
 | (m,.at_ t off st)::l,.val _ _::B,F,h=>h.elim
 | (m,.at_ t off st)::l,.ptr _::B,F,h=>h.elim
 | (m,.box t)::l,.val _ _::B,F,h=>h.elim
 | (m,.box t)::l,.mut _ _::B,F,h=>h.elim
 | (m,.at_ t off st)::l,.mut ag out::B,F,h=>by
  simp only[lu]at h ⊢
  split at h
  case h_2=>exact h.elim
  split at h
  ·rename_i k bs _ _
   cases hb:Nat.ble (off+out.length) bs.length with
   | false=>rw[hb]at h;exact h.elim
   | true=>
    rw[hb]at h
    simp only[cond_true,ek]at h ⊢
    exact gX hk h
  ·obtain⟨r,j,e1,e2,e3,hK⟩:=Pu.out h
   exact Pu.mk e1 e2 e3 rfl (gX hk hK)
 | (m,.box t)::l,.ptr out::B,F,h=>by
  simp only[lu]at h ⊢
  split at h
  ·exact gX hk h
  ·exact h.elim
theorem F9 {d:Option Nat} {f:Nat} {args:List Operand} {modes:List Nat} {K K':(Nat→AV)→Prop} (h:uK P N F d f args modes K) (hk:∀ F',K F'→K' F'):uK P N F d f args modes K':=by
 unfold uK at h ⊢
 refine gU h fun F' l h=>?_
 cases hb:(zo l&&Nat.beq args.length modes.length) with
 | false=>rw[hb]at h;exact h.elim
 | true=>
  rw[hb]at h
  refine mA h fun b A h=>?_
  obtain⟨sh,B,k,rcs,h1,h2,h3⟩:=er.out h
  refine er.mk h1 h2 (gX (fun F'' h=>?_) h3)
  cases d with
  | none=>exact hk _ h
  | some d=>exact bT h hk
theorem zh {F:Nat→AV} {x:Operand} {K K':Nat→Nat→Prop} (h:Fb F x K) (hk:∀ t o,K t o→K' t o):Fb F x K':=by
 obtain⟨s,t,off,rfl,hF,hK⟩:=vk h
 simp only[Fb,hF]
 exact hk _ _ hK
theorem HE {d:Option Nat} {t:Nat} {cs:List C} {o0 n0 o1 n1:Nat} {K K':(Nat→AV)→Prop} {k:Kd} {rcs:List C} {B:List MA} (h:Kt N F d t cs o0 n0 o1 n1 K k rcs B) (hk:∀ F',K F'→K' F'):Kt N F d t cs o0 n0 o1 n1 K' k rcs B:=by
 unfold Kt at h ⊢
 split at h
 case h_2=>exact h.elim
 rename_i c0 c1
 cases hl:(Nat.beq c0.length n0&&Nat.beq c1.length n1) with
 | false=>rw[hl]at h;exact h.elim
 | true=>
  rw[hl]at h
  simp only[cond_true,ek]at h ⊢
  cases d with
  | none=>exact hk _ h
  | some d=>exact bT h hk
theorem EQ {d:Option Nat} {f:Nat} {args:List Operand} {n0 n1:Nat} {K K':(Nat→AV)→Prop} (h:sy P N F d f args n0 n1 K) (hk:∀ F',K F'→K' F'):sy P N F d f args n0 n1 K':=by
 unfold sy at h ⊢
 split at h
 case h_2=>exact h.elim
 refine zh h fun t o0 h=>zh h fun t' o1 h=>?_
 split at h
 case h_2=>exact h.elim
 rename_i cs hF
 cases hb:(Nat.beq t' t&&Nat.ble (o0+n0) o1&&Nat.ble (o1+n1) cs.length) with
 | false=>rw[hb]at h;exact h.elim
 | true=>
  rw[hb]at h
  simp only[cond_true,ek]at h ⊢
  obtain⟨sh,B,k,rcs,h1,h2,h3⟩:=er.out h
  exact er.mk h1 h2 (HE h3 hk)
theorem Fc {d:Option Nat} {f:Nat} {args:List Operand} {modes:List Nat} {K K':(Nat→AV)→Prop} (h:rO P N F d f args modes K) (hk:∀ F',K F'→K' F'):rO P N F d f args modes K':=by
 unfold rO at h ⊢
 split
 ·rename_i p hp;rw[hp]at h;exact EQ h hk
 ·rename_i hp;rw[hp]at h;exact F9 h hk
theorem t8 {t off:Nat} {z:Int} {v:Value} {K K':(Nat→AV)→Prop} (h:putMap F t off z v K) (hk:∀ F',K F'→K' F'):putMap F t off z v K':=by
 unfold putMap at h ⊢
 cases hF:F t with
 | hold k bs=>
  rw[hF]at h
  simp only at h ⊢
  cases hc:bs[off]? with
  | none=>rw[hc]at h;exact h.elim
  | some c=>
   rw[hc]at h
   cases c with
   | m es=>
    simp only at h ⊢
    have:=h.out
    refine Mu.mk rfl ?_
    simp only[ek]at this ⊢
    exact hk _ this
   | _=>exact h.elim
 | _=>rw[hF]at h;exact h.elim
theorem Ed {T:Nat} {x y v:Operand} {K K':(Nat→AV)→Prop} (h:pa TE F T x y v K) (hk:∀ F',K F'→K' F'):pa TE F T x y v K':=by
 unfold pa at h ⊢
 split at h
 case h_2=>exact h.elim
 obtain⟨z,h1,l1⟩:=ik h
 refine l1 F (iJ.refl F _) _ ?_
 obtain⟨z2,h2,l2⟩:=ik h1
 refine l2 F (iJ.refl F _) _ ?_
 split at h2
 case h_2=>exact h2.elim
 split at h2
 case h_2=>exact h2.elim
 split at h2
 ·exact t8 h2 hk
 ·exact t8 h2 hk
 ·exact h2.elim
theorem ma {o:Oper} {K K':(Nat→AV)→Prop} (h:n6 P TE N ops o K F) (hk:∀ F',K F'→K' F'):n6 P TE N ops o K' F:=by
 unfold n6 at h ⊢
 refine Fy h (fun F h=>?_) (fun F h=>?_)
 ·split at h
  ·exact Fc h hk
  ·split at h
   ·split at h
    ·exact F8 h hk
    ·exact Ed h hk
    ·exact h.elim
   ·exact Lf h hk
 ·split at h
  ·exact hk _ h
  ·exact bT h hk
theorem Ba {m:Nat} (hok:Pn ops m) {K:(Nat→AV)→Prop} (hm:m≤ops.size):∀ (l:List Oper) (k:Nat) (listed:Array Bool) (F:Nat→AV),(∀ j,l[j]? = ops[k+j]?)→listed.size=ops.size→(∀ j,j<ops.size→listed.getD j true=decide (j<k))→yP ops m F listed→DC ops listed→
  Lw P TE N ops (m - k) l K F→F7 P TE N ops m K l.length listed F
 | [],k,listed,F,hl,hs,hli,_,_,hp=>by
  have hk:ops.size≤k:=by
   rcases Nat.lt_or_ge k ops.size with h|h
   ·have:=hl 0;simp[h]at this
   ·exact h
  refine⟨?_,?_⟩
  ·apply List.eq_nil_iff_forall_not_mem.2
   intro j hj
   obtain⟨h1,o,ho,-⟩:=mem_ready.1 hj
   have hlt:=(Array.getElem?_eq_some_iff.1 ho).1
   rw[hli j hlt]at h1
   simp at h1;omega
  ·cases hmk:m - k with
   | zero=>rw[hmk]at hp;exact hp
   | succ x=>rw[hmk]at hp;exact hp
 | o::l,k,listed,F,hl,hs,hli,hcl,hdc,hp=>by
  have h0:ops[k]? = some o:=by simpa using (hl 0).symm
  have hk:=(Array.getElem?_eq_some_iff.1 h0).1
  have hready:k∈Region.ready .any ops listed:=mem_ready.2 ⟨by rw[hli k hk];simp,o,h0,fun e he hb=>by
    have:=hok.back k o h0 e he hb
    have h1:=hli e.on (by omega)
    rw[show decide (e.on<k)=true by simpa using this]at h1
    have h2:e.on<listed.size:=by omega
    simp[h2]at h1 ⊢;exact h1⟩
  have hl':∀ j,l[j]? = ops[k+1+j]?:=fun j=>by have:=hl (j+1);simpa[Nat.add_assoc,Nat.add_comm 1 j] using this
  have hli':∀ j,j<ops.size→(listed.setIfInBounds k true).getD j true=decide (j<k+1):=fun j hj=>by
   by_cases hjk:j=k
   ·subst hjk;simp[hs,hj]
   ·rw[getD_set_ne true (Ne.symm hjk),hli j hj]
    simp only[decide_eq_decide];omega
  show F7 P TE N ops m K (l.length+1) listed F
  by_cases hkm:k<m
  ·have e1:m - k=(m - (k+1))+1:=by omega
   rw[e1]at hp
   obtain⟨mv,d,av,hy,hp⟩:=oR (show kN P TE N ops o (Lw P TE N ops (m - (k+1)) l K) F from hp) (fun d hd=>hcl.dst k o d hkm h0 (by rw[hli k hk];simp) hd) (fun T s g1 g2 g3=>hcl.mv k o T s hkm h0 (by rw[hli k hk];simp) g1 g2 g3)
   refine HH hok h0 hkm l.length listed F hready hcl hdc hy (Ba hok hm l (k+1) _ _ hl' (by simpa using hs) hli' (hcl.put (fun j' o' d' hm' hne' hj' hl'' hd'=>?_) (fun j' o' T s hm' hne' hj' hl'' g1 g2 g3=>?_)) (hdc.put hready) hp)
   ·cases hu:av.uses d' with
    | false=>rfl
    | true=>
     rcases hy.from_ d' hu with h|⟨t,_,h⟩
     ·have:=hok.look j' k o' o d' hm' hkm hne' hj' h0 hd' h
      obtain⟨e,he1,he2,he3⟩:=bX.1 this
      have hlt:=hok.back k o h0 e he1 he2
      have hj'lt:=(Array.getElem?_eq_some_iff.1 hj').1
      rw[hli j' hj'lt]at hl''
      simp at hl'';omega
     ·rw[hcl.dst j' o' d' hm' hj' hl'' hd' t]at h;cases h
   ·cases hu:av.uses s with
    | false=>rfl
    | true=>
     rcases hy.from_ s hu with h|⟨t,_,h⟩
     ·exact absurd ((fK g3).2 j' k o' o hj' h0 (cK g2) h) hne'
     ·rw[hcl.mv j' o' T s hm' hj' hl'' g1 g2 g3 t]at h;cases h
  ·refine⟨fun h=>(by rw[h]at hready;cases hready),fun j hj=>?_⟩
   have hjk:j=k:=by
    obtain⟨h1,oj,hoj,hall⟩:=mem_ready.1 hj
    have hjlt:=(Array.getElem?_eq_some_iff.1 hoj).1
    rw[hli j hjlt]at h1
    simp at h1
    rcases Nat.lt_or_ge k j with hlt|hge
    ·exfalso
     have h2:=mP hdc hok.back (hok.tail j (by omega) hjlt k hlt) hjlt fun k' hk'=>by
      rw[bc hoj]at hk'
      obtain⟨e,he1,he2,rfl⟩:=bX.1 hk'
      exact hall e he1 he2
     have h3:=hli k hk
     have h4:k<listed.size:=by omega
     simp[h4]at h2 h3
     rw[h2]at h3;cases h3
    ·omega
   subst hjk
   unfold wD
   rw[h0]
   simp only[if_neg hkm]
   have e0:m - j=0:=by omega
   rw[e0]at hp
   have hp':n6 P TE N ops o (Jy P TE N ops l K) F:=hp
   have hmono:∀ F',Jy P TE N ops l K F'→F7 P TE N ops m K l.length (listed.setIfInBounds j true) F':=fun F' hF'=>
    Ba hok hm l (j+1) _ F' hl' (by simpa using hs) hli' ⟨fun j' o' d' hm' hj' hl'' hd'=>by
      have hj'lt:=(Array.getElem?_eq_some_iff.1 hj').1
      rw[hli' j' hj'lt]at hl''
      simp at hl'';omega,fun j' o' T s hm' hj' hl''=>by
      have hj'lt:=(Array.getElem?_eq_some_iff.1 hj').1
      rw[hli' j' hj'lt]at hl''
      simp at hl'';omega⟩ (hdc.put hready) (by rw[show m - (j+1)=0 by omega];cases l<;>exact hF')
   exact ma hp' hmono
theorem St.clr (h:St w0 M S0 N F a w) (ds:List Nat):St w0 M S0 N (Ab.clr ds F) a w:=by
 obtain⟨S,φ,h⟩:=h
 refine⟨S,φ,fun t=>?_,h.dis,h.disS,h.ex,h.sub,h.sup,h.old,h.size,h.defers,h.par⟩
 rw[AD]
 cases hb:ds.any (fun d=>(F t).uses d) with
 | true=>trivial
 | false=>
  simp only[cond_false]
  refine(h.slot t).keep (φ:=φ) (fun t _ _ _=>h.slot t) (fun t' _=>⟨fun k cs he=>?_,rfl,fun _ _ _=>⟨rfl,rfl⟩⟩) (fun _ _ _=>⟨rfl,rfl⟩) (fun _ _ _=>⟨rfl,rfl⟩) (fun _ _ h=>h) (fun _ _ h=>h)
  rw[AD]
  have:ds.any (fun d=>(F t').uses d)=false:=by
   rw[he]
   induction ds with
   | nil=>rfl
   | cons d ds ih=>simp[AV.uses]
  rw[this];exact he
theorem zP (hTE:∀ t i,TE t=some i→bA P t i) (hm:P.follows .mixedOrders=true) {id m:Nat} {ds:List Nat} (hok:((Nat.ble m ops.size&&below m fun j=>match(cZ ops j).dst with|some d=>ds.any (Nat.beq d)|none=>true)&&Au ops m)=true) {K:(Nat→AV)→Prop} {Q:Exit→Act→World→Prop} (hp:Lw P TE N ops m ops.toList K (Ab.clr ds F)) (hs:St w0 M S0 N F a w)
  (hq:∀ F' a' w',K F'→St w0 M S0 N F' a' w'→Q .normal a' w'):(Code.region id ops true).wp P Q a w:=by
 simp only[Bool.and_eq_true]at hok
 obtain⟨⟨hmle,hds⟩,hok⟩:=hok
 have hmle':m≤ops.size:=Nat.le_of_ble_eq_true hmle
 refine wp_region_any hm ?_
 have hs':St w0 M S0 N (Ab.clr ds F) a {w with drawn:=w.drawn+1}:=by
  have h1:=hs.clr ds
  obtain⟨S,φ,h⟩:=h1
  exact⟨S,φ,h.more (w1:={w with drawn:=w.drawn+1}) (fun _ _ h=>h) (fun _ _ h=>.inl h) ⟨rfl,rfl,rfl,Nat.le_refl _,fun _ _ _=>rfl,fun _ _ _ _=>rfl,fun _ _ _ _=>rfl⟩⟩
 refine y8 hTE (m:=m) hq ops.size (Array.replicate ops.size false) _ a _ ?_ hs'
 have hcl:∀ d,ds.any (Nat.beq d)=true→∀ t,(Ab.clr ds F t).uses d=false:=fun d hd t=>by
  rw[AD]
  cases hb:ds.any (fun d=>(F t).uses d) with
  | true=>rfl
  | false=>
   simp only[cond_false]
   cases hu:(F t).uses d with
   | false=>rfl
   | true=>
    obtain⟨d',hd',he⟩:=List.any_eq_true.1 hd
    have he':=Nat.eq_of_beq_eq_true he
    subst he'
    have:ds.any (fun d=>(F t).uses d)=true:=List.any_eq_true.2 ⟨_,hd',hu⟩
    rw[this]at hb;cases hb
 have hmem:∀ j o d,j<m→ops[j]? = some o→o.dst=some d→ds.any (Nat.beq d)=true:=fun j o d hj ho hd=>by
  have h1:=gm hds hj
  rw[bc ho,hd]at h1
  exact h1
 have hD:=D9 hok
 have:=Ba (P:=P) (TE:=TE) (N:=N) hD (K:=K) hmle' ops.toList 0 (Array.replicate ops.size false) (Ab.clr ds F) (by simp) (by simp) (fun j hj=>by simp[hj]) ⟨fun j o d hj ho _ hd t=>hcl d (hmem j o d hj ho hd) t,fun j o T s hj ho _ _ _ g3 t=>by
   obtain⟨k,ok,hk1,hk2,hk3⟩:=(fK g3).1
   obtain⟨e,he1,he2,rfl⟩:=bX.1 hk1
   have:=hD.back j o ho e he1 he2
   exact hcl s (hmem e.on ok s (by omega) hk2 hk3) t⟩ (fun j oj hj hl=>by
   have hlt:=(Array.getElem?_eq_some_iff.1 hj).1
   simp[hlt]at hl) hp
 simpa using this
end
end Go.Proofs.YtplcalfnngkffaaGreat.Ab
