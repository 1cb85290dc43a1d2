/- A slot-only operation looks at its operands alone (the rest), and: a region that draws its order may be run in the text's. No condition. -/
import Derived.Test.YtogajjgmcnjkbaaGreatMb
import Derived.Orders
import Derived.Test.YtogajjgmcnjkbaaGreatMa
namespace Go.Proofs.YtogajjgmcnjkbaaGreat.Ab
open Go.RowKit
section
variable {F:Nat→AV} {K:AV→Prop} {TE:Nat→Option TI} {P:Program}
theorem E5 {op:BinOp} {x y:Value} {K K':Value→Prop} (h:x9 op x y K) (hk:∀ v,K v→K' v):x9 op x y K':=by
 cases x<;>cases y<;>try exact h.elim
 rename_i k a k' b
 have sk:∀ {X Y:Prop},(bif eN k k' then X else False)→(X→Y)→(bif eN k k' then Y else False):=fun {X Y} h hxy=>by
  cases hs:eN k k' with
  | true=>rw[hs]at h;exact hxy h
  | false=>rw[hs]at h;exact h.elim
 have wr:∀ {k:IntKind} {x:Int},Wr k x (fun z=>K (.int k z))→Wr k x (fun z=>K' (.int k z)):=fun h=>by
  obtain⟨z,h1,h2⟩:=h.out
  exact Wr.mk h1 (hk _ h2)
 have ev:∀ {k:IntKind} {x:Int},Ev x (fun z=>K (.int k z))→Ev x (fun z=>K' (.int k z)):=fun h=>by
  obtain⟨z,h1,h2⟩:=h.out
  exact Ev.mk h1 (hk _ h2)
 have cd:∀ {p X Y:Prop},Cd p X→(X→Y)→Cd p Y:=fun h hxy=>Cd.mk h.out.1 (hxy h.out.2)
 cases op<;>simp only[x9]at h ⊢
 case add=>exact sk h wr
 case sub=>exact sk h wr
 case mul=>exact sk h wr
 case quo=>exact sk h fun h=>cd h wr
 case rem=>exact sk h fun h=>cd h ev
 case and=>exact sk h wr
 case or=>exact sk h wr
 case xor=>exact sk h wr
 case andNot=>exact sk h wr
 case shl=>exact cd h wr
 case shr=>exact cd h ev
 all_goals exact sk h (hk _)
theorem F7 {op:BinOp} {x y:Value} {K:Value→Prop} (h:x9 op x y K):∃ v,K v∧x9 op x y (· = v):=by
 cases x<;>cases y<;>try exact h.elim
 rename_i k a k' b
 have sk:∀ {X:Prop},(bif eN k k' then X else False)→X∧∀ Y:Prop,Y→(bif eN k k' then Y else False):=fun {X} h=>by
  cases hs:eN k k' with
  | true=>rw[hs]at h;exact⟨h,fun Y hY=>hY⟩
  | false=>rw[hs]at h;exact h.elim
 cases op<;>simp only[x9]at h ⊢
 case add=>obtain⟨h,b⟩:=sk h;obtain⟨z,h1,h2⟩:=h.out;exact⟨_,h2,b _ (Wr.mk h1 rfl)⟩
 case sub=>obtain⟨h,b⟩:=sk h;obtain⟨z,h1,h2⟩:=h.out;exact⟨_,h2,b _ (Wr.mk h1 rfl)⟩
 case mul=>obtain⟨h,b⟩:=sk h;obtain⟨z,h1,h2⟩:=h.out;exact⟨_,h2,b _ (Wr.mk h1 rfl)⟩
 case quo=>obtain⟨h,b⟩:=sk h;obtain⟨z,h1,h2⟩:=h.out.2.out;exact⟨_,h2,b _ (Cd.mk h.out.1 (Wr.mk h1 rfl))⟩
 case rem=>obtain⟨h,b⟩:=sk h;obtain⟨z,h1,h2⟩:=h.out.2.out;exact⟨_,h2,b _ (Cd.mk h.out.1 (Ev.mk h1 rfl))⟩
 case and=>obtain⟨h,b⟩:=sk h;obtain⟨z,h1,h2⟩:=h.out;exact⟨_,h2,b _ (Wr.mk h1 rfl)⟩
 case or=>obtain⟨h,b⟩:=sk h;obtain⟨z,h1,h2⟩:=h.out;exact⟨_,h2,b _ (Wr.mk h1 rfl)⟩
 case xor=>obtain⟨h,b⟩:=sk h;obtain⟨z,h1,h2⟩:=h.out;exact⟨_,h2,b _ (Wr.mk h1 rfl)⟩
 case andNot=>obtain⟨h,b⟩:=sk h;obtain⟨z,h1,h2⟩:=h.out;exact⟨_,h2,b _ (Wr.mk h1 rfl)⟩
 case shl=>obtain⟨z,h1,h2⟩:=h.out.2.out;exact⟨_,h2,Cd.mk h.out.1 (Wr.mk h1 rfl)⟩
 case shr=>obtain⟨z,h1,h2⟩:=h.out.2.out;exact⟨_,h2,Cd.mk h.out.1 (Ev.mk h1 rfl)⟩
 all_goals(obtain⟨h,b⟩:=sk h;exact⟨_,h,b _ rfl⟩)
theorem G2 {op:BinOp} {T:Nat} {x y:Value} {K:Value→Prop} (h:zb TE op T x y K):∃ v,K v∧∀ K':Value→Prop,K' v→zb TE op T x y K':=by
 unfold zb at h
 split at h
 ·split at h
  case h_2=>exact h.elim
  rename_i hT
  cases op<;>simp only at h<;>try exact h.elim
  all_goals exact⟨_,h,fun K' hK=>by unfold zb;simp only[hT];exact hK⟩
 ·cases op<;>simp only at h<;>try exact h.elim
  case add=>obtain⟨h1,h2⟩:=h.out;obtain⟨z,h3,h4⟩:=h2.out;exact⟨_,h4,fun K' hK=>Cd.mk h1 (Es.mk h3 hK)⟩
  all_goals exact⟨_,h,fun K' hK=>hK⟩
 ·rename_i h1 h2
  obtain⟨v,hv,hs⟩:=F7 h
  refine⟨v,hv,fun K' hK=>?_⟩
  have:=E5 (K':=K') hs fun v' e=>by rw[e];exact hK
  unfold zb
  split
  ·exact(h1 _ _ rfl rfl).elim
  ·exact(h2 _ _ rfl rfl).elim
  ·exact this
theorem G4 {op:UnOp} {x:Value} {K K':Value→Prop} (h:GF op x K) (hk:∀ v,K v→K' v):GF op x K':=by
 unfold GF at h ⊢
 split at h
 ·exact hk _ h
 ·obtain⟨z,h1,h2⟩:=Wr.out h;exact Wr.mk h1 (hk _ h2)
 ·exact h.elim
theorem GY {op:UnOp} {x:Value} {K:Value→Prop} (h:GF op x K):∃ v,K v∧GF op x (· = v):=by
 unfold GF at h
 split at h
 ·exact⟨_,h,rfl⟩
 ·obtain⟨z,h1,h2⟩:=Wr.out h;exact⟨_,h2,Wr.mk h1 rfl⟩
 ·exact h.elim
theorem Fe {c x y:Operand} (h:Dk F c x y K):mA (fun F K=>Dk F c x y K) F (tm c++tm x++tm y) K:=by
 obtain⟨z,hz,hl⟩:=gk h
 cases z with
 | bool b=>
  cases b with
  | true=>
   obtain⟨av,h1,h2,h3⟩:=gM (Bf.out hz)
   refine⟨av,h1,fun d hd=>(h2 d hd).imp (fun h=>by simp[h]) (fun⟨t,ht,hu⟩=>⟨t,by simp[ht],hu⟩),fun F' hA K' hK=>hl F' (hA.mono (by simp +contextual)) _ (Bf.in_ (h3 F' (hA.mono (by simp +contextual)) K' hK))⟩
  | false=>
   obtain⟨av,h1,h2,h3⟩:=gM (Bf.out hz)
   refine⟨av,h1,fun d hd=>(h2 d hd).imp (fun h=>by simp[h]) (fun⟨t,ht,hu⟩=>⟨t,by simp[ht],hu⟩),fun F' hA K' hK=>hl F' (hA.mono (by simp +contextual)) _ (Bf.in_ (h3 F' (hA.mono (by simp +contextual)) K' hK))⟩
 | _=>exact hz.elim
theorem GR {x:Operand} (h:Hl F x K):mA (fun F K=>Hl F x K) F (tm x) K:=by
 obtain⟨ag,cs,hk,hl⟩:=cn h
 cases hn:aQ cs with
 | false=>rw[hn]at hk;exact hk.elim
 | true=>rw[hn]at hk;exact⟨_,hk,dB.hold _ _ _ _,fun F' hA K' hK=>hl F' hA _ (by rw[hn];exact hK)⟩
theorem za {x:Operand} {i:Nat} (h:gX F x i K):mA (fun F K=>gX F x i K) F (tm x) K:=by
 cases x with
 | tmp t=>
  have ht:t∈tm (.tmp t):=by simp[tm]
  simp only[gX]at h
  cases hF:F t with
  | hold k cs=>
   rw[hF]at h
   cases k with
   | tup sh=>
    simp only at h
    cases hs:wM sh i with
    | none=>rw[hs]at h;exact h.elim
    | some p=>
     rw[hs]at h
     simp only at h
     cases hn:aQ (bp cs p.1 (p.2.getD 1)) with
     | true=>rw[hn]at h;exact⟨_,h,dB.hold _ _ _ _,fun F' hA K' hK=>by simp only[gX,(hA t ht).1,hF,hs,hn,cond_true];exact hK⟩
     | false=>rw[hn]at h;exact⟨_,h,fun d hd=>.inl (by simp[AV.uses]at hd;subst hd;exact ht),fun F' hA K' hK=>by simp only[gX,(hA t ht).1,hF,hs,hn,cond_false];exact hK⟩
   | _=>exact h.elim
  | _=>rw[hF]at h;exact h.elim
 | _=>exact h.elim
theorem GV {T:Nat} {x:Operand} (h:AG TE F T x K):mA (fun F K=>AG TE F T x K) F (tm x) K:=by
 unfold AG at h
 unfold mA AG
 split at h
 ·obtain⟨ag,cs,hk,hl⟩:=cn h
  match ag,cs,hk with
  | none,[.s o rows],hk=>exact⟨_,Ln.out hk,dB.hold _ _ _ _,fun F' hA K' hK=>hl F' hA _ (Ln.mk rfl hK)⟩
  | none,[.z],hk=>exact⟨_,hk,dB.hold _ _ _ _,fun F' hA K' hK=>hl F' hA _ hK⟩
 ·obtain⟨z,hk,hl⟩:=gk h
  cases z with
  | string s=>exact⟨_,Ln.out hk,dB.hold _ _ _ _,fun F' hA K' hK=>hl F' hA _ (Ln.mk rfl hK)⟩
  | _=>exact hk.elim
 ·exact h.elim
theorem Hn {T:Nat} {x:Operand} (h:BI TE F T x K):mA (fun F K=>BI TE F T x K) F (tm x) K:=by
 unfold BI at h
 unfold mA BI
 split at h
 ·obtain⟨ag,cs,hk,hl⟩:=cn h
  match ag,cs,hk with
  | none,[.s o rows],hk=>exact⟨_,hk.out.2,dB.hold _ _ _ _,fun F' hA K' hK=>hl F' hA _ (Nn.mk hk.out.1 hK)⟩
 ·exact h.elim
def tms (xs:List Operand):List Nat:=xs.flatMap tm
theorem Gr {x:Operand} {k:Bool→RA→Prop} (h:argV F x k):∃ b A,k b A∧∀ F':Nat→AV,gG F F' (tm x)→∀ k':Bool→RA→Prop,k' b A→argV F' x k':=by
 have key:∀ F':Nat→AV,gG F F' (tm x)→lW F' x=lW F x:=fun F' hA=>hA.ev
 have vl:∀ av,lW F x=av→gx F av (rm k)→(∀ F' k',lW F' x=av→(argV F' x k'=gx F' av (rm k')))→∃ b A,k b A∧∀ F':Nat→AV,gG F F' (tm x)→∀ k':Bool→RA→Prop,k' b A→argV F' x k':=fun av hav hv he=>by
  obtain⟨ag,cs,hK,hl⟩:=cn (x:=x) (by rw[hav];exact hv)
  unfold rm at hK
  cases hn:aQ cs with
  | true=>
   rw[hn]at hK
   refine⟨true,_,hK,fun F' hA k' hk'=>?_⟩
   have h1:=key F' hA
   rw[he F' k' (h1.trans hav),←hav,←h1]
   exact hl F' hA _ (by unfold rm;rw[hn];exact hk')
  | false=>
   rw[hn]at hK
   refine⟨false,_,hK,fun F' hA k' hk'=>?_⟩
   have h1:=key F' hA
   rw[he F' k' (h1.trans hav),←hav,←h1]
   exact hl F' hA _ (by unfold rm;rw[hn];exact hk')
 have h0:=h
 unfold argV at h0
 cases hav:lW F x with
 | hold kd cs=>
  rw[hav]at h0
  cases kd with
  | box=>exact⟨false,_,h0,fun F' hA k' hk'=>by unfold argV;rw[key F' hA,hav];exact hk'⟩
  | one=>exact vl _ hav h0 fun F' k' e=>by unfold argV;rw[e];rfl
  | agg=>exact vl _ hav h0 fun F' k' e=>by unfold argV;rw[e];rfl
  | tup sh=>exact h0.elim
 | bor t off st ag=>rw[hav]at h0;exact vl _ hav h0 fun F' k' e=>by unfold argV;rw[e]
 | ref t off st=>
  rw[hav]at h0
  simp only at h0
  split at h0
  ·rename_i cs hF
   refine⟨false,_,h0,fun F' hA k' hk'=>?_⟩
   unfold argV
   rw[key F' hA,hav]
   have:F' t=.hold .box cs:=by
    cases x with
    | tmp s=>exact(hA s (by simp[tm])).2 t (by show AV.uses t (F s)=true;rw[show F s=_ from hav];simp[AV.uses]) _ _ hF
    | const v=>simp only[lW]at hav;have:=jO v t;rw[hav]at this;simp[AV.uses]at this
    | global g=>cases hav
    | func f=>cases hav
   simp only[this]
   exact hk'
  ·exact h0.elim
 | iref r off=>
  rw[hav]at h0
  simp only at h0
  cases hb:Nat.beq off 0 with
  | false=>rw[hb]at h0;exact h0.elim
  | true=>rw[hb]at h0;exact⟨true,_,h0,fun F' hA k' hk'=>by unfold argV;rw[key F' hA,hav];simp only[hb];exact hk'⟩
 | fv Ok=>rw[hav]at h0;exact⟨true,_,h0,fun F' hA k' hk'=>by unfold argV;rw[key F' hA,hav];exact hk'⟩
 | fn f caps=>rw[hav]at h0;exact h0.elim
 | dead=>rw[hav]at h0;exact h0.elim
theorem mJ:∀ {cs:List Nat} {k:List RA→Prop},k7 F cs k→∃ D,k D∧∀ F':Nat→AV,(∀ t,t∈cs→∀ kd xs,F t=.hold kd xs→F' t=.hold kd xs)→∀ k':List RA→Prop,k' D→k7 F' cs k'
 | [],k,h=>⟨[],h,fun _ _ _ h=>h⟩
 | c::cs,k,h=>by
  simp only[k7]at h
  split at h
  ·rename_i xs hF
   obtain⟨D,hK,hl⟩:=mJ h
   exact⟨_,hK,fun F' hA k' hk'=>by simp only[k7,hA c (List.mem_cons_self ..) _ _ hF];exact hl F' (fun t ht=>hA t (List.mem_cons_of_mem _ ht)) _ hk'⟩
  ·rename_i xs hF
   obtain⟨D,hK,hl⟩:=mJ h
   exact⟨_,hK,fun F' hA k' hk'=>by simp only[k7,hA c (List.mem_cons_self ..) _ _ hF];exact hl F' (fun t ht=>hA t (List.mem_cons_of_mem _ ht)) _ hk'⟩
  ·rename_i xs hF
   obtain⟨D,hK,hl⟩:=mJ h
   exact⟨_,hK,fun F' hA k' hk'=>by simp only[k7,hA c (List.mem_cons_self ..) _ _ hF];exact hl F' (fun t ht=>hA t (List.mem_cons_of_mem _ ht)) _ hk'⟩
  ·exact h.elim
theorem Dt {F':Nat→AV} {t:Nat} {ts:List Nat} {f:FuncId} {caps:List Nat} (hA:gG F F' ts) (ht:t∈ts) (hF:F t=.fn f caps):∀ c,c∈caps→∀ kd xs,F c=.hold kd xs→F' c=.hold kd xs:=fun c hc kd xs h=>
 (hA t ht).2 c (by rw[hF];simp only[AV.uses,List.any_eq_true];exact⟨c,hc,Nat.beq_refl c⟩) kd xs h
theorem FN {x:Operand} {k:Bool→RA→Prop} (h:argA P F x k):∃ b A,k b A∧∀ F':Nat→AV,gG F F' (tm x)→∀ k':Bool→RA→Prop,k' b A→argA P F' x k':=by
 have h0:=h
 unfold argA at h0
 split at h0
 ·rename_i f caps hav
  obtain⟨D,hK,hl⟩:=mJ h0
  obtain⟨Q,q1,q2,q3⟩:=hK
  refine⟨false,_,q3,fun F' hA k' hk'=>?_⟩
  unfold argA
  rw[hA.ev,hav]
  refine hl F' ?_ _ ⟨Q,q1,q2,hk'⟩
  cases x with
  | tmp s=>exact Dt hA (t:=s) (by simp[tm]) hav
  | const v=>
   intro c hc
   simp only[lW]at hav
   have:=jO v c
   rw[hav]at this
   simp only[AV.uses]at this
   have h2:caps.any (Nat.beq · c)=true:=List.any_eq_true.2 ⟨c,hc,Nat.beq_refl c⟩
   rw[h2]at this;cases this
  | global g=>cases hav
  | func f=>cases hav;intro c hc;cases hc
 ·rename_i hne
  obtain⟨b,A,hK,hl⟩:=Gr h0
  refine⟨b,A,hK,fun F' hA k' hk'=>?_⟩
  have:=hl F' hA k' hk'
  unfold argA
  rw[hA.ev]
  split
  ·rename_i f caps hav;exact absurd hav (hne f caps)
  ·exact this
theorem tK:∀ {xs:List Operand} {k:Bool→List RA→Prop},vo P F xs k→∃ b A,k b A∧∀ F':Nat→AV,gG F F' (tms xs)→∀ k':Bool→List RA→Prop,k' b A→vo P F' xs k'
 | [],k,h=>⟨true,[],h,fun _ _ _ h=>h⟩
 | x::xs,k,h=>by
  obtain⟨b1,A,hk,hl⟩:=FN h
  obtain⟨b,As,hk,hl2⟩:=tK hk
  have s1:∀ {F':Nat→AV},gG F F' (tms (x::xs))→gG F F' (tm x):=fun hA=>hA.mono (by simp +contextual [tms])
  have s2:∀ {F':Nat→AV},gG F F' (tms (x::xs))→gG F F' (tms xs):=fun hA=>hA.mono (fun t ht=>by simp only[tms,List.flatMap_cons,List.mem_append];exact .inr ht)
  exact⟨_,_,hk,fun F' hA k' hk'=>hl F' (s1 hA) _ (hl2 F' (s2 hA) _ hk')⟩
theorem vd:∀ {xs:List Operand} {k:List (Option Nat × List C)→Prop},argsV F xs k→∃ L,k L∧∀ F':Nat→AV,gG F F' (tms xs)→∀ k':List (Option Nat × List C)→Prop,k' L→argsV F' xs k'
 | [],k,h=>⟨[],h,fun _ _ _ h=>h⟩
 | x::xs,k,h=>by
  obtain⟨ag,cs,hk,hl⟩:=cn h
  obtain⟨L,hk,hl2⟩:=vd hk
  have s1:∀ {F':Nat→AV},gG F F' (tms (x::xs))→gG F F' (tm x):=fun hA=>hA.mono (by simp +contextual [tms])
  have s2:∀ {F':Nat→AV},gG F F' (tms (x::xs))→gG F F' (tms xs):=fun hA=>hA.mono (fun t ht=>by simp only[tms,List.flatMap_cons,List.mem_append];exact .inr ht)
  exact⟨_,hk,fun F' hA k' hk'=>hl F' (s1 hA) _ (hl2 F' (s2 hA) _ hk')⟩
theorem FD {f:Nat} {xs:List Operand} (h:Ds P F f xs K):mA (fun F K=>Ds P F f xs K) F (tms xs) K:=by
 obtain⟨b,A,hk,hl⟩:=tK h
 obtain⟨sh,k,rcs,h1,h2,h3⟩:=hk.out
 exact⟨_,h3,dB.hold _ _ _ _,fun F' hA K' hK=>hl F' hA _ (.mk_ ⟨sh,k,rcs,h1,h2,hK⟩)⟩
theorem DB {t:Nat} {xs:List Operand} (h:km P F t xs K):mA (fun F K=>km P F t xs K) F (t::tms xs) K:=by
 have h0:=h
 unfold km at h0
 split at h0
 ·rename_i f caps hF
  obtain⟨b,A,hk,hl⟩:=tK h0
  obtain⟨D,hk,hl2⟩:=mJ hk
  obtain⟨sh,k,rcs,h1,h2,h3⟩:=hk.out
  refine⟨_,h3,dB.hold _ _ _ _,fun F' hA K' hK=>?_⟩
  show km P F' t xs K'
  unfold km
  rw[(hA t (List.mem_cons_self ..)).1,hF]
  exact hl F' (hA.mono fun t ht=>List.mem_cons_of_mem _ ht) _ (hl2 F' (Dt hA (List.mem_cons_self ..) hF) _ (.mk_ ⟨sh,k,rcs,h1,h2,hK⟩))
 ·rename_i Ok hF
  obtain⟨L,hk,hl⟩:=vd h0
  obtain⟨Q,k,rcs,h1,h2,h3⟩:=hk
  refine⟨_,h3,dB.hold _ _ _ _,fun F' hA K' hK=>?_⟩
  show km P F' t xs K'
  unfold km
  rw[(hA t (List.mem_cons_self ..)).1,hF]
  exact hl F' (hA.mono fun t ht=>List.mem_cons_of_mem _ ht) _ ⟨Q,k,rcs,h1,h2,hK⟩
 ·exact h0.elim
theorem iV {T:Nat} {k:Nat→TI→Prop} (h:D0 TE T k):∃ e ie,k e ie∧∀ k':Nat→TI→Prop,k' e ie→D0 TE T k':=by
 unfold D0 at h
 split at h
 case h_2=>exact h.elim
 rename_i e hT
 split at h
 case h_2=>exact h.elim
 rename_i ie he
 cases hb:(Nat.beq ie.zero.length ie.size&&Nat.ble 1 ie.size) with
 | false=>rw[hb]at h;exact h.elim
 | true=>rw[hb]at h;exact⟨e,ie,h,fun k' hk=>by unfold D0;simp only[hT,he,hb,cond_true];exact hk⟩
theorem pu {x:Operand} {k:Int→Prop} (h:xH F x k):∃ n,k n∧∀ F':Nat→AV,gG F F' (tm x)→∀ k':Int→Prop,k' n→xH F' x k':=by
 obtain⟨z,hz,hl⟩:=gk h
 cases z with
 | int kk n=>exact⟨n,hz,fun F' hA k' hk=>hl F' hA _ hk⟩
 | _=>exact hz.elim
def otm (x:Option Operand):List Nat:=x.toList.flatMap tm
theorem BM {x:Option Operand} {k:Option Int→Prop} (h:FI F x k):∃ n,k n∧∀ F':Nat→AV,gG F F' (otm x)→∀ k':Option Int→Prop,k' n→FI F' x k':=by
 cases x with
 | none=>exact⟨none,h,fun _ _ _ hk=>hk⟩
 | some x=>
  obtain⟨n,hn,hl⟩:=pu h
  exact⟨some n,hn,fun F' hA k' hk=>hl F' (hA.mono (by simp +contextual [otm])) _ hk⟩
theorem qk {pl:Nat→Option (Nat × Nat)} : ∀ {parts:List (Nat × Operand)} {cs:List C} {k:List C→Prop},fillP F pl parts cs k→∃ cs',k cs'∧∀ F':Nat→AV,gG F F' (tms (parts.map (·.2)))→∀ k':List C→Prop,k' cs'→fillP F' pl parts cs k'
 | [],cs,k,h=>⟨cs,h,fun _ _ _ h=>h⟩
 | p::rest,cs,k,h=>by
  simp only[fillP]at h
  split at h
  case h_2=>exact h.elim
  rename_i q hq
  obtain⟨ag,xs,hk,hl⟩:=cn h
  cases hb:(aQ xs&&Nat.beq xs.length q.2&&Nat.ble (q.1+q.2) cs.length) with
  | false=>rw[hb]at hk;exact hk.elim
  | true=>
   rw[hb]at hk
   simp only[cond_true,dM]at hk
   obtain⟨cs',hk',hl'⟩:=qk hk
   refine⟨cs',hk',fun F' hA k' hk2=>?_⟩
   simp only[fillP,hq]
   refine hl F' (hA.mono (by simp +contextual [tms])) _ ?_
   rw[hb]
   simp only[cond_true,dM]
   exact hl' F' (hA.mono (fun t ht=>by simp only[tms,List.map_cons,List.flatMap_cons,List.mem_append];exact .inr ht)) _ hk2
theorem DY {T:Nat} {parts:List (Nat × Operand)} (h:ou TE F T parts K):mA (fun F K=>ou TE F T parts K) F (tms (parts.map (·.2))) K:=by
 unfold ou at h
 unfold mA ou
 split at h
 case h_2=>exact h.elim
 rename_i size bytes zero flds hT
 cases ha:tp TE flds with
 | false=>rw[ha]at h;exact h.elim
 | true=>
  rw[ha]at h
  obtain⟨cs',hk,hl⟩:=qk h
  exact⟨_,hk,dB.hold _ _ _ _,fun F' hA K' hK=>by simp only[cond_true];exact hl F' hA _ hK⟩
theorem Bm {T n:Nat} {parts:List (Nat × Operand)} (h:rE TE F T n parts K):mA (fun F K=>rE TE F T n parts K) F (tms (parts.map (·.2))) K:=by
 obtain⟨e,ie,hk,hs⟩:=iV h
 cases hb:Nat.ble (n*ie.size) 16777216 with
 | false=>rw[hb]at hk;exact hk.elim
 | true=>
  rw[hb]at hk
  simp only[cond_true]at hk
  split at hk
  ·exact⟨_,hk,dB.hold _ _ _ _,fun F' hA K' hK=>hs _ (by rw[hb];exact hK)⟩
  ·rw[dM]at hk
   obtain⟨cs',hk',hl⟩:=qk hk
   rw[ow]at hk'
   exact⟨_,hk',dB.hold _ _ _ _,fun F' hA K' hK=>hs _ (by rw[hb];simp only[cond_true,dM];exact hl F' hA _ (by rw[ow];exact hK))⟩
  ·exact hk.elim
theorem Fx {T:Nat} {x y:Operand} (h:Dy TE F T x y K):mA (fun F K=>Dy TE F T x y K) F (tm x++tm y) K:=by
 obtain⟨e,ie,hk,hs⟩:=iV h
 obtain⟨ag,cs,hk,hl⟩:=cn hk
 match ag,cs,hk with
 | none,[.z],hk=>
  obtain⟨ag2,cs2,hk,hl2⟩:=cn hk
  match ag2,cs2,hk with
  | none,[.s o rows],hk=>
   obtain⟨h1,h2,h3,hk⟩:=hk.out
   exact⟨_,hk,dB.hold _ _ _ _,fun F' hA K' hK=>hs _ (hl F' (hA.mono (by simp +contextual)) _ (hl2 F' (hA.mono (by simp +contextual)) _ (Fl.mk h1 h2 h3 hK)))⟩
  | none,[.z],hk=>
   exact⟨_,hk,dB.hold _ _ _ _,fun F' hA K' hK=>hs _ (hl F' (hA.mono (by simp +contextual)) _ (hl2 F' (hA.mono (by simp +contextual)) _ hK))⟩
theorem FC {T:Nat} {x y:Operand} (h:Dc TE F T x y K):mA (fun F K=>Dc TE F T x y K) F (tm x++tm y) K:=by
 obtain⟨e,ie,hk,hs⟩:=iV h
 obtain⟨l,hk,hl⟩:=pu hk
 obtain⟨c,hk,hl2⟩:=pu hk
 obtain⟨n,h1,h2,h3,h4,hk⟩:=hk.out
 exact⟨_,hk,dB.hold _ _ _ _,fun F' hA K' hK=>hs _ (hl F' (hA.mono (by simp +contextual)) _ (hl2 F' (hA.mono (by simp +contextual)) _ (Mk.mk n h1 h2 h3 h4 rfl hK)))⟩
theorem Fs {T:Nat} {x y:Operand} {ok:Bool} (h:te TE F T x y ok K):mA (fun F K=>te TE F T x y ok K) F (tm x++tm y) K:=by
 unfold te at h
 split at h
 case h_2=>exact h.elim
 rename_i hT
 cases ok with
 | true=>exact h.elim
 | false=>
  simp only[cond_false]at h
  obtain⟨ag,cs,hK,hl⟩:=cn h
  match ag,cs,hK,hl with
  | none,[.m es],hK,hl=>
   obtain⟨v,hv,hl2⟩:=gk hK
   match v,hv,hl2 with
   | .int .i64 z,hv,hl2=>
    refine⟨_,hv.out,dB.hold _ _ _ _,fun F' hA K' hK'=>?_⟩
    simp only[te,hT,cond_false]
    exact hl F' (hA.mono (by simp +contextual)) _ (hl2 F' (hA.mono (by simp +contextual)) _ (Ml.mk rfl hK'))
theorem El {T:Nat} {x:Operand} {lo hi:Option Operand} (h:xp TE F T x lo hi K):mA (fun F K=>xp TE F T x lo hi K) F (tm x++otm lo++otm hi) K:=by
 obtain⟨e,ie,hk,hs⟩:=iV h
 obtain⟨l,hk,hl⟩:=BM hk
 obtain⟨r,hk,hl2⟩:=BM hk
 obtain⟨ag,cs,hk,hl3⟩:=cn hk
 have back:∀ (rows:List (List C)) (k:List (List C)→Prop),Sl rows ie.size l r k→∃ rows',k rows'∧∀ k':List (List C)→Prop,k' rows'→Sl rows ie.size l r k':=fun rows k h=>by
  obtain⟨x,y,h1,h2,h3,h4,h5,h6⟩:=h.out
  exact⟨_,h6,fun k' hk=>by refine .mk_ ?_;exact⟨x,y,h1,h2,h3,h4,h5,_,rfl,hk⟩⟩
 match ag,cs,hk with
 | none,[.s .imm rows],hk=>
  obtain⟨rows',hk,hb⟩:=back _ _ hk
  exact⟨_,hk,dB.hold _ _ _ _,fun F' hA K' hK=>hs _ (hl F' (hA.mono (by simp +contextual)) _ (hl2 F' (hA.mono (by simp +contextual)) _ (hl3 F' (hA.mono (by simp +contextual)) _ (hb _ hK))))⟩
 | none,[.z],hk=>
  obtain⟨rows',hk,hb⟩:=back _ _ hk
  exact⟨_,hk,dB.hold _ _ _ _,fun F' hA K' hK=>hs _ (hl F' (hA.mono (by simp +contextual)) _ (hl2 F' (hA.mono (by simp +contextual)) _ (hl3 F' (hA.mono (by simp +contextual)) _ (hb _ hK))))⟩
theorem AQ {T:Nat} {x hi mx:Operand} (h:Hf TE F T x hi mx K):mA (fun F K=>Hf TE F T x hi mx K) F (tm x) K:=by
 obtain⟨e,ie,hk,hs⟩:=iV h
 cases hb:Hy hi&&Hy mx with
 | false=>rw[hb]at hk;exact hk.elim
 | true=>
  rw[hb]at hk
  obtain⟨ag,cs,hk,hl⟩:=cn hk
  match ag,cs,hk with
  | none,[.s o rows],hk=>exact⟨_,hk,dB.hold _ _ _ _,fun F' hA K' hK=>hs _ (by rw[hb];exact hl F' hA _ hK)⟩
  | none,[.z],hk=>exact⟨_,hk,dB.hold _ _ _ _,fun F' hA K' hK=>hs _ (by rw[hb];exact hl F' hA _ hK)⟩
theorem DK {T f:Nat} {x:Operand} (h:nV TE F T x f K):mA (fun F K=>nV TE F T x f K) F (tm x) K:=by
 unfold nV at h
 split at h
 case h_2=>exact h.elim
 rename_i flds hT
 split at h
 case h_2=>exact h.elim
 rename_i p hp
 split at h
 case h_2=>exact h.elim
 rename_i i hi
 obtain⟨ag,cs,hk,hl⟩:=cn h
 cases hb:(ag.isSome&&(i.agg || Nat.beq i.size 1)&&Nat.ble (p.1+i.size) cs.length) with
 | false=>rw[hb]at hk;exact hk.elim
 | true=>
  rw[hb]at hk
  simp only[cond_true]at hk
  cases hn:aQ (bp cs p.1 i.size) with
  | false=>rw[hn]at hk;exact hk.elim
  | true=>
   rw[hn]at hk
   simp only[cond_true,dM]at hk
   exact⟨_,hk,dB.hold _ _ _ _,fun F' hA K' hK=>by unfold nV;simp only[hT,hp,hi];exact hl F' hA _ (by rw[hb,hn];simp only[cond_true,dM];exact hK)⟩
theorem G1 {T1 T2:Nat} {x:Operand} (h:rS TE F T1 T2 x K):mA (fun F K=>rS TE F T1 T2 x K) F (tm x) K:=by
 unfold rS at h
 split at h
 ·rename_i h1 h2
  obtain⟨n,hk,hl⟩:=pu h
  obtain⟨z,h3,hk⟩:=hk.out
  exact⟨_,hk,dB.hold _ _ _ _,fun F' hA K' hK=>by unfold rS;simp only[h1,h2];exact hl F' hA _ (Wr.mk h3 hK)⟩
 ·exact h.elim
theorem Fn {mx:Bool} {x y:Operand} (h:Jv mx F x y K):mA (fun F K=>Jv mx F x y K) F (tm x++tm y) K:=by
 obtain⟨z,hz,hl⟩:=gk h
 cases z with
 | int kk n=>
  obtain⟨m,hk,hl2⟩:=pu hz
  obtain⟨z,h3,hk⟩:=hk.out
  exact⟨_,hk,dB.hold _ _ _ _,fun F' hA K' hK=>hl F' (hA.mono (by simp +contextual)) _ (hl2 F' (hA.mono (by simp +contextual)) _ (Ev.mk h3 hK))⟩
 | _=>exact hz.elim
theorem dB.mono {ts ts':List Nat} {av:AV} (h:dB F ts av) (hs:∀ t,t∈ts→t∈ts'):dB F ts' av:=fun d hd=>(h d hd).imp (hs d) (fun⟨t,ht,hu⟩=>⟨t,hs t ht,hu⟩)
theorem mA.mono {p:(Nat→AV)→(AV→Prop)→Prop} {ts ts':List Nat} (h:mA p F ts K) (hs:∀ t,t∈ts→t∈ts'):mA p F ts' K:=by
 obtain⟨av,h1,h2,h3⟩:=h
 exact⟨av,h1,h2.mono hs,fun F' hA K' hK=>h3 F' (hA.mono hs) K' hK⟩
def cV (o:Op):List Nat:=o.operands.toList.flatMap tm
theorem kC {o:Op} (h:du P TE F o K):mA (fun F K=>du P TE F o K) F (cV o) K:=by
 cases o with
 | move x=>exact(gM h).mono (by simp[cV,Op.operands])
 | assign x=>exact(gM h).mono (by simp[cV,Op.operands])
 | nilCheck x=>
  cases x with
  | tmp t=>
   have ht:t∈tm (.tmp t):=by simp[tm]
   have key:∀ F':Nat→AV,F' t=F t→∀ K',du P TE F' (.nilCheck (.tmp t)) K'=(match F t with|.ref ..=>bb F' (.tmp t) K'|.iref ..=>bb F' (.tmp t) K'|.hold .box _=>bb F' (.tmp t) K'|_=>False):=fun F' e K'=>by
    unfold du
    simp only
    rw[e]
    cases F t with
    | hold k cs=>cases k<;>rfl
    | _=>rfl
   rw[key F rfl]at h
   have fin:bb F (.tmp t) K→(∀ K' (F':Nat→AV),F' t=F t→bb F' (.tmp t) K'→du P TE F' (.nilCheck (.tmp t)) K')→mA (fun F K=>du P TE F (.nilCheck (.tmp t)) K) F (cV (.nilCheck (.tmp t))) K:=fun hm hc=>by
    obtain⟨av,h1,h2,h3⟩:=gM hm
    exact⟨av,h1,h2.mono (by simp[cV,Op.operands]),fun F' hA K' hK=>hc _ F' (hA t (by simp[cV,Op.operands,tm])).1 (h3 F' (hA.mono (by simp[cV,Op.operands])) K' hK)⟩
   cases hF:F t with
   | hold k cs=>
    rw[hF]at h
    cases k with
    | box=>exact fin h fun K' F' e hm=>by rw[key F' e,hF];exact hm
    | _=>exact h.elim
   | ref=>rw[hF]at h;exact fin h fun K' F' e hm=>by rw[key F' e,hF];exact hm
   | iref=>rw[hF]at h;exact fin h fun K' F' e hm=>by rw[key F' e,hF];exact hm
   | _=>rw[hF]at h;exact h.elim
  | _=>exact h.elim
 | load T x=>exact(F8 h).mono (by simp[cV,Op.operands])
 | fieldAddr T x f=>exact(tS h).mono (by simp[cV,Op.operands])
 | indexAddr T x y=>exact(uk h).mono (by simp[cV,Op.operands])
 | binOp op T x y yT=>
  simp only[du]at h
  cases hb:sa op y with
  | true=>
   rw[hb]at h
   obtain⟨av,h1,h2,h3⟩:=Hn h
   exact⟨av,h1,h2.mono (by simp +contextual [cV,Op.operands]),fun F' hA K' hK=>by simp only[du,hb,cond_true];exact h3 F' (hA.mono (by simp +contextual [cV,Op.operands])) K' hK⟩
  | false=>
   rw[hb]at h
   obtain⟨z,hz,hl⟩:=gk h
   obtain⟨z2,hz2,hl2⟩:=gk hz
   obtain⟨v,hv,hs⟩:=G2 hz2
   refine⟨_,hv,dB.hold _ _ _ _,fun F' hA K' hK=>by simp only[du,hb,cond_false];exact hl F' (hA.mono (by simp +contextual [cV,Op.operands])) _ (hl2 F' (hA.mono (by simp +contextual [cV,Op.operands])) _ (hs _ hK))⟩
 | unOp op T x=>
  obtain⟨z,hz,hl⟩:=gk h
  obtain⟨v,hv,hs⟩:=GY hz
  exact⟨_,hv,dB.hold _ _ _ _,fun F' hA K' hK=>hl F' (hA.mono (by simp[cV,Op.operands])) _ (G4 hs fun v' e=>by rw[e];exact hK)⟩
 | pick c x y=>exact(Fe h).mono (by simp[cV,Op.operands])
 | alloc T=>
  simp only[du]at h
  unfold sJ at h
  split at h
  ·rename_i i hT
   exact⟨_,h,dB.hold _ _ _ _,fun F' _ K' hK=>by simp only[du,sJ,hT];exact hK⟩
  ·exact h.elim
 | box T x=>exact(GR h).mono (by simp[cV,Op.operands])
 | extract x i=>exact(za h).mono (by simp[cV,Op.operands])
 | build T ps=>exact(DY h).mono (by simp +contextual [cV,Op.operands,tms])
 | buildSlice T n ps=>exact(Bm h).mono (by simp +contextual [cV,Op.operands,tms])
 | makeSlice T x y=>exact(FC h).mono (by simp[cV,Op.operands])
 | makeMap T r=>
  simp only[du,oK]at h ⊢
  split at h
  case h_2=>exact h.elim
  exact⟨_,h,dB.hold _ _ _ _,fun F' _ K' hK=>hK⟩
 | lookup T x y ok=>exact(Fs h).mono (by simp[cV,Op.operands])
 | slice T x lo hi mx=>
  cases mx with
  | none=>exact(El h).mono (by cases lo<;>cases hi<;>simp[cV,Op.operands,otm])
  | some m=>
   cases lo with
   | some _=>exact h.elim
   | none=>
    cases hi with
    | none=>exact h.elim
    | some y=>exact(AQ h).mono (by simp +contextual [cV,Op.operands])
 | field T x f=>exact(DK h).mono (by simp[cV,Op.operands])
 | convert T1 T2 x=>exact(G1 h).mono (by simp[cV,Op.operands])
 | makeFunc fn fs cs=>
  simp only[du]at h
  split at h
  ·rename_i f hfs
   obtain⟨l,hK,hl⟩:=nP h
   refine⟨_,hK,fun d hd=>.inl ?_,fun F' _ K' hK'=>?_⟩
   ·simp only[AV.uses,List.any_eq_true]at hd
    obtain⟨c,hc,he⟩:=hd
    have:=Nat.eq_of_beq_eq_true he
    subst this
    simp only[cV,Op.operands,List.mem_flatMap]
    refine⟨.tmp c,?_,by simp[tm]⟩
    have hm:Operand.tmp c∈cs.toList:=by rw[hl];exact List.mem_map.2 ⟨c,hc,rfl⟩
    simpa using .inr (by simpa using hm)
   ·simp only[du,hfs]
    rw[hl]
    exact xP l hK'
  ·exact h.elim
 | call c=>
  obtain⟨callee,args,ts⟩:=c
  simp only[du]at h
  split at h
  ·rename_i f
   exact(FD h).mono (by simp +contextual [cV,Op.operands,Call.operands,tms])
  ·exact(DB h).mono (fun t ht=>by
     rcases List.mem_cons.1 ht with rfl|ht
     · simp[cV,Op.operands,Call.operands,tm]
     · simp only[tms,List.mem_flatMap]at ht
       obtain⟨x,hx,hx2⟩:=ht
       simp only[cV,Op.operands,Call.operands,List.mem_flatMap]
       exact⟨x,by simp_all,hx2⟩)
  ·split at h
   ·rename_i x T hx hT
    have e1:args = #[x]:=by apply Array.ext';simpa using hx
    have e2:ts = #[T]:=by apply Array.ext';simpa using hT
    subst e1 e2
    exact(GV h).mono (by simp[cV,Op.operands,Call.operands])
   ·exact h.elim
  ·split at h
   ·rename_i x y T T2 hx hT
    have e1:args = #[x,y]:=by apply Array.ext';simpa using hx
    have e2:ts = #[T,T2]:=by apply Array.ext';simpa using hT
    subst e1 e2
    cases hb:Nat.beq T T2 with
    | false=>rw[hb]at h;exact h.elim
    | true=>
     rw[hb]at h
     obtain⟨av,h1,h2,h3⟩:=(Fx h).mono (ts':=cV (.call ⟨.builtin .append,#[x,y],#[T,T2]⟩)) (by simp[cV,Op.operands,Call.operands])
     exact⟨av,h1,h2,fun F' hA K' hK=>by simp only[du,hb,cond_true];exact h3 F' hA K' hK⟩
   ·exact h.elim
  ·split at h
   ·rename_i x y hx
    have e1:args = #[x,y]:=by apply Array.ext';simpa using hx
    subst e1
    exact(Fn h).mono (by simp[cV,Op.operands,Call.operands])
   ·exact h.elim
  ·split at h
   ·rename_i x y hx
    have e1:args = #[x,y]:=by apply Array.ext';simpa using hx
    subst e1
    exact(Fn h).mono (by simp[cV,Op.operands,Call.operands])
   ·exact h.elim
  ·exact h.elim
 | _=>exact h.elim
end
end Go.Proofs.YtogajjgmcnjkbaaGreat.Ab
namespace Go.Proofs.YtogajjgmcnjkbaaGreat.Ab
open Go.RowKit
def cw (o:Oper) (i:Nat):Bool:=o.after.toList.any fun e=>Region.binds .any e&&Nat.beq e.on i
def cK (ops:Array Oper) (i:Nat):Oper:=ops.getD i default
def below (n:Nat) (p:Nat→Bool):Bool:=(List.range n).all p
def qa (ops:Array Oper) (i j:Nat):Bool:=match(cK ops i).dst with|some d=>((cK ops j).looksAt ops).any (Nat.beq d)|none=>false
def yC:List Nat→Nat
 | []=>0
 | k::ks=>2 ^ k ||| yC ks
def ons (o:Oper):List Nat:=(o.after.toList.filter fun e=>Region.binds .any e).map (·.on)
def frc {α:Type} (n:Nat) (K:Nat→α):α:=match n with|0=>K 0|n+1=>K (n+1)
theorem Gm {α:Type} (n:Nat) (K:Nat→α):frc n K=K n:=by cases n<;>rfl
def clo (ops:Array Oper):Nat→Nat→Nat
 | 0,S=>S
 | k+1,S=>bif S.testBit k then frc (S ||| yC (ons (cK ops k))) (clo ops k) else clo ops k S
def wF (ops:Array Oper) (m:Nat):Bool:=
 below ops.size fun j=>((cK ops j).after.toList.all fun e=>!Region.binds .any e || Nat.blt e.on j) &&
  (bif Nat.blt j m then below m (fun i=>Nat.beq i j || ((cw (cK ops j) i || cw (cK ops i) j || (cK ops i).apart ops (cK ops j))&&(!qa ops i j || cw (cK ops j) i))) else frc (clo ops j (yC (ons (cK ops j)))) fun S=>below j fun i=>S.testBit i)
def td:List (Nat × Nat × List Nat)→Nat→Option (Nat × List Nat)
 | [],_=>none
 | p::l,id=>bif Nat.beq id p.1 then some p.2 else td l id
def iw (P:Program) (TE:Nat→Option TI) (N:fq) (ops:Array Oper) (o:Oper) (K:(Nat→AV)→Prop) (F:Nat→AV):Prop:=
 fw F ops o.guard (fun F=>match o.dst with|some d=>du P TE F o.op fun av=>bA N F d av K|none=>False)
  (fun F=>match o.dst with|some d=>bA N F d (.hold (.tup []) []) K|none=>False)
def ma:Op→Option (Option Nat × Nat)
 | .buildSlice T 1 ps=>(match ps.toList with|[(0,.tmp s)]=>some (some T,s)|_=>none)
 | .move (.tmp s)=>some (none,s)
 | _=>none
def own1 (T:Option Nat) (k:Kd) (cs:List C):Bool:=match T with
 | some _=>(match k with
   | .one=>(match cs with|[c]=>dU c|_=>false)
   | .agg=>(match cs with|[c]=>dU c|_=>false)
   | _=>false)
 | none=>(match k with|.tup _=>!aQ cs|_=>false)
def HQ (TE:Nat→Option TI) (N:fq) (F:Nat→AV) (d:Nat) (T:Option Nat) (s:Nat) (K:(Nat→AV)→Prop):Prop:=match T with
 | some T=>gw TE N F d T 1 [(0,.tmp s)] K
 | none=>gn N F d (.tmp s) K
def EI (F:Nat→AV) (o:Oper):Option (Option Nat × Nat):=
 match o.guard with
 | some _=>none
 | none=>match ma o.op with
  | none=>none
  | some p=>match F p.2 with
   | .hold k cs=>bif own1 p.1 k cs then some p else none
   | .dead=>none
   | .ref ..=>none
   | .bor ..=>none
   | .iref ..=>none
   | .fn ..=>none
   | .fv _=>none
def gT (ops:Array Oper) (o:Oper) (s:Nat):Bool:=
 ((List.range ops.size).any fun k=>cw o k&&(match(cK ops k).dst with|some a=>Nat.beq a s|none=>false))&&Nat.ble (ops.toList.filter fun k=>(k.looksAt ops).any (Nat.beq s)).length 1
def ns (ds:List Nat) (o:Oper):Bool:=match o.dst with|some d=>ds.any (Nat.beq d)|none=>false
def twk:List Nat→List Nat
 | []=>[]
 | e::l=>bif Nat.ble 1000 e then(e - 1000)::twk l else []
def dec:List Nat→List (Nat × List Nat)
 | []=>[]
 | e::l=>bif Nat.ble 1000 e then dec l else(e,twk l)::dec l
def HR:Op→Bool
 | .move (.tmp _)=>true
 | .assign _=>true
 | .extract ..=>true
 | .build ..=>true
 | .store ..=>true
 | .load ..=>true
 | .fieldAddr ..=>true
 | .field ..=>true
 | .binOp ..=>true
 | .unOp ..=>true
 | .call c=>(t7 c).isSome
 | _=>false
def np (l:List (Nat × List Nat)) (i:Nat):Bool:=l.any fun p=>Nat.beq p.1 i
def rk (ops:Array Oper) (j i:Nat):Bool:=(clo ops j (yC (ons (cK ops j)))).testBit i
def HZ (o:Oper):Bool:=match o.guard with|none=>true|some _=>false
def Ju (ops:Array Oper) (oj oa:Oper):Bool:=match oa.dst with
 | none=>false
 | some da=>HZ oj&&HR oj.op&&!(match oj.dst with|some d=>Nat.beq d da|none=>false)&&!(oj.looksAt ops).any (Nat.beq da)&&HZ oa&&!(oa.looksAt ops).any (Nat.beq da)&&(match ma oa.op with|none=>true|some p=>!gT ops oa p.2)
def uW (ops:Array Oper) (ds:List Nat) (i j:Nat):Bool:=
 bif ns ds (cK ops j) then(bif ns ds (cK ops i) then(cw (cK ops j) i || cw (cK ops i) j || (cK ops i).apart ops (cK ops j))&&(!qa ops i j || cw (cK ops j) i)&&!(match(cK ops i).dst with|some d=>(match(cK ops j).dst with|some e=>Nat.beq d e|none=>false)|none=>false) else true)
 else(bif ns ds (cK ops i) then(rk ops j i || rk ops i j || Ju ops (cK ops j) (cK ops i))&&(!qa ops i j || cw (cK ops j) i) else true)
def yf (ops:Array Oper) (ds:List Nat):List (Nat × List Nat)→Bool
 | []=>true
 | k::l=>Nat.blt k.1 ops.size&&!np l k.1&&((cK ops k.1).after.toList.all fun e=>!Region.binds .any e || !(Nat.beq k.1 e.on || np l e.on)) &&
  (ns ds (cK ops k.1) || ((l.all fun j=>rk ops j.1 k.1)&&(below ops.size fun p=>!ns ds (cK ops p) || np l p || rk ops k.1 p || k.2.any (Nat.beq p))&&(!(l.any fun j=>ns ds (cK ops j.1)) || (HZ (cK ops k.1)&&HR (cK ops k.1).op))))&&yf ops ds l
def wq (ops:Array Oper) (ds:List Nat) (sch:List (Nat × List Nat)):Bool:=
 (below ops.size fun j=>((cK ops j).after.toList.all fun e=>!Region.binds .any e || Nat.blt e.on j)&&np sch j&&(!ns ds (cK ops j) || (match ma (cK ops j).op with|none=>true|some p=>!gT ops (cK ops j) p.2 || ds.any (Nat.beq p.2)))&&below ops.size fun i=>Nat.beq i j || uW ops ds i j)&&Nat.beq sch.length ops.size&&yf ops ds sch
def qx (tb:List (Nat × Nat × List Nat)) (id:Nat) (ops:Array Oper):Bool:=
 match td tb id with
 | some (m,ds)=>bif Nat.ble 256 m then wq ops (ds.take (m - 256)) (dec (ds.drop (m - 256))) else(Nat.ble m ops.size&&below m fun j=>match(cK ops j).dst with|some d=>ds.any (Nat.beq d)|none=>true)&&wF ops m
 | none=>false
def jH (P:Program) (TE:Nat→Option TI) (N:fq) (ops:Array Oper) (o:Oper) (K:(Nat→AV)→Prop) (F:Nat→AV):Prop:=
 match EI F o with
 | some p=>(match o.dst with|some d=>bif gT ops o p.2 then HQ TE N F d p.1 p.2 K else False|none=>False)
 | none=>iw P TE N ops o K F
def FV (P:Program) (TE:Nat→Option TI) (N:fq) (ops:Array Oper):Nat→List Oper→((Nat→AV)→Prop)→(Nat→AV)→Prop
 | 0,l,K,F=>DU P TE N ops l K F
 | _+1,[],K,F=>K F
 | m+1,o::l,K,F=>jH P TE N ops o (FV P TE N ops m l K) F
def GX (ds:List Nat) (t:Nat):Bool:=ds.any (Nat.beq t)
def J5 (ds:List Nat):AV→AV
 | .ref t off st=>bif GX ds t then .dead else .ref t off st
 | .bor t off st ag=>bif GX ds t then .dead else .bor t off st ag
 | .fn f caps=>bif caps.any (GX ds) then .dead else .fn f caps
 | .hold k cs=>.hold k cs
 | .iref r off=>.iref r off
 | .fv Ok=>.fv Ok
 | .dead=>.dead
def clr (ds:List Nat) (F:Nat→AV):Nat→AV:=fun t=>J5 ds (F t)
theorem xb (ds:List Nat) (F:Nat→AV) (t:Nat):clr ds F t=bif ds.any (fun d=>(F t).uses d) then .dead else F t:=by
 unfold clr
 cases F t with
 | dead=>cases ds.any fun d=>AV.uses d .dead<;>rfl
 | hold k cs=>
  have:ds.any (fun d=>(AV.hold k cs).uses d)=false:=by
   rw[←Bool.not_eq_true,List.any_eq_true]
   rintro⟨d,_,h⟩
   cases h
  rw[this];rfl
 | iref r off=>
  have:ds.any (fun d=>(AV.iref r off).uses d)=false:=by
   rw[←Bool.not_eq_true,List.any_eq_true]
   rintro⟨d,_,h⟩
   cases h
  rw[this];rfl
 | fv Ok=>
  have:ds.any (fun d=>(AV.fv Ok).uses d)=false:=by
   rw[←Bool.not_eq_true,List.any_eq_true]
   rintro⟨d,_,h⟩
   cases h
  rw[this];rfl
 | ref t' off st=>rfl
 | bor t' off st ag=>rfl
 | fn f caps=>
  have:ds.any (fun d=>(AV.fn f caps).uses d)=caps.any (GX ds):=by
   rw[Bool.eq_iff_iff,List.any_eq_true,List.any_eq_true]
   constructor
   ·rintro⟨d,hd,h⟩
    simp only[AV.uses,List.any_eq_true]at h
    obtain⟨c,hc,he⟩:=h
    exact⟨c,hc,List.any_eq_true.2 ⟨d,hd,he⟩⟩
   ·rintro⟨c,hc,h⟩
    obtain⟨d,hd,he⟩:=List.any_eq_true.1 h
    exact⟨d,hd,by simp only[AV.uses,List.any_eq_true];exact⟨c,hc,he⟩⟩
  rw[this];rfl
inductive Sm (a b:AV) (K:Prop):Prop
 |mk_ (h:a=b∧K)
theorem Sm.rf {a:AV} {K:Prop} (h:K):Sm a a K:=.mk_ ⟨rfl,h⟩
theorem Sm.out {a b:AV} {K:Prop} (h:Sm a b K):a=b∧K:=h.1
def Jb (P:Program) (TE:Nat→Option TI) (ops:Array Oper) (p:Nat) (K:Prop) (F:Nat→AV):Prop:=
 match(cK ops p).dst with
 | none=>False
 | some d=>(match EI F (cK ops p) with
   | some _=>False
   | none=>du P TE F (cK ops p).op fun av=>Sm av (F d) K)
def F5 (P:Program) (TE:Nat→Option TI) (ops:Array Oper):List Nat→Prop→(Nat→AV)→Prop
 | [],K,_=>K
 | p::l,K,F=>Jb P TE ops p (F5 P TE ops l K F) F
def Eg (P:Program) (TE:Nat→Option TI) (N:fq) (ops:Array Oper) (ds:List Nat):List (Nat × List Nat)→((Nat→AV)→Prop)→(Nat→AV)→Prop
 | [],K,F=>K F
 | k::l,K,F=>bif ns ds (cK ops k.1) then jH P TE N ops (cK ops k.1) (Eg P TE N ops ds l K) F else lZ P TE N ops (cK ops k.1) (fun F1=>F5 P TE ops k.2 (Eg P TE N ops ds l K F1) F1) F
def GG:List Nat→(List Nat→Prop)→Prop
 | [],K=>K []
 | a::l,K=>GG l fun l'=>K (a::l')
theorem Di:∀ (l:List Nat) (K:List Nat→Prop),GG l K=K l
 | [],_=>rfl
 | a::l,K=>by rw[GG,Di l]
def DD (P:Program) (TE:Nat→Option TI) (N:fq) (tb:List (Nat × Nat × List Nat)) (id:Nat) (ops:Array Oper) (K:(Nat→AV)→Prop) (F:Nat→AV):Prop:=
 match td tb id with
 | some (m,ds)=>bif Nat.ble 256 m then GG (ds.take (m - 256)) fun ds'=>Eg P TE N ops ds' (dec (ds.drop (m - 256))) K (clr ds' F) else FV P TE N ops m ops.toList K (clr ds F)
 | none=>False
theorem fb {n:Nat} {p:Nat→Bool} (h:below n p=true) {i:Nat} (hi:i<n):p i=true:=List.all_eq_true.1 h i (List.mem_range.2 hi)
theorem bJ {o:Oper} {i:Nat} : cw o i=true↔∃ e,e∈o.after∧Region.binds .any e=true∧e.on=i:=by
 unfold cw
 rw[List.any_eq_true]
 constructor
 ·rintro⟨e,he,hb⟩
  simp only[Bool.and_eq_true]at hb
  exact⟨e,by simpa using he,hb.1,Nat.eq_of_beq_eq_true hb.2⟩
 ·rintro⟨e,he,hb,rfl⟩
  exact⟨e,by simpa using he,by rw[hb,Nat.beq_refl];rfl⟩
theorem aR {ops:Array Oper} {i:Nat} {o:Oper} (h:ops[i]? = some o):cK ops i=o:=by simp[cK,Array.getD_eq_getD_getElem?,h]
section
variable {P:Program} {w0 w w1:World} {M S0 S:ab} {N:fq} {φ:Nat→ab} {F:Nat→AV} {a:Act} {TE:Nat→Option TI} {ops:Array Oper}
theorem pR {d:Nat} {b:Bool} (hF:F d=.hold .one [.v (.bool b)]):yy F d b=F:=by
 funext t
 unfold yy
 cases ht:Nat.beq t d with
 | true=>have:=Nat.eq_of_beq_eq_true ht;subst this;rw[hF];rfl
 | false=>rfl
theorem fa (o:Oper) (t:Nat) (h:t∈cV o.op):t∈o.looksAt ops:=by
 unfold Oper.looksAt
 refine List.mem_append_left _ ?_
 unfold cV at h
 obtain⟨x,hx,ht⟩:=List.mem_flatMap.1 h
 refine List.mem_filterMap.2 ⟨x,hx,?_⟩
 cases x with
 | tmp t'=>simp[tm]at ht;subst ht;rfl
 | _=>simp[tm]at ht
structure JF (P:Program) (TE:Nat→Option TI) (N:fq) (ops:Array Oper) (o:Oper) (F:Nat→AV) (d:Nat) (av:AV):Prop where
 dst:o.dst=some d
 lt:N.free d=true
 self:av.uses d=false
 from_:dB F (o.looksAt ops) av
 at_:∀ F':Nat→AV,gG F F' (o.looksAt ops)→∀ K':(Nat→AV)→Prop,K' (put F' d av)→iw P TE N ops o K' F'
theorem gG.refl (F:Nat→AV) (ts:List Nat):gG F F ts:=fun _ _=>⟨rfl,fun _ _ _ _ h=>h⟩
theorem BC {o:Oper} {K:(Nat→AV)→Prop} (h:iw P TE N ops o K F):∃ d av,JF P TE N ops o F d av∧K (put F d av):=by
 cases hd:o.dst with
 | none=>
  exfalso
  unfold iw at h
  rw[hd]at h
  unfold fw at h
  cases hg:o.guard with
  | none=>rw[hg]at h;exact h
  | some p=>
   obtain⟨j,want⟩:=p
   rw[hg]at h
   simp only at h
   cases hj:(ops[j]?).bind (·.dst) with
   | none=>rw[hj]at h;exact h
   | some dg=>
    rw[hj]at h
    simp only at h
    split at h
    ·rename_i b _
     replace h:=Bf.out h
     cases b<;>cases want<;>exact h
    ·exact h
    ·exact h
 | some d=>
  have put1:∀ {F':Nat→AV} {av:AV} {K':(Nat→AV)→Prop},N.free d=true→av.uses d=false→K' (put F' d av)→bA N F' d av K':=fun h1 h2 h3=>by unfold bA;rw[h1,h2];exact h3
  have put2:∀ {F':Nat→AV} {av:AV} {K':(Nat→AV)→Prop},bA N F' d av K'→N.free d=true∧av.uses d=false∧K' (put F' d av):=fun {F' av K'} hp=>by
   unfold bA at hp
   cases hc:(N.free d&&!av.uses d) with
   | false=>rw[hc]at hp;exact hp.elim
   | true=>
    rw[hc]at hp
    simp only[Bool.and_eq_true,Bool.not_eq_true']at hc
    exact⟨hc.1,hc.2,hp⟩
  have pure1:du P TE F o.op (fun av=>bA N F d av K)→∃ av,N.free d=true∧av.uses d=false∧K (put F d av)∧dB F (o.looksAt ops) av∧∀ F':Nat→AV,gG F F' (o.looksAt ops)→∀ K':(Nat→AV)→Prop,K' (put F' d av)→du P TE F' o.op (fun av=>bA N F' d av K'):=fun hp=>by
   obtain⟨av,h1,h2,h3⟩:=kC hp
   obtain⟨p1,p2,p3⟩:=put2 h1
   refine⟨av,p1,p2,p3,h2.mono fun t ht=>fa o t ht,fun F' hA K' hK=>?_⟩
   exact h3 F' (hA.mono fun t ht=>fa o t ht) _ (put1 p1 p2 hK)
  unfold iw at h
  rw[hd]at h
  unfold fw at h
  cases hg:o.guard with
  | none=>
   rw[hg]at h
   obtain⟨av,p1,p2,p3,p4,p5⟩:=pure1 h
   exact⟨d,av,⟨hd,p1,p2,p4,fun F' hA K' hK=>by unfold iw fw;rw[hg,hd];exact p5 F' hA K' hK⟩,p3⟩
  | some p=>
   obtain⟨j,want⟩:=p
   rw[hg]at h
   simp only at h
   cases hj:(ops[j]?).bind (·.dst) with
   | none=>rw[hj]at h;exact h.elim
   | some dg=>
    rw[hj]at h
    simp only at h
    have hdg:dg∈o.looksAt ops:=by
     unfold Oper.looksAt
     rw[hg]
     simp only[hj,Option.toList_some]
     simp
    split at h
    case h_3=>exact h.elim
    case h_2=>
     rename_i sh cs hFd
     obtain⟨p1,p2,p3⟩:=put2 h
     refine⟨d,.hold (.tup []) [],⟨hd,p1,p2,(fun d hd=>by cases hd),fun F' hA K' hK=>?_⟩,p3⟩
     unfold iw fw
     rw[hg,hd]
     simp only
     rw[hj]
     simp only
     rw[(hA dg hdg).1.trans hFd]
     exact put1 p1 p2 hK
    rename_i b hFd
    have same:∀ {F':Nat→AV},gG F F' (o.looksAt ops)→F' dg=.hold .one [.v (.bool b)]:=fun hA=>(hA dg hdg).1.trans hFd
    have back:∀ {F':Nat→AV} {K':(Nat→AV)→Prop},gG F F' (o.looksAt ops)→(b=want→du P TE F' o.op (fun av=>bA N F' d av K'))→(b = !want→bA N F' d (.hold (.tup []) []) K')→iw P TE N ops o K' F':=fun {F' K'} hA h1 h2=>by
     unfold iw fw
     rw[hg,hd]
     simp only
     rw[hj]
     simp only
     rw[same hA]
     simp only
     refine Bf.P (fun hb=>?_) (fun hb=>?_)
     ·subst hb
      rw[pR (same hA)]
      cases want with
      | true=>exact h1 rfl
      | false=>exact h2 rfl
     ·subst hb
      rw[pR (same hA)]
      cases want with
      | true=>exact h2 rfl
      | false=>exact h1 rfl
    have hset:=pR hFd
    replace h:=Bf.out h
    by_cases hbw:b=want
    ·have hp:du P TE F o.op (fun av=>bA N F d av K):=by
      subst hbw
      cases b with
      | true=>have:=h;rw[hset]at this;exact this
      | false=>have:=h;rw[hset]at this;exact this
     obtain⟨av,p1,p2,p3,p4,p5⟩:=pure1 hp
     exact⟨d,av,⟨hd,p1,p2,p4,fun F' hA K' hK=>back hA (fun _=>p5 F' hA K' hK) (fun e=>by subst hbw;cases b<;>cases e)⟩,p3⟩
    ·have hp:bA N F d (.hold (.tup []) []) K:=by
      cases b<;>cases want<;>first|exact absurd rfl hbw|skip
      ·have:=h;rw[hset]at this;exact this
      ·have:=h;rw[hset]at this;exact this
     obtain⟨p1,p2,p3⟩:=put2 hp
     exact⟨d,.hold (.tup []) [],⟨hd,p1,p2,(fun d hd=>by cases hd),fun F' hA K' hK=>back hA (fun e=>absurd e hbw) (fun _=>put1 p1 p2 hK)⟩,p3⟩
def aft:AV→AV
 | .hold k cs=>.hold k (splice cs 0 (List.replicate cs.length .x))
 | _=>.hold .one [.x]
theorem Gt (v:AV) (e:Nat):(aft v).uses e=false:=by unfold aft;split<;>rfl
def eff (mv:Option Nat) (d:Nat) (av:AV) (F:Nat→AV):Nat→AV:=fun t=>if t=d then av else if mv=some t then aft (F t) else F t
theorem wo {d:Nat} (av:AV) (hc:∀ t,(F t).uses d=false):put F d av=eff none d av F:=by
 funext t
 unfold eff
 by_cases h:t=d
 ·subst h;rw[kG,if_pos rfl]
 ·rw[fo _ _ h,if_neg h,if_neg (fun e=>by cases e),vE,hc t];rfl
theorem HD {s:Nat} {v:AV} (h:v.uses s=false):pa s v=v:=by
 cases v with
 | bor t off st ag=>simp only[AV.uses]at h;simp[pa,h]
 | ref t off st=>simp only[AV.uses]at h;cases st<;>simp[pa,h]
 | _=>rfl
theorem Gn {d s:Nat} {k:Kd} {cs:List C} (av:AV) (hF:F s=.hold k cs) (hc:∀ t,(F t).uses d=false) (hs:∀ t,(F t).uses s=false):put (updH F s k (splice cs 0 (List.replicate cs.length .x))) d av=eff (some s) d av F:=by
 funext t
 unfold eff
 by_cases h:t=d
 ·subst h;rw[kG,if_pos rfl]
 ·rw[fo _ _ h,if_neg h]
  by_cases h2:t=s
  ·subst h2;rw[fg,if_pos rfl,hF];rfl
  ·rw[if_neg (fun e=>h2 (by simpa using e.symm))]
   unfold updH
   rw[show Nat.beq t s=false by rw[←Bool.not_eq_true,Nat.beq_eq];exact h2]
   simp only[cond_false]
   rw[HD (hs t),vE,hc t];rfl
theorem AR {d T s:Nat} {k:Kd} {c:C} {K:(Nat→AV)→Prop} (hk:k=.one∨k=.agg) (hF:F s=.hold k [c]) (hc:dU c=true) (h:gw TE N F d T 1 [(0,.tmp s)] K) :
  ∃ av,N.free d=true∧(∀ e,av.uses e=false)∧K (put (updH F s k [.x]) d av)∧∀ (F':Nat→AV) (K':(Nat→AV)→Prop),F' s=.hold k [c]→K' (put (updH F' s k [.x]) d av)→gw TE N F' d T 1 [(0,.tmp s)] K':=by
 have key:∀ F':Nat→AV,F' s=.hold k [c]→∀ K':(Nat→AV)→Prop,gw TE N F' d T 1 [(0,.tmp s)] K'=D0 TE T fun _ ie=>bif Nat.ble (1*ie.size) 16777216 then(bif Nat.beq 1 ie.size&&Nat.ble (0*ie.size+ie.size) (rep ie.zero 1).length then bA N (updH F' s k [.x]) d (.hold .one [.s .own (chunk ie.size 1 (splice (rep ie.zero 1) (0*ie.size) [c]))]) K' else False) else False:=by
  intro F' hF' K'
  unfold gw
  congr 1
  funext e ie
  rcases hk with rfl|rfl<;>simp only[dM,fillW,J6,ra,lW,hF',gx,aQ,hc,cond_true,cond_false,fu,ow,List.length_singleton,List.replicate]
  all_goals rfl
 rw[key F hF]at h
 obtain⟨e,ie,h1,hsel⟩:=iV h
 cases hb1:Nat.ble (1*ie.size) 16777216 with
 | false=>rw[hb1]at h1;exact h1.elim
 | true=>
  cases hb2:(Nat.beq 1 ie.size&&Nat.ble (0*ie.size+ie.size) (rep ie.zero 1).length) with
  | false=>rw[hb1,hb2]at h1;exact h1.elim
  | true=>
   rw[hb1,hb2]at h1
   simp only[cond_true]at h1
   unfold bA at h1
   cases hfr:N.free d with
   | false=>rw[hfr]at h1;exact h1.elim
   | true=>
    rw[hfr]at h1
    refine⟨_,rfl,fun _=>rfl,h1,fun F' K' hF' hK=>?_⟩
    rw[key F' hF']
    refine hsel _ ?_
    simp only[hb1,hb2,cond_true]
    unfold bA
    rw[hfr]
    exact hK
theorem H5 {d s:Nat} {T:Option Nat} {k:Kd} {cs:List C} {K:(Nat→AV)→Prop} (hF:F s=.hold k cs) (ho:own1 T k cs=true) (h:HQ TE N F d T s K) :
  ∃ av,N.free d=true∧(∀ e,av.uses e=false)∧K (put (updH F s k (splice cs 0 (List.replicate cs.length .x))) d av)∧∀ (F':Nat→AV) (K':(Nat→AV)→Prop),F' s=.hold k cs→K' (put (updH F' s k (splice cs 0 (List.replicate cs.length .x))) d av)→HQ TE N F' d T s K':=by
 cases T with
 | some T=>
  have h1:(k=.one∨k=.agg)∧∃ c,cs=[c]∧dU c=true:=by
   unfold own1 at ho
   cases k with
   | one=>match cs,ho with|[c],ho=>exact⟨.inl rfl,c,rfl,ho⟩
   | agg=>match cs,ho with|[c],ho=>exact⟨.inr rfl,c,rfl,ho⟩
   | _=>cases ho
  obtain⟨hk,c,rfl,hc⟩:=h1
  exact AR hk hF hc h
 | none=>
  have h1:∃ sh,k=.tup sh∧aQ cs=false:=by
   unfold own1 at ho
   cases k with
   | tup sh=>exact⟨sh,rfl,by simpa using ho⟩
   | _=>cases ho
  obtain⟨sh,rfl,hn⟩:=h1
  have key:∀ F':Nat→AV,F' s=.hold (.tup sh) cs→∀ K',HQ TE N F' d none s K'=bA N (updH F' s (.tup sh) (splice cs 0 (List.replicate cs.length .x))) d (.hold (.tup sh) cs) K':=fun F' hF' K'=>by
   simp only[HQ,gn,hF',hn,cond_false]
  rw[key F hF]at h
  unfold bA at h
  cases hfr:N.free d with
  | false=>rw[hfr]at h;exact h.elim
  | true=>
   rw[hfr]at h
   refine⟨_,rfl,fun _=>rfl,h,fun F' K' hF' hK=>?_⟩
   rw[key F' hF']
   unfold bA
   rw[hfr]
   exact hK
structure Yl (P:Program) (TE:Nat→Option TI) (N:fq) (ops:Array Oper) (o:Oper) (F:Nat→AV) (mv:Option Nat) (d:Nat) (av:AV):Prop where
 dst:o.dst=some d
 lt:N.free d=true
 self:av.uses d=false
 from_:dB F (o.looksAt ops) av
 mvl:∀ s,mv=some s→o.guard=none∧(∃ T,ma o.op=some (T,s))∧gT ops o s=true
 at_:∀ F':Nat→AV,gG F F' (o.looksAt ops)→(∀ t,(F' t).uses d=false)→(∀ s,mv=some s→∀ t,(F' t).uses s=false)→∀ K':(Nat→AV)→Prop,K' (eff mv d av F')→jH P TE N ops o K' F'
theorem Dn {o:Op} {T:Option Nat} {s:Nat} (h:ma o=some (T,s)):(∃ T' ps,T=some T'∧o=.buildSlice T' 1 ps∧ps.toList=[(0,.tmp s)])∨(T=none∧o=.move (.tmp s)):=by
 unfold ma at h
 split at h
 ·split at h
  ·rename_i T' ps s' hps
   simp only[Option.some.injEq,Prod.mk.injEq]at h
   obtain⟨rfl,rfl⟩:=h
   exact .inl ⟨_,_,rfl,rfl,hps⟩
  ·cases h
 ·simp only[Option.some.injEq,Prod.mk.injEq]at h
  obtain⟨rfl,rfl⟩:=h
  exact .inr ⟨rfl,rfl⟩
 ·cases h
theorem cr {o:Oper} {T:Option Nat} {s:Nat} (h:ma o.op=some (T,s)):s∈o.looksAt ops:=by
 refine fa o s ?_
 unfold cV
 refine List.mem_flatMap.2 ⟨.tmp s,?_,by simp[tm]⟩
 rcases Dn h with⟨T',ps,-,h1,h2⟩|⟨-,h1⟩
 ·rw[h1]
  simp only[Op.operands]
  have:ps = #[(0,.tmp s)]:=Array.ext' (by rw[h2])
  subst this
  simp
 ·rw[h1];simp[Op.operands]
theorem zJ {o:Oper} {p:Option Nat × Nat} (h:EI F o=some p):o.guard=none∧ma o.op=some p∧∃ k cs,F p.2=.hold k cs∧own1 p.1 k cs=true:=by
 unfold EI at h
 split at h
 ·cases h
 rename_i hg
 split at h
 ·cases h
 rename_i p' hp
 split at h
 case h_1=>
  rename_i k cs hF
  cases hb:own1 p'.1 k cs with
  | false=>rw[hb]at h;cases h
  | true=>
   rw[hb]at h
   simp only[cond_true,Option.some.injEq]at h
   subst h
   exact⟨hg,hp,_,_,hF,hb⟩
 all_goals cases h
theorem rz {F':Nat→AV} {o:Oper} (hA:gG F F' (o.looksAt ops)):EI F' o=EI F o:=by
 unfold EI
 cases hg:o.guard with
 | some _=>rfl
 | none=>
  cases hm:ma o.op with
  | none=>rfl
  | some p=>simp only;rw[(hA p.2 (cr hm)).1]
theorem mV {o:Oper} {K:(Nat→AV)→Prop} (h:jH P TE N ops o K F) (hc:∀ d,o.dst=some d→∀ t,(F t).uses d=false) (hs:∀ T s,o.guard=none→ma o.op=some (T,s)→gT ops o s=true→∀ t,(F t).uses s=false) :
  ∃ mv d av,Yl P TE N ops o F mv d av∧K (eff mv d av F):=by
 unfold jH at h
 cases hm:EI F o with
 | none=>
  rw[hm]at h
  obtain⟨d,av,hy,hK⟩:=BC h
  refine⟨none,d,av,⟨hy.dst,hy.lt,hy.self,hy.from_,fun s hs=>(by cases hs),fun F' hA hd _ K' hK'=>?_⟩,by rw[←wo av (hc d hy.dst)];exact hK⟩
  unfold jH
  rw[rz hA,hm]
  exact hy.at_ F' hA K' (by rw[wo av hd];exact hK')
 | some p=>
  rw[hm]at h
  obtain⟨hg,hmo,k,cs,hF,hown⟩:=zJ hm
  simp only at h
  cases hd:o.dst with
  | none=>rw[hd]at h;exact h.elim
  | some d=>
   rw[hd]at h
   simp only at h
   cases hso:gT ops o p.2 with
   | false=>rw[hso]at h;exact h.elim
   | true=>
    rw[hso]at h
    simp only[cond_true]at h
    obtain⟨av,h1,h2,h3,h4⟩:=H5 hF hown h
    refine⟨some p.2,d,av,⟨hd,h1,h2 d,fun e he=>(by rw[h2 e]at he;cases he),fun s hs=>?_,fun F' hA hd' hs' K' hK'=>?_⟩,?_⟩
    ·simp only[Option.some.injEq]at hs
     subst hs
     exact⟨hg,⟨p.1,hmo⟩,hso⟩
    ·unfold jH
     rw[rz hA,hm]
     simp only
     rw[hd]
     simp only
     rw[hso]
     refine h4 F' K' ((hA p.2 (cr hmo)).1.trans hF) ?_
     rw[Gn av ((hA p.2 (cr hmo)).1.trans hF) hd' (hs' p.2 rfl)]
     exact hK'
    ·rw[←Gn av hF (hc d hd) (hs p.1 p.2 hg hmo hso)]
     exact h3
end
end Go.Proofs.YtogajjgmcnjkbaaGreat.Ab
namespace Go.Proofs.YtogajjgmcnjkbaaGreat.Ab
open Go.RowKit
section
variable {P:Program} {w0 w w1:World} {M S0 S:ab} {N:fq} {φ:Nat→ab} {F:Nat→AV} {a:Act} {TE:Nat→Option TI} {ops:Array Oper}
def tj (P:Program) (TE:Nat→Option TI) (N:fq) (ops:Array Oper) (m i:Nat) (K:(Nat→AV)→Prop) (F:Nat→AV):Prop:=
 match ops[i]? with
 | none=>K F
 | some o=>if i<m then jH P TE N ops o K F else lZ P TE N ops o K F
def BG (P:Program) (TE:Nat→Option TI) (N:fq) (ops:Array Oper) (m:Nat) (K:(Nat→AV)→Prop):Nat→Array Bool→(Nat→AV)→Prop
 | 0,listed,F=>Region.ready .any ops listed=[]∧K F
 | fuel+1,listed,F=>(Region.ready .any ops listed=[]→K F)∧∀ i,i∈Region.ready .any ops listed→tj P TE N ops m i (BG P TE N ops m K fuel (listed.setIfInBounds i true)) F
theorem aZ.oneP0 (h:aZ w0 M S0 N S φ F a w) (hTE:∀ t i,TE t=some i→b9 P t i) {o:Oper} {K:(Nat→AV)→Prop} (hp:iw P TE N ops o K F)
  {Kc:Act→World→Prop} {Q:Exit→Act→World→Prop} (hk:∀ F' a' w',K F'→St w0 M S0 N F' a' w'→Kc a' w') :
  if Region.wanted o (yielded ops a.tmps) then o.wp P a w Kc Q else Kc (a.put o.dst undef) w:=by
 unfold iw at hp
 rcases tl h hp with⟨hw,hp⟩|⟨hw,hp⟩
 ·rw[hw,if_pos rfl]
  cases hd:o.dst with
  | none=>rw[hd]at hp;exact hp.elim
  | some d=>
   rw[hd]at hp
   obtain⟨av,hK,hy⟩:=h.pure_ hTE hp
   refine hy Kc Q fun v w' hn=>?_
   obtain⟨F',hK',hst⟩:=h.putD_new hn hK
   rw[hd]
   exact hk F' _ w' hK' hst
 ·rw[hw,if_neg (by simp)]
  cases hd:o.dst with
  | none=>rw[hd]at hp;exact hp.elim
  | some d=>
   rw[hd]at hp
   obtain⟨F',hK,hst⟩:=h.putD_new (v:=undef) (kH.same (av:=.hold (.tup []) []) Fr) hp
   exact hk F' _ w hK hst
theorem Eh {o:Oper} {p:Option Nat × Nat} {d:Nat} {K:(Nat→AV)→Prop} (hm:EI F o=some p) (hd:o.dst=some d) (h:HQ TE N F d p.1 p.2 K):lZ P TE N ops o K F:=by
 obtain⟨hg,hmo,-⟩:=zJ hm
 obtain⟨T,s⟩:=p
 rcases Dn hmo with⟨T',ps,rfl,h1,h2⟩|⟨rfl,h1⟩
 ·unfold lZ fw
  rw[hg]
  simp only
  rw[h1]
  simp only[Gl]
  rw[hd]
  simp only[ot,h2]
  exact h
 ·unfold lZ fw
  rw[hg]
  simp only
  rw[h1]
  simp only[Gl]
  rw[hd]
  simp only[ot]
  exact h
theorem aZ.oneP (h:aZ w0 M S0 N S φ F a w) (hTE:∀ t i,TE t=some i→b9 P t i) {o:Oper} {K:(Nat→AV)→Prop} (hp:jH P TE N ops o K F)
  {Kc:Act→World→Prop} {Q:Exit→Act→World→Prop} (hk:∀ F' a' w',K F'→St w0 M S0 N F' a' w'→Kc a' w') :
  if Region.wanted o (yielded ops a.tmps) then o.wp P a w Kc Q else Kc (a.put o.dst undef) w:=by
 unfold jH at hp
 cases hm:EI F o with
 | none=>rw[hm]at hp;exact h.oneP0 hTE hp hk
 | some p=>
  rw[hm]at hp
  simp only at hp
  cases hd:o.dst with
  | none=>rw[hd]at hp;exact hp.elim
  | some d=>
   rw[hd]at hp
   simp only at hp
   cases hso:gT ops o p.2 with
   | false=>rw[hso]at hp;exact hp.elim
   | true=>
    rw[hso]at hp
    have:=h.one hTE (Eh (P:=P) (ops:=ops) hm hd hp) (Q:=Q) hk
    rw[hd]at this
    exact this
theorem Ah (hTE:∀ t i,TE t=some i→b9 P t i) {m i:Nat} {K:(Nat→AV)→Prop} (hp:tj P TE N ops m i K F) (hs:St w0 M S0 N F a w) {Kc:Act→World→Prop} {Q:Exit→Act→World→Prop}
  (hk:∀ F' a' w',K F'→St w0 M S0 N F' a' w'→Kc a' w'):wpOp P ops Q i Kc a w:=by
 unfold tj at hp
 unfold wpOp
 cases ho:ops[i]? with
 | none=>rw[ho]at hp;exact hk F a w hp hs
 | some o=>
  rw[ho]at hp
  simp only at hp ⊢
  obtain⟨S,φ,h⟩:=hs
  have:if Region.wanted o (yielded ops a.tmps) then o.wp P a w Kc Q else Kc (a.put o.dst undef) w:=by
   split at hp
   ·exact h.oneP hTE hp hk
   ·exact h.one hTE hp hk
  split
  ·rename_i hw;rw[if_pos hw]at this;exact .inl this
  ·rename_i hw;rw[if_neg hw]at this;exact this
theorem vq (hTE:∀ t i,TE t=some i→b9 P t i) {m:Nat} {K:(Nat→AV)→Prop} {Q:Exit→Act→World→Prop} (hk:∀ F' a' w',K F'→St w0 M S0 N F' a' w'→Q .normal a' w') :
  ∀ (fuel:Nat) (listed:Array Bool) (F:Nat→AV) (a:Act) (w:World),BG P TE N ops m K fuel listed F→St w0 M S0 N F a w→wpAny P .any ops Q fuel listed a w
 | 0,_,F,a,w,hp,hs=>⟨hp.1,hk F a w hp.2 hs⟩
 | fuel+1,_,F,a,w,hp,hs=>⟨fun h0=>hk F a w (hp.1 h0) hs,fun i hi=>Ah hTE (hp.2 i hi) hs fun F' a' w' hK hs'=>vq hTE hk fuel _ F' a' w' hK hs'⟩
structure vN (ops:Array Oper) (m:Nat) (F:Nat→AV) (listed:Array Bool):Prop where
 dst:∀ j o d,j<m→ops[j]? = some o→listed.getD j true=false→o.dst=some d→∀ t,(F t).uses d=false
 mv:∀ j o T s,j<m→ops[j]? = some o→listed.getD j true=false→o.guard=none→ma o.op=some (T,s)→gT ops o s=true→∀ t,(F t).uses s=false
def DC (ops:Array Oper) (listed:Array Bool):Prop:=∀ j oj,ops[j]? = some oj→listed.getD j false=true→∀ k,cw oj k=true→listed.getD k false=true
theorem Hj {d e:Nat} {v:AV} (h:(kl d v).uses e=true):v.uses e=true∧v.uses d=false:=by
 rw[vE]at h
 cases hd:v.uses d with
 | true=>rw[hd]at h;cases h
 | false=>rw[hd]at h;exact⟨h,rfl⟩
theorem rJ {α:Type} {p:α→Bool} : ∀ {l:List α} {i j:Nat} {x y:α},(l.filter p).length≤1→l[i]? = some x→l[j]? = some y→p x=true→p y=true→i=j
 | [],_,_,_,_,_,h,_,_,_=>by simp at h
 | a::l,0,0,_,_,_,_,_,_,_=>rfl
 | a::l,i+1,j+1,x,y,h,hx,hy,px,py=>by
  rw[rJ (l:=l) (Nat.le_trans (List.Sublist.length_le ((List.sublist_cons_self a l).filter p)) h) hx hy px py]
 | a::l,0,j+1,x,y,h,hx,hy,px,py=>by
  simp only[List.getElem?_cons_zero,Option.some.injEq]at hx
  subst hx
  rw[List.filter_cons_of_pos px]at h
  have:y∈l.filter p:=List.mem_filter.2 ⟨List.mem_of_getElem? hy,py⟩
  have:=List.length_pos_of_mem this
  rw[List.length_cons]at h;omega
 | a::l,i+1,0,x,y,h,hx,hy,px,py=>by
  simp only[List.getElem?_cons_zero,Option.some.injEq]at hy
  subst hy
  rw[List.filter_cons_of_pos py]at h
  have:x∈l.filter p:=List.mem_filter.2 ⟨List.mem_of_getElem? hx,px⟩
  have:=List.length_pos_of_mem this
  rw[List.length_cons]at h;omega
theorem fY {listed:Array Bool} {j j':Nat} (hl:(listed.setIfInBounds j true).getD j' true=false):j'≠j:=fun e=>by
 subst e
 have hlt:j'<listed.size:=by
  rcases Nat.lt_or_ge j' listed.size with h|h
  ·exact h
  ·simp[Array.getD_eq_getD_getElem?,Array.getElem?_eq_none (show(listed.setIfInBounds j' true).size≤j' by simpa using h)]at hl
 simp[Array.getD_eq_getD_getElem?,hlt]at hl
theorem gY {mv:Option Nat} {d e t:Nat} {av:AV} (hav:av.uses e=false) (hF:(F t).uses e=false):(eff mv d av F t).uses e=false:=by
 unfold eff
 split
 ·exact hav
 ·split
  ·exact Gt _ _
  ·exact hF
theorem vN.put {m j d:Nat} {mv:Option Nat} {listed:Array Bool} {av:AV} (h:vN ops m F listed) (hav:∀ j' o' d',j'<m→j'≠j→ops[j']? = some o'→listed.getD j' true=false→o'.dst=some d'→av.uses d'=false)
  (hmv:∀ j' o' T s,j'<m→j'≠j→ops[j']? = some o'→listed.getD j' true=false→o'.guard=none→ma o'.op=some (T,s)→gT ops o' s=true→av.uses s=false) :
  vN ops m (eff mv d av F) (listed.setIfInBounds j true):=by
 refine⟨fun j' o' d' hm hj' hl hd' t=>?_,fun j' o' T s hm hj' hl hg hmo hso t=>?_⟩
 ·have hne:=fY hl
  rw[getD_set_ne true (Ne.symm hne)]at hl
  exact gY (hav j' o' d' hm hne hj' hl hd') (h.dst j' o' d' hm hj' hl hd' t)
 ·have hne:=fY hl
  rw[getD_set_ne true (Ne.symm hne)]at hl
  exact gY (hmv j' o' T s hm hne hj' hl hg hmo hso) (h.mv j' o' T s hm hj' hl hg hmo hso t)
inductive lQ (ops:Array Oper):Nat→Nat→Prop
 |one {j i:Nat} (h:cw (cK ops j) i=true):lQ ops j i
 |step {j k i:Nat} (h:cw (cK ops j) k=true) (h2:lQ ops k i):lQ ops j i
theorem lQ.trans {i j k:Nat} (h:lQ ops j k) (h2:lQ ops k i):lQ ops j i:=by
 induction h with
 | one h=>exact .step h h2
 | step h _ ih=>exact .step h (ih h2)
theorem zA {i:Nat} : ∀ {ks:List Nat},(yC ks).testBit i=true→i∈ks
 | [],h=>by simp[yC]at h
 | k::ks,h=>by
  rw[yC,Nat.testBit_or,Bool.or_eq_true]at h
  rcases h with h|h
  ·rw[Nat.testBit_two_pow]at h
   rw[decide_eq_true_eq]at h
   rw[h];exact List.mem_cons_self
  ·exact List.mem_cons_of_mem _ (zA h)
theorem sU {o:Oper} {i:Nat} (h:(yC (ons o)).testBit i=true):cw o i=true:=by
 have:=zA h
 unfold ons at this
 obtain⟨e,he,rfl⟩:=List.mem_map.1 this
 rw[List.mem_filter]at he
 exact bJ.2 ⟨e,by simpa using he.1,he.2,rfl⟩
theorem pq {j:Nat} : ∀ (k S:Nat),(∀ i,S.testBit i=true→lQ ops j i)→∀ i,(clo ops k S).testBit i=true→lQ ops j i
 | 0,_,h,i,hi=>h i hi
 | k+1,S,h,i,hi=>by
  rw[clo,Gm]at hi
  cases hb:S.testBit k with
  | false=>rw[hb]at hi;exact pq k S h i hi
  | true=>
   rw[hb]at hi
   refine pq k _ (fun i' hi'=>?_) i hi
   rw[Nat.testBit_or,Bool.or_eq_true]at hi'
   rcases hi' with h'|h'
   ·exact h i' h'
   ·exact(h k hb).trans (.one (sU h'))
theorem lm {listed:Array Bool} (hdc:DC ops listed) (hback:∀ j oj,ops[j]? = some oj→∀ e∈oj.after,Region.binds .any e=true→e.on<j) {j i:Nat} (hr:lQ ops j i):j<ops.size→(∀ k,cw (cK ops j) k=true→listed.getD k false=true)→listed.getD i false=true:=by
 induction hr with
 | one h=>exact fun _ hj=>hj _ h
 | @step j k i h h2 ih=>
  intro hlt hj
  have hk:k<j:=by
   have h0:=(show ops[j]? = some ops[j] from Array.getElem?_eq_getElem hlt)
   rw[aR h0]at h
   obtain⟨e,he1,he2,rfl⟩:=bJ.1 h
   exact hback j _ h0 e he1 he2
  have hk':k<ops.size:=by omega
  have h0:=(show ops[k]? = some ops[k] from Array.getElem?_eq_getElem hk')
  exact ih hk' fun k' hk'=>hdc k _ h0 (hj k h) k' (by rw[aR h0]at hk';exact hk')
theorem DC.put {listed:Array Bool} (h:DC ops listed) {j:Nat} (hj:j∈Region.ready .any ops listed):DC ops (listed.setIfInBounds j true):=by
 obtain⟨h1,oj,hoj,hall⟩:=mem_ready.1 hj
 intro k ok hk hl e he
 by_cases hkj:k=j
 ·subst hkj
  rw[hoj]at hk
  simp only[Option.some.injEq]at hk
  subst hk
  obtain⟨e',he1,he2,rfl⟩:=bJ.1 he
  exact getD_set_true (hall e' he1 he2)
 ·rw[getD_set_ne false (Ne.symm hkj)]at hl
  exact getD_set_true (h k ok hk hl e he)
theorem eI {o:Oper} {s:Nat} (h:gT ops o s=true):(∃ k ok,cw o k=true∧ops[k]? = some ok∧ok.dst=some s)∧∀ (i j:Nat) (oi oj:Oper),ops[i]? = some oi→ops[j]? = some oj→s∈oi.looksAt ops→s∈oj.looksAt ops→i=j:=by
 unfold gT at h
 rw[Bool.and_eq_true]at h
 obtain⟨h1,h2⟩:=h
 constructor
 ·obtain⟨k,hk,hb⟩:=List.any_eq_true.1 h1
  have hlt:=List.mem_range.1 hk
  have h0:=(show ops[k]? = some ops[k] from Array.getElem?_eq_getElem hlt)
  rw[Bool.and_eq_true,aR h0]at hb
  refine⟨k,_,hb.1,h0,?_⟩
  have:=hb.2
  cases hd:ops[k].dst with
  | none=>rw[hd]at this;cases this
  | some a=>rw[hd]at this;simp only at this;rw[Nat.eq_of_beq_eq_true this]
 ·intro i j oi oj hi hj hsi hsj
  have hle:=Nat.le_of_ble_eq_true h2
  have hi':ops.toList[i]? = some oi:=by simpa using hi
  have hj':ops.toList[j]? = some oj:=by simpa using hj
  have pi:(oi.looksAt ops).any (Nat.beq s)=true:=List.any_eq_true.2 ⟨s,hsi,Nat.beq_refl s⟩
  have pj:(oj.looksAt ops).any (Nat.beq s)=true:=List.any_eq_true.2 ⟨s,hsj,Nat.beq_refl s⟩
  generalize ops.toList=l at hle hi' hj'
  exact rJ (p:=fun k:Oper=>(k.looksAt ops).any (Nat.beq s)) hle hi' hj' pi pj
structure J4 (ops:Array Oper) (m:Nat):Prop where
 back:∀ j oj,ops[j]? = some oj→∀ e∈oj.after,Region.binds .any e=true→e.on<j
 tail:∀ j,m≤j→j<ops.size→∀ i,i<j→lQ ops j i
 apart:∀ i j oi oj,i<m→j<m→i≠j→ops[i]? = some oi→ops[j]? = some oj→cw oj i=true∨cw oi j=true∨oi.apart ops oj=true
 look:∀ i j oi oj d,i<m→j<m→i≠j→ops[i]? = some oi→ops[j]? = some oj→oi.dst=some d→d∈oj.looksAt ops→cw oj i=true
theorem zL {m:Nat} (h:wF ops m=true):J4 ops m:=by
 have hb:∀ j oj,ops[j]? = some oj→_:=fun j oj hj=>fb h (Array.getElem?_eq_some_iff.1 hj).1
 refine⟨fun j oj hj e he hbe=>?_,fun j hm hj i hi=>?_,fun i j oi oj hi hj hne h1 h2=>?_,fun i j oi oj d hi hj hne h1 h2 hd hl=>?_⟩
 ·have:=hb j oj hj
  rw[aR hj]at this
  simp only[Bool.and_eq_true]at this
  have:=List.all_eq_true.1 this.1 e (by simpa using he)
  rw[hbe]at this
  simpa[Nat.blt_eq] using this
 ·have hj':=(show ops[j]? = some ops[j] from Array.getElem?_eq_getElem hj)
  have:=hb j _ hj'
  simp only[Bool.and_eq_true]at this
  have h3:=this.2
  rw[show Nat.blt j m=false by rw[←Bool.not_eq_true,Nat.blt_eq];omega]at h3
  simp only[cond_false,Gm]at h3
  exact pq j _ (fun i' hi'=>.one (sU hi')) i (fb h3 hi)
 ·have:=hb j oj h2
  rw[aR h2]at this
  simp only[Bool.and_eq_true]at this
  have h3:=this.2
  rw[show Nat.blt j m=true by simpa[Nat.blt_eq] using hj]at h3
  have h4:=fb h3 hi
  rw[aR h1,show Nat.beq i j=false by rw[←Bool.not_eq_true,Nat.beq_eq];exact hne]at h4
  simp only[Bool.false_or,Bool.and_eq_true,Bool.or_eq_true]at h4
  rcases h4.1 with(h|h)|h
  ·exact .inl h
  ·exact .inr (.inl h)
  ·exact .inr (.inr h)
 ·have:=hb j oj h2
  rw[aR h2]at this
  simp only[Bool.and_eq_true]at this
  have h3:=this.2
  rw[show Nat.blt j m=true by simpa[Nat.blt_eq] using hj]at h3
  have h4:=fb h3 hi
  rw[aR h1,show Nat.beq i j=false by rw[←Bool.not_eq_true,Nat.beq_eq];exact hne]at h4
  simp only[Bool.false_or,Bool.and_eq_true,Bool.or_eq_true]at h4
  rcases h4.2 with h|h
  ·exfalso
   unfold qa at h
   rw[aR h1,hd]at h
   simp only at h
   rw[aR h2]at h
   have:(oj.looksAt ops).any (Nat.beq d)=true:=List.any_eq_true.2 ⟨d,hl,Nat.beq_refl d⟩
   rw[this]at h;cases h
  ·exact h
theorem Ef {m:Nat} (hok:J4 ops m) {i d:Nat} {oi:Oper} {mv:Option Nat} {av:AV} {K:(Nat→AV)→Prop} (hi:ops[i]? = some oi) (him:i<m) :
  ∀ (fuel:Nat) (listed:Array Bool) (F:Nat→AV),i∈Region.ready .any ops listed→vN ops m F listed→DC ops listed→Yl P TE N ops oi F mv d av→BG P TE N ops m K fuel (listed.setIfInBounds i true) (eff mv d av F)→BG P TE N ops m K (fuel+1) listed F:=by
 have self:∀ (listed:Array Bool) (F:Nat→AV),i∈Region.ready .any ops listed→vN ops m F listed→Yl P TE N ops oi F mv d av→∀ K':(Nat→AV)→Prop,K' (eff mv d av F)→jH P TE N ops oi K' F:=fun listed F hr hcl hy K' hK=>by
  have hiun:=(mem_ready.1 hr).1
  refine hy.at_ F (gG.refl _ _) (hcl.dst i oi d him hi hiun hy.dst) (fun s hs=>?_) K' hK
  obtain⟨h1,⟨T,h2⟩,h3⟩:=hy.mvl s hs
  exact hcl.mv i oi T s him hi hiun h1 h2 h3
 intro fuel
 induction fuel with
 | zero=>
  intro listed F hr hcl hdc hy H
  refine⟨fun h=>(by rw[h]at hr;cases hr),fun j hj=>?_⟩
  by_cases hji:j=i
  ·subst hji
   unfold tj
   rw[hi]
   simp only[if_pos him]
   exact self listed F hr hcl hy _ H
  ·have:=ready_mono hj hji
   rw[H.1]at this
   cases this
 | succ fuel ih=>
  intro listed F hr hcl hdc hy H
  refine⟨fun h=>(by rw[h]at hr;cases hr),fun j hj=>?_⟩
  by_cases hji:j=i
  ·subst hji
   unfold tj
   rw[hi]
   simp only[if_pos him]
   exact self listed F hr hcl hy _ H
  ·have h1:=H.2 j (ready_mono hj hji)
   obtain⟨hjun,oj,hoj,hall⟩:=mem_ready.1 hj
   have hiun:=(mem_ready.1 hr).1
   have unl:∀ k,listed.getD k true=false→listed.getD k false=true→False:=fun k h1 h2=>by
    rcases Nat.lt_or_ge k listed.size with h'|h'
    ·simp[h']at h1 h2;rw[h1]at h2;cases h2
    ·simp[Array.getElem?_eq_none h']at h2
   have noedge:∀ k ok,ops[k]? = some ok→listed.getD k true=false→cw oj k=false:=fun k ok hk hkun=>by
    rw[←Bool.not_eq_true]
    intro he
    obtain⟨e,he1,he2,he3⟩:=bJ.1 he
    exact unl k hkun (he3 ▸ hall e he1 he2)
   have noedge':∀ k ok,ops[k]? = some ok→listed.getD k true=false→cw oi k=false:=fun k ok hk hkun=>by
    rw[←Bool.not_eq_true]
    intro he
    obtain⟨e,he1,he2,he3⟩:=bJ.1 he
    obtain⟨-,oi',hoi',hall'⟩:=mem_ready.1 hr
    rw[hi]at hoi'
    simp only[Option.some.injEq]at hoi'
    subst hoi'
    exact unl k hkun (he3 ▸ hall' e he1 he2)
   have hjm:j<m:=by
    rcases Nat.lt_or_ge j m with h|h
    ·exact h
    ·have hjlt:=(Array.getElem?_eq_some_iff.1 hoj).1
     refine(unl i hiun (lm hdc hok.back (hok.tail j h hjlt i (by omega)) hjlt fun k hk=>?_)).elim
     rw[aR hoj]at hk
     obtain⟨e,he1,he2,rfl⟩:=bJ.1 hk
     exact hall e he1 he2
   have hap:oi.apart ops oj=true:=by
    rcases hok.apart i j oi oj him hjm (Ne.symm hji) hi hoj with h|h|h
    ·rw[noedge i oi hi hiun]at h;cases h
    ·rw[noedge' j oj hoj hjun]at h;cases h
    ·exact h
   obtain⟨ap1,ap2,ap3⟩:=Oper.apart_spec hap
   unfold tj at h1 ⊢
   rw[hoj]at h1 ⊢
   simp only[if_pos hjm]at h1 ⊢
   have hdl:d∉oj.looksAt ops:=ap1 d hy.dst
   have cd:∀ t,(F t).uses d=false:=hcl.dst i oi d him hi hiun hy.dst
   have cdj':∀ dj,oj.dst=some dj→∀ t,(F t).uses dj=false:=fun dj hdj=>hcl.dst j oj dj hjm hoj hjun hdj
   have cmv:∀ s,mv=some s→(∀ t,(F t).uses s=false)∧s∉oj.looksAt ops∧s∈oi.looksAt ops:=fun s hs=>by
    obtain⟨g1,⟨T,g2⟩,g3⟩:=hy.mvl s hs
    exact⟨hcl.mv i oi T s him hi hiun g1 g2 g3,fun hl=>hji ((eI g3).2 i j oi oj hi hoj (cr g2) hl).symm,cr g2⟩
   have cmvj:∀ T s,oj.guard=none→ma oj.op=some (T,s)→gT ops oj s=true→(∀ t,(F t).uses s=false)∧s∉oi.looksAt ops∧s∈oj.looksAt ops:=fun T s g1 g2 g3=>
    ⟨hcl.mv j oj T s hjm hoj hjun g1 g2 g3,fun hl=>hji ((eI g3).2 i j oi oj hi hoj hl (cr g2)).symm,cr g2⟩
   have avno:∀ e,e∉oi.looksAt ops→(∀ t,(F t).uses e=false)→av.uses e=false:=fun e h1 h2=>by
    cases hu:av.uses e with
    | false=>rfl
    | true=>
     rcases hy.from_ e hu with h|⟨t,_,h⟩
     ·exact absurd h h1
     ·rw[h2 t]at h;cases h
   obtain⟨mvj,dj,avj,hyj,hKj⟩:=mV h1 (fun dj hdj t=>gY (avno dj (ap3 dj hdj) (cdj' dj hdj)) (cdj' dj hdj t)) (fun T s g1 g2 g3 t=>by
     obtain⟨c1,c2,-⟩:=cmvj T s g1 g2 g3
     exact gY (avno s c2 c1) (c1 t))
   have hdne:d≠dj:=fun e=>ap2 d hy.dst (by rw[hyj.dst,e])
   have hdjl:dj∉oi.looksAt ops:=ap3 dj hyj.dst
   have cdj:∀ t,(F t).uses dj=false:=cdj' dj hyj.dst
   have cmj:∀ s,mvj=some s→(∀ t,(F t).uses s=false)∧s∉oi.looksAt ops∧s∈oj.looksAt ops:=fun s hs=>by
    obtain⟨g1,⟨T,g2⟩,g3⟩:=hyj.mvl s hs
    exact cmvj T s g1 g2 g3
   have lookj:∀ t,t∈oj.looksAt ops→eff mv d av F t=F t:=fun t ht=>by
    unfold eff
    have e1:t≠d:=fun e=>hdl (e ▸ ht)
    have e2:mv≠some t:=fun e=>(cmv t e).2.1 ht
    rw[if_neg e1,if_neg e2]
   have looki:∀ t,t∈oi.looksAt ops→eff mvj dj avj F t=F t:=fun t ht=>by
    unfold eff
    have e1:t≠dj:=fun e=>hdjl (e ▸ ht)
    have e2:mvj≠some t:=fun e=>(cmj t e).2.1 ht
    rw[if_neg e1,if_neg e2]
   have avjno:∀ e,e∉oj.looksAt ops→(∀ t,(F t).uses e=false)→avj.uses e=false:=fun e h1 h2=>by
    cases hu:avj.uses e with
    | false=>rfl
    | true=>
     rcases hyj.from_ e hu with h|⟨t,ht,h⟩
     ·exact absurd h h1
     ·rw[lookj t ht,h2 t]at h;cases h
   have agrj:gG (eff mv d av F) F (oj.looksAt ops):=fun t ht=>by
    rw[lookj t ht]
    refine⟨rfl,fun t' hu k cs hh=>?_⟩
    have hne':t'≠d:=fun e=>by rw[e,cd t]at hu;cases hu
    have hnm:mv≠some t':=fun e=>by rw[(cmv t' e).1 t]at hu;cases hu
    unfold eff at hh
    rw[if_neg hne',if_neg hnm]at hh
    exact hh
   refine hyj.at_ F agrj cdj (fun s hs=>(cmj s hs).1) _ (ih (listed.setIfInBounds j true) (eff mvj dj avj F) (ready_mono hr (Ne.symm hji)) (hcl.put (fun j' o' d' hm' hne' hj' hl' hd'=>?_) (fun j' o' T s hm' hne' hj' hl' g1 g2 g3=>?_)) (hdc.put hj) ?_ ?_)
   ·refine avjno d' (fun h=>?_) (hcl.dst j' o' d' hm' hj' hl' hd')
    have:=hok.look j' j o' oj d' hm' hjm hne' hj' hoj hd' h
    rw[noedge j' o' hj' hl']at this;cases this
   ·exact avjno s (fun h=>hne' ((eI g3).2 j' j o' oj hj' hoj (cr g2) h)) (hcl.mv j' o' T s hm' hj' hl' g1 g2 g3)
   ·refine⟨hy.dst,hy.lt,hy.self,fun e he=>?_,hy.mvl,fun F' hA hd' hs' K' hK=>hy.at_ F' (fun t ht=>?_) hd' hs' K' hK⟩
    ·rcases hy.from_ e he with h|⟨t,ht,h⟩
     ·exact .inl h
     ·exact .inr ⟨t,ht,by rw[looki t ht];exact h⟩
    ·obtain⟨a1,a2⟩:=hA t ht
     rw[looki t ht]at a1 a2
     refine⟨a1,fun t' hu k cs hh=>a2 t' hu k cs ?_⟩
     have hne':t'≠dj:=fun e=>by rw[e,cdj t]at hu;cases hu
     have hnm:mvj≠some t':=fun e=>by rw[(cmj t' e).1 t]at hu;cases hu
     unfold eff
     rw[if_neg hne',if_neg hnm]
     exact hh
   ·rw[Array.setIfInBounds_comm _ _ hji]
    have:eff mv d av (eff mvj dj avj F)=eff mvj dj avj (eff mv d av F):=by
     funext t
     unfold eff
     by_cases e1:t=d
     ·have g1:t≠dj:=fun e=>hdne (e1.symm.trans e)
      have g2:mvj≠some t:=fun e=>hdl (e1 ▸ (cmj t e).2.2)
      simp only[if_pos e1,if_neg g1,if_neg g2]
     ·rw[if_neg e1]
      by_cases e2:t=dj
      ·have g2:mv≠some t:=fun e=>hdjl (e2 ▸ (cmv t e).2.2)
       simp only[if_pos e2,if_neg g2]
      ·simp only[if_neg e2,if_neg e1]
       by_cases e3:mv=some t
       ·by_cases e4:mvj=some t
        ·simp only[if_pos e3,if_pos e4]
        ·simp only[if_pos e3,if_neg e4]
       ·by_cases e4:mvj=some t
        ·simp only[if_neg e3,if_pos e4]
        ·simp only[if_neg e3,if_neg e4]
    rw[this]
    exact hKj
theorem qj {o:Op} {K K':AV→Prop} (h:du P TE F o K) (hk:∀ av,K av→K' av):du P TE F o K':=by
 obtain⟨av,h1,-,h3⟩:=kC h
 exact h3 F (gG.refl _ _) K' (hk av h1)
theorem bF {d:Nat} {av:AV} {K K':(Nat→AV)→Prop} (h:bA N F d av K) (hk:∀ F',K F'→K' F'):bA N F d av K':=by
 unfold bA at h ⊢
 cases hc:(N.free d&&!av.uses d) with
 | false=>rw[hc]at h;exact h.elim
 | true=>rw[hc]at h;exact hk _ h
theorem eG {y:Operand} {K K':(Nat→AV)→Option Nat→List C→Prop} (h:fu F y K) (hk:∀ F' ag cs,K F' ag cs→K' F' ag cs):fu F y K':=by
 cases y with
 | tmp t=>
  simp only[fu]at h ⊢
  cases hF:F t with
  | hold k cs=>
   rw[hF]at h
   cases k with
   | one=>exact hk _ _ _ h
   | agg=>exact hk _ _ _ h
   | _=>exact h.elim
  | bor t2 off st ag=>
   rw[hF]at h
   cases st with
   | cons s st=>
    simp only at h ⊢
    cases hF2:F t2 with
    | hold k cs=>
     rw[hF2]at h
     obtain⟨r,j,e1,e2,e3,hK⟩:=Lq.out h
     exact .mk_ ⟨r,j,_,_,e1,e2,e3,rfl,rfl,hk _ _ _ hK⟩
    | _=>rw[hF2]at h;exact h.elim
   | nil=>
    simp only at h ⊢
    cases hF2:F t2 with
    | hold k cs=>
     rw[hF2]at h
     simp only at h ⊢
     cases hb:Nat.ble (off+ag.getD 1) cs.length with
     | false=>rw[hb]at h;exact h.elim
     | true=>rw[hb]at h;exact hk _ _ _ h
    | _=>rw[hF2]at h;exact h.elim
  | _=>rw[hF]at h;exact h.elim
 | _=>exact h.elim
theorem vu {x:Operand} {K K':AV→Prop} (h:bb F x K) (hk:∀ av,K av→K' av):bb F x K':=by
 obtain⟨av,h1,-,h3⟩:=gM h
 exact h3 F (gG.refl _ _) K' (hk av h1)
theorem zq {d:Nat} {x:Operand} {K K':(Nat→AV)→Prop} (h:iN N F d x K) (hk:∀ F',K F'→K' F'):iN N F d x K':=by
 have m1:∀ y,bb F y (fun av=>bA N F d av K)→bb F y (fun av=>bA N F d av K'):=fun y h=>vu h fun av h=>bF h hk
 have m2:∀ y,fu F y (fun F' ag cs=>bA N F' d (.hold (jK ag) cs) K)→fu F y (fun F' ag cs=>bA N F' d (.hold (jK ag) cs) K'):=fun y h=>eG h fun F' ag cs h=>bF h hk
 cases x with
 | tmp t=>
  unfold iN at h ⊢
  simp only at h ⊢
  cases hF:F t with
  | hold k cs=>
   rw[hF]at h
   cases k with
   | one=>
    simp only at h ⊢
    cases hn:aQ cs with
    | true=>rw[hn]at h;exact m1 (.tmp t) h
    | false=>rw[hn]at h;exact m2 (.tmp t) h
   | agg=>
    simp only at h ⊢
    cases hn:aQ cs with
    | true=>rw[hn]at h;exact m1 (.tmp t) h
    | false=>rw[hn]at h;exact m2 (.tmp t) h
   | tup sh=>exact m1 _ h
   | box=>exact m1 _ h
  | bor=>rw[hF]at h;exact m2 _ h
  | dead=>rw[hF]at h;exact m1 _ h
  | ref=>rw[hF]at h;exact m1 _ h
  | iref=>rw[hF]at h;exact m1 _ h
  | fn=>rw[hF]at h;exact m1 _ h
  | fv=>rw[hF]at h;exact m1 _ h
 | const v=>exact m1 (.const v) h
 | global g=>exact m1 (.global g) h
 | func f=>exact m1 (.func f) h
theorem qh {x:Operand} {cs:List C} {K K':(Nat→AV)→Prop} (h:nz F x cs K) (hk:∀ F',K F'→K' F'):nz F x cs K':=by
 cases x with
 | tmp t=>
  simp only[nz]at h ⊢
  cases hF:F t with
  | hold k bs=>
   rw[hF]at h
   cases k with
   | box=>
    simp only at h ⊢
    cases hb:Nat.ble cs.length bs.length with
    | false=>rw[hb]at h;exact h.elim
    | true=>rw[hb]at h;simp only[cond_true,dM]at h ⊢;exact hk _ h
   | _=>exact h.elim
  | ref t2 off st=>
   rw[hF]at h
   cases st with
   | cons s st=>
    simp only at h ⊢
    cases hF2:F t2 with
    | hold k bs=>
     rw[hF2]at h
     obtain⟨r,j,e1,e2,e3,hK⟩:=Pu.out h
     exact Pu.mk e1 e2 e3 rfl (hk _ hK)
    | _=>rw[hF2]at h;exact h.elim
   | nil=>
    simp only at h ⊢
    cases hF2:F t2 with
    | hold k bs=>
     rw[hF2]at h
     cases k with
     | box=>
      simp only at h ⊢
      cases hb:Nat.ble (off+cs.length) bs.length with
      | false=>rw[hb]at h;exact h.elim
      | true=>rw[hb]at h;simp only[cond_true,dM]at h ⊢;exact hk _ h
     | _=>exact h.elim
    | _=>rw[hF2]at h;exact h.elim
  | _=>rw[hF]at h;exact h.elim
 | _=>exact h.elim
theorem B4 {T:Nat} {x y:Operand} {K K':(Nat→AV)→Prop} (h:lA TE F T x y K) (hk:∀ F',K F'→K' F'):lA TE F T x y K':=by
 unfold lA at h ⊢
 split at h
 ·rename_i i hT
  obtain⟨ag,cs,h1,h2⟩:=cn h
  refine h2 F (gG.refl _ _) _ ?_
  cases hl:Nat.beq cs.length i.size with
  | false=>rw[hl]at h1;exact h1.elim
  | true=>
   rw[hl]at h1
   simp only[cond_true]at h1 ⊢
   cases hn:aQ cs with
   | true=>rw[hn]at h1;exact qh h1 hk
   | false=>
    rw[hn]at h1
    simp only[cond_false]at h1 ⊢
    refine eG h1 fun F' ag' cs' h=>?_
    cases hl':Nat.beq cs'.length i.size with
    | false=>rw[hl']at h;exact h.elim
    | true=>rw[hl']at h;exact qh h hk
 ·exact h.elim
theorem Bw {g:Option (Nat × Bool)} {K1 K0 K1' K0':(Nat→AV)→Prop} (h:fw F ops g K1 K0) (h1:∀ F,K1 F→K1' F) (h0:∀ F,K0 F→K0' F):fw F ops g K1' K0':=by
 unfold fw at h ⊢
 split at h
 ·exact h1 _ h
 ·rename_i j want
  split at h
  ·rename_i d hd
   split at h
   ·rename_i b hF
    replace h:=Bf.out h
    cases b<;>cases want<;>first|exact .in_ (h1 _ h)|exact .in_ (h0 _ h)
   ·exact h0 _ h
   ·exact h.elim
  ·exact h.elim
theorem pP {x:Operand} {K K':(Nat→AV)→Option Nat→List C→Prop} (h:ra F x K) (hk:∀ F' ag cs,K F' ag cs→K' F' ag cs):ra F x K':=by
 obtain⟨ag,cs,h1,h2⟩:=cn h
 refine h2 F (gG.refl _ _) _ ?_
 cases hn:aQ cs with
 | true=>rw[hn]at h1;exact hk _ _ _ h1
 | false=>rw[hn]at h1;exact eG h1 hk
theorem j4 {pl:Nat→Option (Nat × Nat)} : ∀ {parts:List (Nat × Operand)} {cs:List C} {K K':(Nat→AV)→List C→Prop} {F:Nat→AV},fillW pl parts cs K F→(∀ F' cs,K F' cs→K' F' cs)→fillW pl parts cs K' F
 | [],cs,K,K',F,h,hk=>hk _ _ h
 | p::rest,cs,K,K',F,h,hk=>by
  simp only[fillW]at h ⊢
  split at h
  case h_2=>exact h.elim
  rename_i q hq
  refine pP h fun F' ag xs h=>?_
  cases hb:(Nat.beq xs.length q.2&&Nat.ble (q.1+q.2) cs.length) with
  | false=>rw[hb]at h;exact h.elim
  | true=>
   rw[hb]at h
   simp only[cond_true,dM]at h ⊢
   exact j4 h hk
theorem zY {d T:Nat} {parts:List (Nat × Operand)} {K K':(Nat→AV)→Prop} (h:iO TE N F d T parts K) (hk:∀ F',K F'→K' F'):iO TE N F d T parts K':=by
 unfold iO at h ⊢
 split at h
 case h_2=>exact h.elim
 rename_i size bytes zero flds hT
 cases ha:tp TE flds with
 | false=>rw[ha]at h;exact h.elim
 | true=>rw[ha]at h;exact j4 h fun F' cs h=>bF h hk
theorem xi {d T n:Nat} {parts:List (Nat × Operand)} {K K':(Nat→AV)→Prop} (h:gw TE N F d T n parts K) (hk:∀ F',K F'→K' F'):gw TE N F d T n parts K':=by
 obtain⟨e,ie,h,hs⟩:=iV h
 refine hs _ ?_
 cases hb:Nat.ble (n*ie.size) 16777216 with
 | false=>rw[hb]at h;exact h.elim
 | true=>
  rw[hb]at h
  simp only[cond_true]at h ⊢
  split at h
  ·exact bF h hk
  ·rw[dM]at h ⊢
   refine j4 h fun F' cs h=>?_
   rw[ow]at h ⊢
   exact bF h hk
  ·exact h.elim
theorem y8 {y:Operand} {K K':Bool→(Nat→AV)→List (List C)→Prop} (h:wQ F y K) (hk:∀ b F' xr,K b F' xr→K' b F' xr):wQ F y K':=by
 unfold wQ at h ⊢
 split at h
 ·refine eG h fun F' ag cs h=>?_
  match ag,cs,h with
  | none,[.s .own rows],h=>exact hk _ _ _ h
 ·obtain⟨ag,cs,h1,h2⟩:=cn h
  refine h2 F (gG.refl _ _) _ ?_
  match ag,cs,h1 with
  | none,[.s o rows],h=>exact hk _ _ _ h
  | none,[.z],h=>exact hk _ _ _ h
theorem uT {x:Operand} {K K':(Nat→AV)→List (List C)→Prop} (h:vc F x K) (hk:∀ F' xr,K F' xr→K' F' xr):vc F x K':=by
 obtain⟨ag,cs,h1,h2⟩:=cn h
 refine h2 F (gG.refl _ _) _ ?_
 match ag,cs,h1 with
 | none,[.z],h=>exact hk _ _ h
 | none,[.s .own _],h=>
  refine eG h fun F' ag cs h=>?_
  match ag,cs,h with
  | none,[.s .own rows],h=>exact hk _ _ h
theorem D1 {d T:Nat} {x y:Operand} {K K':(Nat→AV)→Prop} (h:uY TE N F d T x y K) (hk:∀ F',K F'→K' F'):uY TE N F d T x y K':=by
 obtain⟨e,ie,h,hs⟩:=iV h
 refine hs _ (y8 h fun b F' xr h=>uT h fun F'' rows h=>?_)
 obtain⟨h1,h2,h3,h4,h5,h6⟩:=h.out
 exact Ap.mk h1 h2 h3 h4 h5 rfl (bF h6 hk)
theorem yz {d T:Nat} {x:Operand} {K K':(Nat→AV)→Prop} (h:nh TE N F d T x K) (hk:∀ F',K F'→K' F'):nh TE N F d T x K':=by
 unfold nh at h ⊢
 split at h
 case h_2=>exact h.elim
 refine eG h fun F' ag cs h=>?_
 split at h
 ·exact bF h hk
 ·exact h.elim
theorem AX {d:Nat} {x:Operand} {K K':(Nat→AV)→Prop} (h:gn N F d x K) (hk:∀ F',K F'→K' F'):gn N F d x K':=by
 have std:∀ {y:Operand},bb F y (fun av=>bA N F d av K)→bb F y (fun av=>bA N F d av K'):=fun h=>vu h fun av h=>bF h hk
 cases x with
 | tmp t=>
  simp only[gn]at h ⊢
  split at h
  ·rename_i sh cs hF
   cases hn:aQ cs with
   | true=>rw[hn]at h;exact bF h hk
   | false=>rw[hn]at h;exact bF h hk
  all_goals exact std h
 | const v=>simp only[gn]at h ⊢;exact std h
 | global g=>simp only[gn]at h ⊢;exact std h
 | func f=>simp only[gn]at h ⊢;exact std h
theorem Ay {d:Nat} {x:Operand} {K K':(Nat→AV)→Prop} (h:qg N F d x K) (hk:∀ F',K F'→K' F'):qg N F d x K':=by
 unfold qg at h ⊢
 split at h
 case h_2=>exact h.elim
 split at h
 case h_2=>exact h.elim
 obtain⟨h0,h1⟩:=h.out
 exact Nt.mk (fun e=>bF (h0 e) hk) fun l1 k l2 e=>bF (h1 l1 k l2 e) hk
theorem zd {d:Nat} {x:Operand} {K K':(Nat→AV)→Prop} (h:nj N F d x K) (hk:∀ F',K F'→K' F'):nj N F d x K':=by
 unfold nj at h ⊢
 split at h
 case h_2=>exact h.elim
 split at h
 case h_2=>exact h.elim
 exact bF h hk
theorem Ga {d:Nat} {op:Op} {K K':(Nat→AV)→Prop} (h:ot P TE N d op K F) (hk:∀ F',K F'→K' F'):ot P TE N d op K' F:=by
 cases op with
 | assign x=>exact zq h hk
 | box T x=>simp only[ot,EU]at h ⊢;exact pP h fun F' ag cs h=>bF h hk
 | build T ps=>exact zY h hk
 | buildSlice T n ps=>exact xi h hk
 | range T x=>exact yz h hk
 | move x=>exact AX h hk
 | next x str=>
  cases str with
  | true=>exact h.elim
  | false=>exact Ay h hk
 | entry x=>exact zd h hk
 | call c=>
  simp only[ot]at h ⊢
  cases ha:t7 c with
  | none=>rw[ha]at h;exact qj h fun av h=>bF h hk
  | some p=>rw[ha]at h;exact D1 h hk
 | _=>simp only[ot]at h ⊢;exact qj h fun av h=>bF h hk
theorem m7 {t off n:Nat} {st:bW} {K K':(Nat→AV)→List C→Prop} (h:lendAt F t off st n K) (hk:∀ F' cs,K F' cs→K' F' cs):lendAt F t off st n K':=by
 unfold lendAt at h ⊢
 split at h
 case h_2=>exact h.elim
 split at h
 ·rename_i k bs _ _
  cases hb:Nat.ble (off+n) bs.length with
  | false=>rw[hb]at h;exact h.elim
  | true=>
   rw[hb]at h
   simp only[cond_true,dM]at h ⊢
   exact hk _ _ h
 ·obtain⟨r,j,h1,h2,h3,hK⟩:=Lq.out h
  refine .mk_ ?_
  exact⟨r,j,_,_,h1,h2,h3,rfl,rfl,hk _ _ hK⟩
theorem fN:∀ {xs:List (Operand × Nat)} {K K':(Nat→AV)→List (MA × uR)→Prop} {F:Nat→AV},lendP xs K F→(∀ F' l,K F' l→K' F' l)→lendP xs K' F
 | [],K,K',F,h,hk=>hk _ _ h
 | (x,0)::xs,K,K',F,h,hk=>fN (xs:=xs) h fun F' l h=>hk _ _ h
 | (x,1)::xs,K,K',F,h,hk=>by
  simp only[lendP]at h ⊢
  split at h
  case h_2=>exact h.elim
  split at h
  ·exact m7 h fun F' cs h=>fN h fun F'' l h=>hk _ _ h
  ·exact m7 h fun F' cs h=>fN h fun F'' l h=>hk _ _ h
  ·exact m7 h fun F' cs h=>fN h fun F'' l h=>hk _ _ h
  ·exact h.elim
 | (x,n+2)::xs,K,K',F,h,hk=>by
  simp only[lendP]at h ⊢
  split at h
  case h_2=>exact h.elim
  split at h
  ·split at h
   ·exact fN h fun F'' l h=>hk _ _ h
   ·exact h.elim
  ·exact fN h fun F'' l h=>hk _ _ h
  ·exact h.elim
theorem kV:∀ {l:List (MA × uR)} {xs:List Operand} {K K':Bool→List MA→Prop},valsP F l xs K→(∀ b A,K b A→K' b A)→valsP F l xs K'
 | [],[],K,K',h,hk=>hk _ _ h
 | (m,.no)::l,x::xs,K,K',h,hk=>by
  obtain⟨ag,cs,h1,h2⟩:=cn h
  refine h2 F (gG.refl _ _) _ (kV h1 fun b A h=>?_)
  cases hn:aQ cs with
  | true=>rw[hn]at h;exact hk _ _ h
  | false=>rw[hn]at h;exact hk _ _ h
 | (m,.at_ t off st)::l,x::xs,K,K',h,hk=>kV (l:=l) (xs:=xs) h fun b A h=>hk _ _ h
 | (m,.box t)::l,x::xs,K,K',h,hk=>kV (l:=l) (xs:=xs) h fun b A h=>hk _ _ h
 | [],_::_,K,K',h,hk=>h.elim
 | (m,.no)::l,[],K,K',h,hk=>h.elim
 | (m,.at_ t off st)::l,[],K,K',h,hk=>h.elim
 | (m,.box t)::l,[],K,K',h,hk=>h.elim
theorem fM {K K':(Nat→AV)→Prop} (hk:∀ F',K F'→K' F'):∀ {l:List (MA × uR)} {B:List MA} {F:Nat→AV},jV l B K F→jV l B K' F
 | [],[],F,h=>hk _ h
 | [],_::_,F,h=>h.elim
 | (m,.no)::l,[],F,h=>h.elim
 | (m,.at_ t off st)::l,[],F,h=>h.elim
 | (m,.box t)::l,[],F,h=>h.elim
 | (m,.no)::l,.val _ _::B,F,h=>fM hk (l:=l) (B:=B) h
 | (m,.no)::l,.mut _ _::B,F,h=>fM hk (l:=l) (B:=B) h
 | (m,.no)::l,.ptr _::B,F,h=>fM hk (l:=l) (B:=B) h
 | (m,.at_ t off st)::l,.val _ _::B,F,h=>h.elim
 | (m,.at_ t off st)::l,.ptr _::B,F,h=>h.elim
 | (m,.box t)::l,.val _ _::B,F,h=>h.elim
 | (m,.box t)::l,.mut _ _::B,F,h=>h.elim
 | (m,.at_ t off st)::l,.mut ag out::B,F,h=>by
  simp only[jV]at h ⊢
  split at h
  case h_2=>exact h.elim
  split at h
  ·rename_i k bs _ _
   cases hb:Nat.ble (off+out.length) bs.length with
   | false=>rw[hb]at h;exact h.elim
   | true=>
    rw[hb]at h
    simp only[cond_true,dM]at h ⊢
    exact fM hk h
  ·obtain⟨r,j,e1,e2,e3,hK⟩:=Pu.out h
   exact Pu.mk e1 e2 e3 rfl (fM hk hK)
 | (m,.box t)::l,.ptr out::B,F,h=>by
  simp only[jV]at h ⊢
  split at h
  ·exact fM hk h
  ·exact h.elim
theorem Ak {d:Option Nat} {f:Nat} {args:List Operand} {modes:List Nat} {K K':(Nat→AV)→Prop} (h:rR P N F d f args modes K) (hk:∀ F',K F'→K' F'):rR P N F d f args modes K':=by
 unfold rR at h ⊢
 refine fN h fun F' l h=>?_
 cases hb:(vj l&&Nat.beq args.length modes.length) with
 | false=>rw[hb]at h;exact h.elim
 | true=>
  rw[hb]at h
  refine kV h fun b A h=>?_
  obtain⟨sh,B,k,rcs,h1,h2,h3⟩:=dZ.out h
  refine dZ.mk h1 h2 (fM (fun F'' h=>?_) h3)
  cases d with
  | none=>exact hk _ h
  | some d=>exact bF h hk
theorem qB {t off:Nat} {z:Int} {v:Value} {K K':(Nat→AV)→Prop} (h:putMap F t off z v K) (hk:∀ F',K F'→K' F'):putMap F t off z v K':=by
 unfold putMap at h ⊢
 cases hF:F t with
 | hold k bs=>
  rw[hF]at h
  simp only at h ⊢
  cases hc:bs[off]? with
  | none=>rw[hc]at h;exact h.elim
  | some c=>
   rw[hc]at h
   cases c with
   | m es=>
    simp only at h ⊢
    have:=h.out
    refine Mu.mk rfl ?_
    simp only[dM]at this ⊢
    exact hk _ this
   | _=>exact h.elim
 | _=>rw[hF]at h;exact h.elim
theorem xU {T:Nat} {x y v:Operand} {K K':(Nat→AV)→Prop} (h:ne TE F T x y v K) (hk:∀ F',K F'→K' F'):ne TE F T x y v K':=by
 unfold ne at h ⊢
 split at h
 case h_2=>exact h.elim
 obtain⟨z,h1,l1⟩:=gk h
 refine l1 F (gG.refl F _) _ ?_
 obtain⟨z2,h2,l2⟩:=gk h1
 refine l2 F (gG.refl F _) _ ?_
 split at h2
 case h_2=>exact h2.elim
 split at h2
 case h_2=>exact h2.elim
 split at h2
 ·exact qB h2 hk
 ·exact qB h2 hk
 ·exact h2.elim
theorem kI {o:Oper} {K K':(Nat→AV)→Prop} (h:lZ P TE N ops o K F) (hk:∀ F',K F'→K' F'):lZ P TE N ops o K' F:=by
 unfold lZ at h ⊢
 refine Bw h (fun F h=>?_) (fun F h=>?_)
 ·split at h
  ·exact Ak h hk
  ·split at h
   ·split at h
    ·exact B4 h hk
    ·exact xU h hk
    ·exact h.elim
   ·exact Ga h hk
 ·split at h
  ·exact hk _ h
  ·exact bF h hk
theorem wA {m:Nat} (hok:J4 ops m) {K:(Nat→AV)→Prop} (hm:m≤ops.size):∀ (l:List Oper) (k:Nat) (listed:Array Bool) (F:Nat→AV),(∀ j,l[j]? = ops[k+j]?)→listed.size=ops.size→(∀ j,j<ops.size→listed.getD j true=decide (j<k))→vN ops m F listed→DC ops listed→
  FV P TE N ops (m - k) l K F→BG P TE N ops m K l.length listed F
 | [],k,listed,F,hl,hs,hli,_,_,hp=>by
  have hk:ops.size≤k:=by
   rcases Nat.lt_or_ge k ops.size with h|h
   ·have:=hl 0;simp[h]at this
   ·exact h
  refine⟨?_,?_⟩
  ·apply List.eq_nil_iff_forall_not_mem.2
   intro j hj
   obtain⟨h1,o,ho,-⟩:=mem_ready.1 hj
   have hlt:=(Array.getElem?_eq_some_iff.1 ho).1
   rw[hli j hlt]at h1
   simp at h1;omega
  ·cases hmk:m - k with
   | zero=>rw[hmk]at hp;exact hp
   | succ x=>rw[hmk]at hp;exact hp
 | o::l,k,listed,F,hl,hs,hli,hcl,hdc,hp=>by
  have h0:ops[k]? = some o:=by simpa using (hl 0).symm
  have hk:=(Array.getElem?_eq_some_iff.1 h0).1
  have hready:k∈Region.ready .any ops listed:=mem_ready.2 ⟨by rw[hli k hk];simp,o,h0,fun e he hb=>by
    have:=hok.back k o h0 e he hb
    have h1:=hli e.on (by omega)
    rw[show decide (e.on<k)=true by simpa using this]at h1
    have h2:e.on<listed.size:=by omega
    simp[h2]at h1 ⊢;exact h1⟩
  have hl':∀ j,l[j]? = ops[k+1+j]?:=fun j=>by have:=hl (j+1);simpa[Nat.add_assoc,Nat.add_comm 1 j] using this
  have hli':∀ j,j<ops.size→(listed.setIfInBounds k true).getD j true=decide (j<k+1):=fun j hj=>by
   by_cases hjk:j=k
   ·subst hjk;simp[hs,hj]
   ·rw[getD_set_ne true (Ne.symm hjk),hli j hj]
    simp only[decide_eq_decide];omega
  show BG P TE N ops m K (l.length+1) listed F
  by_cases hkm:k<m
  ·have e1:m - k=(m - (k+1))+1:=by omega
   rw[e1]at hp
   obtain⟨mv,d,av,hy,hp⟩:=mV (show jH P TE N ops o (FV P TE N ops (m - (k+1)) l K) F from hp) (fun d hd=>hcl.dst k o d hkm h0 (by rw[hli k hk];simp) hd) (fun T s g1 g2 g3=>hcl.mv k o T s hkm h0 (by rw[hli k hk];simp) g1 g2 g3)
   refine Ef hok h0 hkm l.length listed F hready hcl hdc hy (wA hok hm l (k+1) _ _ hl' (by simpa using hs) hli' (hcl.put (fun j' o' d' hm' hne' hj' hl'' hd'=>?_) (fun j' o' T s hm' hne' hj' hl'' g1 g2 g3=>?_)) (hdc.put hready) hp)
   ·cases hu:av.uses d' with
    | false=>rfl
    | true=>
     rcases hy.from_ d' hu with h|⟨t,_,h⟩
     ·have:=hok.look j' k o' o d' hm' hkm hne' hj' h0 hd' h
      obtain⟨e,he1,he2,he3⟩:=bJ.1 this
      have hlt:=hok.back k o h0 e he1 he2
      have hj'lt:=(Array.getElem?_eq_some_iff.1 hj').1
      rw[hli j' hj'lt]at hl''
      simp at hl'';omega
     ·rw[hcl.dst j' o' d' hm' hj' hl'' hd' t]at h;cases h
   ·cases hu:av.uses s with
    | false=>rfl
    | true=>
     rcases hy.from_ s hu with h|⟨t,_,h⟩
     ·exact absurd ((eI g3).2 j' k o' o hj' h0 (cr g2) h) hne'
     ·rw[hcl.mv j' o' T s hm' hj' hl'' g1 g2 g3 t]at h;cases h
  ·refine⟨fun h=>(by rw[h]at hready;cases hready),fun j hj=>?_⟩
   have hjk:j=k:=by
    obtain⟨h1,oj,hoj,hall⟩:=mem_ready.1 hj
    have hjlt:=(Array.getElem?_eq_some_iff.1 hoj).1
    rw[hli j hjlt]at h1
    simp at h1
    rcases Nat.lt_or_ge k j with hlt|hge
    ·exfalso
     have h2:=lm hdc hok.back (hok.tail j (by omega) hjlt k hlt) hjlt fun k' hk'=>by
      rw[aR hoj]at hk'
      obtain⟨e,he1,he2,rfl⟩:=bJ.1 hk'
      exact hall e he1 he2
     have h3:=hli k hk
     have h4:k<listed.size:=by omega
     simp[h4]at h2 h3
     rw[h2]at h3;cases h3
    ·omega
   subst hjk
   unfold tj
   rw[h0]
   simp only[if_neg hkm]
   have e0:m - j=0:=by omega
   rw[e0]at hp
   have hp':lZ P TE N ops o (DU P TE N ops l K) F:=hp
   have hmono:∀ F',DU P TE N ops l K F'→BG P TE N ops m K l.length (listed.setIfInBounds j true) F':=fun F' hF'=>
    wA hok hm l (j+1) _ F' hl' (by simpa using hs) hli' ⟨fun j' o' d' hm' hj' hl'' hd'=>by
      have hj'lt:=(Array.getElem?_eq_some_iff.1 hj').1
      rw[hli' j' hj'lt]at hl''
      simp at hl'';omega,fun j' o' T s hm' hj' hl''=>by
      have hj'lt:=(Array.getElem?_eq_some_iff.1 hj').1
      rw[hli' j' hj'lt]at hl''
      simp at hl'';omega⟩ (hdc.put hready) (by rw[show m - (j+1)=0 by omega];cases l<;>exact hF')
   exact kI hp' hmono
theorem St.clr (h:St w0 M S0 N F a w) (ds:List Nat):St w0 M S0 N (Ab.clr ds F) a w:=by
 obtain⟨S,φ,h⟩:=h
 refine⟨S,φ,fun t=>?_,h.dis,h.disS,h.ex,h.sub,h.sup,h.old,h.size,h.defers,h.par⟩
 rw[xb]
 cases hb:ds.any (fun d=>(F t).uses d) with
 | true=>trivial
 | false=>
  simp only[cond_false]
  refine(h.slot t).keep (φ:=φ) (fun t _ _ _=>h.slot t) (fun t' _=>⟨fun k cs he=>?_,rfl,fun _ _ _=>⟨rfl,rfl⟩⟩) (fun _ _ _=>⟨rfl,rfl⟩) (fun _ _ _=>⟨rfl,rfl⟩) (fun _ _ h=>h) (fun _ _ h=>h)
  rw[xb]
  have:ds.any (fun d=>(F t').uses d)=false:=by
   rw[he]
   induction ds with
   | nil=>rfl
   | cons d ds ih=>simp[AV.uses]
  rw[this];exact he
theorem xj (hTE:∀ t i,TE t=some i→b9 P t i) (hm:P.follows .mixedOrders=true) {id m:Nat} {ds:List Nat} (hok:((Nat.ble m ops.size&&below m fun j=>match(cK ops j).dst with|some d=>ds.any (Nat.beq d)|none=>true)&&wF ops m)=true) {K:(Nat→AV)→Prop} {Q:Exit→Act→World→Prop} (hp:FV P TE N ops m ops.toList K (Ab.clr ds F)) (hs:St w0 M S0 N F a w)
  (hq:∀ F' a' w',K F'→St w0 M S0 N F' a' w'→Q .normal a' w'):(Code.region id ops true).wp P Q a w:=by
 simp only[Bool.and_eq_true]at hok
 obtain⟨⟨hmle,hds⟩,hok⟩:=hok
 have hmle':m≤ops.size:=Nat.le_of_ble_eq_true hmle
 refine wp_region_any hm ?_
 have hs':St w0 M S0 N (Ab.clr ds F) a {w with drawn:=w.drawn+1}:=by
  have h1:=hs.clr ds
  obtain⟨S,φ,h⟩:=h1
  exact⟨S,φ,h.more (w1:={w with drawn:=w.drawn+1}) (fun _ _ h=>h) (fun _ _ h=>.inl h) ⟨rfl,rfl,rfl,Nat.le_refl _,fun _ _ _=>rfl,fun _ _ _ _=>rfl,fun _ _ _ _=>rfl⟩⟩
 refine vq hTE (m:=m) hq ops.size (Array.replicate ops.size false) _ a _ ?_ hs'
 have hcl:∀ d,ds.any (Nat.beq d)=true→∀ t,(Ab.clr ds F t).uses d=false:=fun d hd t=>by
  rw[xb]
  cases hb:ds.any (fun d=>(F t).uses d) with
  | true=>rfl
  | false=>
   simp only[cond_false]
   cases hu:(F t).uses d with
   | false=>rfl
   | true=>
    obtain⟨d',hd',he⟩:=List.any_eq_true.1 hd
    have he':=Nat.eq_of_beq_eq_true he
    subst he'
    have:ds.any (fun d=>(F t).uses d)=true:=List.any_eq_true.2 ⟨_,hd',hu⟩
    rw[this]at hb;cases hb
 have hmem:∀ j o d,j<m→ops[j]? = some o→o.dst=some d→ds.any (Nat.beq d)=true:=fun j o d hj ho hd=>by
  have h1:=fb hds hj
  rw[aR ho,hd]at h1
  exact h1
 have hD:=zL hok
 have:=wA (P:=P) (TE:=TE) (N:=N) hD (K:=K) hmle' ops.toList 0 (Array.replicate ops.size false) (Ab.clr ds F) (by simp) (by simp) (fun j hj=>by simp[hj]) ⟨fun j o d hj ho _ hd t=>hcl d (hmem j o d hj ho hd) t,fun j o T s hj ho _ _ _ g3 t=>by
   obtain⟨k,ok,hk1,hk2,hk3⟩:=(eI g3).1
   obtain⟨e,he1,he2,rfl⟩:=bJ.1 hk1
   have:=hD.back j o ho e he1 he2
   exact hcl s (hmem e.on ok s (by omega) hk2 hk3) t⟩ (fun j oj hj hl=>by
   have hlt:=(Array.getElem?_eq_some_iff.1 hj).1
   simp[hlt]at hl) hp
 simpa using this
end
end Go.Proofs.YtogajjgmcnjkbaaGreat.Ab
namespace Go.Proofs.YtogajjgmcnjkbaaGreat.Ab
open Go.RowKit
section
variable {P:Program} {w0 w w1:World} {M S0 S:ab} {N:fq} {φ:Nat→ab} {F:Nat→AV} {a:Act} {TE:Nat→Option TI} {ops:Array Oper} {ds:List Nat}
def HB (P:Program) (TE:Nat→Option TI) (ops:Array Oper) (p:Nat) (F:Nat→AV):Prop:=∃ d,(cK ops p).dst=some d∧EI F (cK ops p)=none∧du P TE F (cK ops p).op fun av=>av=F d
def tq (P:Program) (TE:Nat→Option TI) (N:fq) (ops:Array Oper) (ds:List Nat) (listed:Array Bool) (i:Nat) (K:(Nat→AV)→Prop) (F:Nat→AV):Prop:=
 match ops[i]? with
 | none=>K F
 | some o=>if ns ds o=true then jH P TE N ops o K F else lZ P TE N ops o (fun F1=>(∀ p,listed.getD p false=true→ns ds (cK ops p)=true→rk ops i p=false→HB P TE ops p F1)∧K F1) F
def BH (P:Program) (TE:Nat→Option TI) (N:fq) (ops:Array Oper) (ds:List Nat) (K:(Nat→AV)→Prop):Nat→Array Bool→(Nat→AV)→Prop
 | 0,listed,F=>Region.ready .any ops listed=[]∧K F
 | fuel+1,listed,F=>(Region.ready .any ops listed=[]→K F)∧∀ i,i∈Region.ready .any ops listed→tq P TE N ops ds listed i (BH P TE N ops ds K fuel (listed.setIfInBounds i true)) F
theorem Aa (hTE:∀ t i,TE t=some i→b9 P t i) {listed:Array Bool} {i:Nat} {K:(Nat→AV)→Prop} (hp:tq P TE N ops ds listed i K F) (hs:St w0 M S0 N F a w) {Kc:Act→World→Prop} {Q:Exit→Act→World→Prop}
  (hk:∀ F' a' w',K F'→St w0 M S0 N F' a' w'→Kc a' w'):wpOp P ops Q i Kc a w:=by
 unfold tq at hp
 unfold wpOp
 cases ho:ops[i]? with
 | none=>rw[ho]at hp;exact hk F a w hp hs
 | some o=>
  rw[ho]at hp
  simp only at hp ⊢
  obtain⟨S,φ,h⟩:=hs
  have:if Region.wanted o (yielded ops a.tmps) then o.wp P a w Kc Q else Kc (a.put o.dst undef) w:=by
   split at hp
   ·exact h.oneP hTE hp hk
   ·exact h.one hTE (kI hp fun F' h=>h.2) hk
  split
  ·rename_i hw;rw[if_pos hw]at this;exact .inl this
  ·rename_i hw;rw[if_neg hw]at this;exact this
theorem sv (hTE:∀ t i,TE t=some i→b9 P t i) {K:(Nat→AV)→Prop} {Q:Exit→Act→World→Prop} (hk:∀ F' a' w',K F'→St w0 M S0 N F' a' w'→Q .normal a' w') :
  ∀ (fuel:Nat) (listed:Array Bool) (F:Nat→AV) (a:Act) (w:World),BH P TE N ops ds K fuel listed F→St w0 M S0 N F a w→wpAny P .any ops Q fuel listed a w
 | 0,_,F,a,w,hp,hs=>⟨hp.1,hk F a w hp.2 hs⟩
 | fuel+1,_,F,a,w,hp,hs=>⟨fun h0=>hk F a w (hp.1 h0) hs,fun i hi=>Aa hTE (hp.2 i hi) hs fun F' a' w' hK hs'=>sv hTE hk fuel _ F' a' w' hK hs'⟩
def fB (ts:List Nat) (F F1:Nat→AV):Prop:=∀ t e,(F1 t).uses e=true→e∈ts∨∃ t',(F t').uses e=true
theorem fB.refl (ts:List Nat) (F:Nat→AV):fB ts F F:=fun t _ h=>.inr ⟨t,h⟩
theorem fB.trans {ts:List Nat} {F F1 F2:Nat→AV} (h1:fB ts F F1) (h2:fB ts F1 F2):fB ts F F2:=fun t e h=>by
 rcases h2 t e h with h|⟨t',h⟩
 ·exact .inl h
 ·exact h1 t' e h
theorem fB.clean {ts:List Nat} {F1:Nat→AV} {d:Nat} (h:fB ts F F1) (hd:d∉ts) (hc:∀ t,(F t).uses d=false):∀ t,(F1 t).uses d=false:=fun t=>by
 cases hu:(F1 t).uses d with
 | false=>rfl
 | true=>
  rcases h t d hu with h|⟨t',h⟩
  ·exact absurd h hd
  ·rw[hc t']at h;cases h
theorem fB.put {ts:List Nat} {dj:Nat} {av:AV} (h:∀ e,av.uses e=true→e∈ts∨∃ t',(F t').uses e=true):fB ts F (put F dj av):=fun t e hu=>by
 by_cases h1:t=dj
 ·subst h1;rw[kG]at hu;exact h e hu
 ·rw[fo _ _ h1]at hu;exact .inr ⟨t,(Hj hu).1⟩
theorem Fk {t e:Nat} {v:AV} (h:(pa t v).uses e=true):v.uses e=true:=by
 cases v with
 | bor t' off st ag=>simp only[pa]at h;cases hb:Nat.beq t' t<;>rw[hb]at h<;>first|exact h|cases h
 | ref t' off st=>cases st<;>simp only[pa]at h<;>first|exact h|(cases hb:Nat.beq t' t<;>rw[hb]at h<;>first|exact h|cases h)
 | _=>exact h
theorem fB.updH {ts:List Nat} {t:Nat} {k:Kd} {cs:List C} : fB ts F (updH F t k cs):=fun s e hu=>by
 unfold Ab.updH at hu
 cases hb:Nat.beq s t with
 | true=>rw[hb]at hu;cases hu
 | false=>rw[hb]at hu;exact .inr ⟨s,Fk hu⟩
theorem dk {d t:Nat} {av:AV} (h:t≠d):eff none d av F t=F t:=by unfold eff;rw[if_neg h,if_neg (fun e=>by cases e)]
theorem mN {d:Nat} {mv:Option Nat} {av:AV} : eff mv d av F d=av:=by unfold eff;rw[if_pos rfl]
theorem F6 {d:Nat} : eff none d (F d) F=F:=by
 funext t
 by_cases h:t=d
 ·subst h;rw[mN]
 ·rw[dk h]
theorem mI {d:Nat} {av:AV} {ts:List Nat} (hd:d∉ts) (hc:∀ t,(F t).uses d=false):gG (eff none d av F) F ts:=fun t ht=>by
 have h1:t≠d:=fun e=>hd (e ▸ ht)
 rw[dk h1]
 refine⟨rfl,fun t' hu k cs hh=>?_⟩
 have h2:t'≠d:=fun e=>by rw[e,hc t]at hu;cases hu
 rwa [dk h2]at hh
theorem HL {d dj:Nat} {v av:AV} (hne:dj≠d):put (eff none d v F) dj av=eff none d (kl dj v) (put F dj av):=by
 funext t
 by_cases h1:t=dj
 ·subst h1;rw[kG,dk hne,kG]
 ·rw[fo _ _ h1]
  by_cases h2:t=d
  ·subst h2;rw[mN,mN]
  ·rw[dk h2,dk h2,fo _ _ h1]
theorem x7 {d t:Nat} {k':Kd} {v:AV} {cs':List C} (hne:t≠d):updH (eff none d v F) t k' cs'=eff none d (pa t v) (updH F t k' cs'):=by
 funext s
 by_cases h2:s=d
 ·subst h2
  rw[mN]
  unfold updH
  rw[show Nat.beq s t=false by rw[←Bool.not_eq_true,Nat.beq_eq];exact Ne.symm hne,mN];rfl
 ·rw[dk h2]
  unfold updH
  rw[dk h2]
theorem sy {d t:Nat} {k':Kd} {cs':List C} (hne:t≠d):updH F t k' cs' d=pa t (F d):=by
 unfold updH
 rw[show Nat.beq d t=false by rw[←Bool.not_eq_true,Nat.beq_eq];exact Ne.symm hne];rfl
theorem GQ {d t:Nat} {k':Kd} {v:AV} {cs':List C} (hne:t≠d):updN (eff none d v F) t k' cs'=eff none d (G8 t v) (updN F t k' cs'):=by
 funext s
 by_cases h2:s=d
 ·subst h2
  rw[mN]
  unfold updN
  rw[show Nat.beq s t=false by rw[←Bool.not_eq_true,Nat.beq_eq];exact Ne.symm hne,mN];rfl
 ·rw[dk h2]
  unfold updN
  rw[dk h2]
theorem FX {d t:Nat} {k':Kd} {cs':List C} (hne:t≠d):updN F t k' cs' d=G8 t (F d):=by
 unfold updN
 rw[show Nat.beq d t=false by rw[←Bool.not_eq_true,Nat.beq_eq];exact Ne.symm hne];rfl
theorem FP {t e:Nat} {v:AV} (h:(G8 t v).uses e=true):v.uses e=true:=by
 cases v with
 | bor t' off st ag=>
  cases st with
  | nil=>exact h
  | cons s st=>simp only[G8]at h;cases hb:Nat.beq t' t<;>rw[hb]at h<;>first|exact h|cases h
 | ref t' off st=>
  cases st with
  | nil=>exact h
  | cons s st=>simp only[G8]at h;cases hb:Nat.beq t' t<;>rw[hb]at h<;>first|exact h|cases h
 | _=>exact h
theorem fB.updN {ts:List Nat} {t:Nat} {k:Kd} {cs:List C} : fB ts F (updN F t k cs):=fun s e hu=>by
 unfold Ab.updN at hu
 cases hb:Nat.beq s t with
 | true=>rw[hb]at hu;cases hu
 | false=>rw[hb]at hu;exact .inr ⟨s,FP hu⟩
def Fq (d:Nat) (ts:List Nat) (v:AV) (F:Nat→AV) (K:(Nat→AV)→Prop) (F1:Nat→AV):Prop:=∃ v1,(v=F d→v1=F1 d)∧K (eff none d v1 F1)∧fB ts F F1
def Jy (d:Nat) (ts:List Nat) (v:AV) (F:Nat→AV) (K:(Nat→AV)→Option Nat→List C→Prop) (F1:Nat→AV) (ag:Option Nat) (cs:List C):Prop:=∃ v1,(v=F d→v1=F1 d)∧K (eff none d v1 F1) ag cs∧fB ts F F1
theorem Fq.trans {d:Nat} {ts:List Nat} {v v1:AV} {F1 F2:Nat→AV} {K:(Nat→AV)→Prop} (h1:v=F d→v1=F1 d) (u1:fB ts F F1) (h:Fq d ts v1 F1 K F2):Fq d ts v F K F2:=by
 obtain⟨v2,h2,hK,u2⟩:=h
 exact⟨v2,fun e=>h2 (h1 e),hK,u1.trans u2⟩
theorem ng {d dj:Nat} {ts:List Nat} {v av:AV} {K:(Nat→AV)→Prop} (h:bA N (eff none d v F) dj av K) (hne:dj≠d) (hav:∀ e,av.uses e=true→e∈ts∨∃ t',(F t').uses e=true):bA N F dj av (Fq d ts v F K):=by
 unfold bA at h ⊢
 cases hb:(N.free dj&&!av.uses dj) with
 | false=>rw[hb]at h;exact h.elim
 | true=>
  rw[hb]at h
  simp only[cond_true]at h ⊢
  rw[HL hne]at h
  exact⟨kl dj v,fun e=>by rw[fo _ _ (Ne.symm hne),e],h,fB.put hav⟩
theorem oU {ts:List Nat} {k:Kd} {cs:List C} : ∀ e,(AV.hold k cs).uses e=true→e∈ts∨∃ t',(F t').uses e=true:=fun e h=>by cases h
theorem BB {p:(Nat→AV)→(AV→Prop)→Prop} {d dj:Nat} {v:AV} {ts0 ts:List Nat} {K:(Nat→AV)→Prop} (h:mA p (eff none d v F) ts0 fun av=>bA N (eff none d v F) dj av K) (hne:dj≠d) (hs:∀ t,t∈ts0→t∈ts) (hd:d∉ts) (hc:∀ t,(F t).uses d=false) :
  p F fun av=>bA N F dj av (Fq d ts v F K):=by
 obtain⟨av,h1,h2,h3⟩:=h
 refine h3 F (mI (fun hm=>hd (hs d hm)) hc) _ (ng h1 hne fun e he=>?_)
 rcases h2 e he with h|⟨t,ht,h⟩
 ·exact .inl (hs e h)
 ·have hne:t≠d:=fun e=>hd (e ▸ hs t ht)
  rw[dk hne]at h
  exact .inr ⟨t,h⟩
theorem oC {d:Nat} {ts:List Nat} {v:AV} {y:Operand} {K:(Nat→AV)→Option Nat→List C→Prop} (h:fu (eff none d v F) y K) (hd:d∉tm y) (hc:∀ t,(F t).uses d=false):fu F y (Jy d ts v F K):=by
 have fin:∀ {t:Nat} {k:Kd} {cs:List C} {ag:Option Nat} {xs:List C},t≠d→K (updH (eff none d v F) t k cs) ag xs→Jy d ts v F K (updH F t k cs) ag xs:=fun {t k cs ag xs} ht h=>by
  rw[x7 ht]at h
  exact⟨_,fun e=>by rw[sy ht,e],h,fB.updH⟩
 have finN:∀ {t:Nat} {k:Kd} {cs:List C} {ag:Option Nat} {xs:List C},t≠d→K (updN (eff none d v F) t k cs) ag xs→Jy d ts v F K (updN F t k cs) ag xs:=fun {t k cs ag xs} ht h=>by
  rw[GQ ht]at h
  exact⟨_,fun e=>by rw[FX ht,e],h,fB.updN⟩
 cases y with
 | tmp t=>
  have ht:t≠d:=fun e=>hd (by simp[tm,e])
  simp only[fu]at h ⊢
  rw[dk ht]at h
  cases hF:F t with
  | hold kk bs=>
   rw[hF]at h
   cases kk with
   | one=>exact fin ht h
   | agg=>exact fin ht h
   | _=>exact h.elim
  | bor t2 off st ag=>
   rw[hF]at h
   have h2:t2≠d:=fun e=>by have:=hc t;rw[hF,e]at this;simp[AV.uses]at this
   cases st with
   | cons s st=>
    simp only at h ⊢
    rw[dk h2]at h
    cases hF2:F t2 with
    | hold kk bs=>
     rw[hF2]at h
     obtain⟨r,j,e1,e2,e3,hK⟩:=Lq.out h
     exact .mk_ ⟨r,j,_,_,e1,e2,e3,rfl,rfl,finN h2 hK⟩
    | _=>rw[hF2]at h;exact h.elim
   | nil=>
    simp only at h ⊢
    rw[dk h2]at h
    cases hF2:F t2 with
    | hold kk bs=>
     rw[hF2]at h
     simp only at h ⊢
     cases hb:Nat.ble (off+ag.getD 1) bs.length with
     | false=>rw[hb]at h;exact h.elim
     | true=>rw[hb]at h;exact finN h2 h
    | _=>rw[hF2]at h;exact h.elim
  | _=>rw[hF]at h;exact h.elim
 | _=>exact h.elim
theorem GN {d:Nat} {ts:List Nat} {v:AV} {y:Operand} {K:(Nat→AV)→Option Nat→List C→Prop} (h:ra (eff none d v F) y K) (hd:d∉tm y) (hc:∀ t,(F t).uses d=false):ra F y (Jy d ts v F K):=by
 obtain⟨ag,xs,h1,h2⟩:=cn h
 refine h2 F (mI hd hc) _ ?_
 cases hn:aQ xs with
 | true=>rw[hn]at h1;exact⟨v,fun e=>e,h1,fB.refl _ _⟩
 | false=>rw[hn]at h1;exact oC h1 hd hc
def JE (d:Nat) (ts:List Nat) (v:AV) (F:Nat→AV) (K:(Nat→AV)→List C→Prop) (F1:Nat→AV) (cs:List C):Prop:=∃ v1,(v=F d→v1=F1 d)∧K (eff none d v1 F1) cs∧fB ts F F1
theorem ya {d:Nat} {ts:List Nat} {pl:Nat→Option (Nat × Nat)} (hdt:d∉ts):∀ {parts:List (Nat × Operand)} {cs:List C} {K:(Nat→AV)→List C→Prop} {F:Nat→AV} {v:AV},fillW pl parts cs K (eff none d v F)→(∀ p,p∈parts→d∉tm p.2)→(∀ t,(F t).uses d=false)→
  fillW pl parts cs (JE d ts v F K) F
 | [],cs,K,F,v,h,_,hc=>⟨v,fun e=>e,h,fB.refl _ _⟩
 | p::rest,cs,K,F,v,h,hd,hc=>by
  simp only[fillW]at h ⊢
  split at h
  case h_2=>exact h.elim
  rename_i q hq
  refine pP (GN (ts:=ts) h (hd p List.mem_cons_self) hc) fun F' ag xs h=>?_
  obtain⟨v1,h1,h,u1⟩:=h
  cases hb:(Nat.beq xs.length q.2&&Nat.ble (q.1+q.2) cs.length) with
  | false=>rw[hb]at h;exact h.elim
  | true=>
   rw[hb]at h
   simp only[cond_true,dM]at h ⊢
   refine j4 (ya hdt h (fun p' hp'=>hd p' (List.mem_cons_of_mem _ hp')) (u1.clean hdt hc)) fun F2 cs2 h2=>?_
   obtain⟨v2,g1,g2,u2⟩:=h2
   exact⟨v2,fun e=>g1 (h1 e),g2,u1.trans u2⟩
theorem DW {d dj T:Nat} {ts:List Nat} {v:AV} {parts:List (Nat × Operand)} {K:(Nat→AV)→Prop} (h:iO TE N (eff none d v F) dj T parts K) (hne:dj≠d) (hdt:d∉ts) (hd:∀ p,p∈parts→d∉tm p.2) (hc:∀ t,(F t).uses d=false) :
  iO TE N F dj T parts (Fq d ts v F K):=by
 unfold iO at h ⊢
 split at h
 case h_2=>exact h.elim
 rename_i size bytes zero flds hT
 cases ha:tp TE flds with
 | false=>rw[ha]at h;exact h.elim
 | true=>
  rw[ha]at h
  refine j4 (ya hdt h hd hc) fun F' cs h=>?_
  obtain⟨v1,h1,h,u1⟩:=h
  exact bF (ng (ts:=ts) h hne oU) fun F2 h2=>Fq.trans h1 u1 h2
theorem Fc {d dj t:Nat} {ts:List Nat} {v:AV} {K:(Nat→AV)→Prop} (h:gn N (eff none d v F) dj (.tmp t) K) (hne:dj≠d) (hdt:d∉ts) (ht:t∈ts) (hc:∀ t,(F t).uses d=false):gn N F dj (.tmp t) (Fq d ts v F K):=by
 have htd:t≠d:=fun e=>hdt (e ▸ ht)
 have std:bb (eff none d v F) (.tmp t) (fun av=>bA N (eff none d v F) dj av K)→bb F (.tmp t) (fun av=>bA N F dj av (Fq d ts v F K)):=fun h=>
  BB (p:=fun F K=>bb F (.tmp t) K) (gM h) hne (fun t' h'=>by simp[tm]at h';exact h' ▸ ht) hdt hc
 simp only[gn]at h ⊢
 rw[dk htd]at h
 split at h
 ·rename_i sh xs hF
  cases hn:aQ xs with
  | true=>rw[hn]at h;exact ng h hne oU
  | false=>
   rw[hn]at h
   simp only[cond_false]at h ⊢
   rw[x7 htd]at h
   exact bF (ng (ts:=ts) h hne oU) fun F2 h2=>Fq.trans (F1:=updH F t (.tup sh) _) (fun e=>by rw[sy htd,e]) fB.updH h2
 all_goals exact std h
theorem Ej {d dj:Nat} {ts:List Nat} {v:AV} {x:Operand} {K:(Nat→AV)→Prop} (h:iN N (eff none d v F) dj x K) (hne:dj≠d) (hdt:d∉ts) (ht:∀ t,t∈tm x→t∈ts) (hc:∀ t,(F t).uses d=false):iN N F dj x (Fq d ts v F K):=by
 have m1:∀ y,(∀ t,t∈tm y→t∈ts)→bb (eff none d v F) y (fun av=>bA N (eff none d v F) dj av K)→bb F y (fun av=>bA N F dj av (Fq d ts v F K)):=fun y hy h=>BB (p:=fun F K=>bb F y K) (gM h) hne hy hdt hc
 have m2:∀ y,(∀ t,t∈tm y→t∈ts)→fu (eff none d v F) y (fun F' ag cs=>bA N F' dj (.hold (jK ag) cs) K)→fu F y (fun F' ag cs=>bA N F' dj (.hold (jK ag) cs) (Fq d ts v F K)):=fun y hy h=>
  eG (oC (ts:=ts) h (fun hm=>hdt (hy d hm)) hc) fun F' ag cs h=>by
   obtain⟨v1,h1,h,u1⟩:=h
   exact bF (ng (ts:=ts) h hne oU) fun F2 h2=>Fq.trans h1 u1 h2
 cases x with
 | tmp t=>
  have htd:t≠d:=fun e=>hdt (e ▸ ht t (by simp[tm]))
  unfold iN at h ⊢
  simp only at h ⊢
  rw[dk htd]at h
  cases hF:F t with
  | hold k cs=>
   rw[hF]at h
   cases k with
   | one=>
    simp only at h ⊢
    cases hn:aQ cs with
    | true=>rw[hn]at h;exact m1 (.tmp t) ht h
    | false=>rw[hn]at h;exact m2 (.tmp t) ht h
   | agg=>
    simp only at h ⊢
    cases hn:aQ cs with
    | true=>rw[hn]at h;exact m1 (.tmp t) ht h
    | false=>rw[hn]at h;exact m2 (.tmp t) ht h
   | tup sh=>exact m1 _ ht h
   | box=>exact m1 _ ht h
  | bor=>rw[hF]at h;exact m2 _ ht h
  | dead=>rw[hF]at h;exact m1 _ ht h
  | ref=>rw[hF]at h;exact m1 _ ht h
  | iref=>rw[hF]at h;exact m1 _ ht h
  | fn=>rw[hF]at h;exact m1 _ ht h
  | fv=>rw[hF]at h;exact m1 _ ht h
 | const c=>exact m1 (.const c) ht h
 | global g=>exact m1 (.global g) ht h
 | func f=>exact m1 (.func f) ht h
theorem Dz {d:Nat} {ts:List Nat} {v:AV} {x:Operand} {cs:List C} {K:(Nat→AV)→Prop} (h:nz (eff none d v F) x cs K) (hd:d∉tm x) (hc:∀ t,(F t).uses d=false):nz F x cs (Fq d ts v F K):=by
 have fin:∀ {t:Nat} {k:Kd} {cs:List C},t≠d→K (updH (eff none d v F) t k cs)→Fq d ts v F K (updH F t k cs):=fun {t k cs} ht h=>by
  rw[x7 ht]at h
  exact⟨_,fun e=>by rw[sy ht,e],h,fB.updH⟩
 cases x with
 | tmp t=>
  have ht:t≠d:=fun e=>hd (by simp[tm,e])
  simp only[nz]at h ⊢
  rw[dk ht]at h
  cases hF:F t with
  | hold k bs=>
   rw[hF]at h
   cases k with
   | box=>
    simp only at h ⊢
    cases hb:Nat.ble cs.length bs.length with
    | false=>rw[hb]at h;exact h.elim
    | true=>rw[hb]at h;simp only[cond_true,dM]at h ⊢;exact fin ht h
   | _=>exact h.elim
  | ref t2 off st=>
   rw[hF]at h
   have h2:t2≠d:=fun e=>by have:=hc t;rw[hF,e]at this;simp[AV.uses]at this
   cases st with
   | cons s st=>
    simp only at h ⊢
    rw[dk h2]at h
    cases hF2:F t2 with
    | hold k bs=>
     rw[hF2]at h
     obtain⟨r,j,e1,e2,e3,hK⟩:=Pu.out h
     exact Pu.mk e1 e2 e3 rfl (fin h2 hK)
    | _=>rw[hF2]at h;exact h.elim
   | nil=>
    simp only at h ⊢
    rw[dk h2]at h
    cases hF2:F t2 with
    | hold k bs=>
     rw[hF2]at h
     cases k with
     | box=>
      simp only at h ⊢
      cases hb:Nat.ble (off+cs.length) bs.length with
      | false=>rw[hb]at h;exact h.elim
      | true=>rw[hb]at h;simp only[cond_true,dM]at h ⊢;exact fin h2 h
     | _=>exact h.elim
    | _=>rw[hF2]at h;exact h.elim
  | _=>rw[hF]at h;exact h.elim
 | _=>exact h.elim
theorem Gd {d T:Nat} {ts:List Nat} {v:AV} {x y:Operand} {K:(Nat→AV)→Prop} (h:lA TE (eff none d v F) T x y K) (hdt:d∉ts) (hx:d∉tm x) (hy:d∉tm y) (hc:∀ t,(F t).uses d=false):lA TE F T x y (Fq d ts v F K):=by
 unfold lA at h ⊢
 split at h
 ·rename_i i hT
  obtain⟨ag,cs,h1,h2⟩:=cn h
  refine h2 F (mI hy hc) _ ?_
  cases hl:Nat.beq cs.length i.size with
  | false=>rw[hl]at h1;exact h1.elim
  | true=>
   rw[hl]at h1
   simp only[cond_true]at h1 ⊢
   cases hn:aQ cs with
   | true=>rw[hn]at h1;exact Dz h1 hx hc
   | false=>
    rw[hn]at h1
    simp only[cond_false]at h1 ⊢
    refine eG (oC (ts:=ts) h1 hy hc) fun F' ag' cs' h=>?_
    obtain⟨v1,h1,h,u1⟩:=h
    cases hl':Nat.beq cs'.length i.size with
    | false=>rw[hl']at h;exact h.elim
    | true=>rw[hl']at h;exact qh (Dz (ts:=ts) h hx (u1.clean hdt hc)) fun F2 h2=>Fq.trans h1 u1 h2
 ·exact h.elim
theorem H4 {d:Nat} {v:AV} {y:Operand} (hd:d∉tm y):lW (eff none d v F) y=lW F y:=by
 cases y with
 | tmp t=>exact dk fun e=>hd (by simp[tm,e])
 | _=>rfl
theorem HO {d:Nat} {ts:List Nat} {v:AV} {y:Operand} {K:Bool→(Nat→AV)→List (List C)→Prop} (h:wQ (eff none d v F) y K) (hd:d∉tm y) (hc:∀ t,(F t).uses d=false):wQ F y fun fl F1 rows=>∃ v1,(v=F d→v1=F1 d)∧K fl (eff none d v1 F1) rows∧fB ts F F1:=by
 have hev:=H4 (F:=F) (v:=v) hd
 unfold wQ at h ⊢
 rw[hev]at h
 split at h
 ·refine eG (oC (ts:=ts) h hd hc) fun F1 ag cs h=>?_
  obtain⟨v1,h1,h,u1⟩:=h
  split at h
  ·exact⟨v1,h1,h,u1⟩
  ·exact h.elim
 ·rw[←hev]at h
  obtain⟨ag,xs,h1,h2⟩:=cn h
  refine h2 F (mI hd hc) _ ?_
  split at h1
  ·exact⟨v,fun e=>e,h1,fB.refl _ _⟩
  ·exact⟨v,fun e=>e,h1,fB.refl _ _⟩
  ·exact h1.elim
theorem GB {d:Nat} {ts:List Nat} {v:AV} {y:Operand} {K:(Nat→AV)→List (List C)→Prop} (h:vc (eff none d v F) y K) (hd:d∉tm y) (hc:∀ t,(F t).uses d=false):vc F y fun F1 rows=>∃ v1,(v=F d→v1=F1 d)∧K (eff none d v1 F1) rows∧fB ts F F1:=by
 obtain⟨ag,xs,h1,h2⟩:=cn h
 refine h2 F (mI hd hc) _ ?_
 split at h1
 ·exact⟨v,fun e=>e,h1,fB.refl _ _⟩
 ·refine eG (oC (ts:=ts) h1 hd hc) fun F1 ag cs h=>?_
  obtain⟨v1,h1,h,u1⟩:=h
  split at h
  ·exact⟨v1,h1,h,u1⟩
  ·exact h.elim
 ·exact h1.elim
theorem GH {d dj T:Nat} {ts:List Nat} {v:AV} {x y:Operand} {K:(Nat→AV)→Prop} (h:uY TE N (eff none d v F) dj T x y K) (hne:dj≠d) (hdt:d∉ts) (hx:d∉tm x) (hy:d∉tm y) (hc:∀ t,(F t).uses d=false):uY TE N F dj T x y (Fq d ts v F K):=by
 obtain⟨e,ie,h,hsel⟩:=iV h
 refine hsel _ (y8 (HO (ts:=ts) h hy hc) fun fl F1 xr h=>?_)
 obtain⟨v1,h1,h,u1⟩:=h
 refine uT (GB (ts:=ts) h hx (u1.clean hdt hc)) fun F2 rows h=>?_
 obtain⟨v2,h2,h,u2⟩:=h
 obtain⟨a1,a2,a3,a4,a5,h⟩:=Ap.out h
 refine Ap.mk a1 a2 a3 a4 a5 rfl (bF (ng (ts:=ts) h hne oU) fun F3 h3=>?_)
 exact Fq.trans h1 u1 (Fq.trans h2 u2 h3)
theorem EP {oj:Oper} {d:Nat} {v:AV} {K:(Nat→AV)→Prop} (hg:oj.guard=none) (hk:HR oj.op=true) (hne:oj.dst≠some d) (hl:d∉oj.looksAt ops) (hc:∀ t,(F t).uses d=false) (h:lZ P TE N ops oj K (eff none d v F)) :
  lZ P TE N ops oj (Fq d (oj.looksAt ops) v F K) F:=by
 unfold lZ fw at h ⊢
 rw[hg]at h ⊢
 simp only at h ⊢
 have hsub:∀ t,t∈cV oj.op→t∈oj.looksAt ops:=fun t ht=>fa oj t ht
 have pur:∀ dj,dj≠d→du P TE (eff none d v F) oj.op (fun av=>bA N (eff none d v F) dj av K)→du P TE F oj.op fun av=>bA N F dj av (Fq d (oj.looksAt ops) v F K):=fun dj hne h=>
  BB (p:=fun F K=>du P TE F oj.op K) (kC h) hne hsub hl hc
 have dne:∀ dj,oj.dst=some dj→dj≠d:=fun dj hd e=>hne (e ▸ hd)
 have tmI:∀ x,x∈oj.op.operands.toList→∀ t,t∈tm x→t∈oj.looksAt ops:=fun x hx t ht=>hsub t (List.mem_flatMap.2 ⟨x,hx,ht⟩)
 cases hop:oj.op with
 | store T x y=>
  rw[hop]at h tmI
  simp only[Gl]at h ⊢
  cases hd:oj.dst with
  | some dj=>rw[hd]at h;simp only[ot]at h;exact h.elim
  | none=>
   rw[hd]at h
   simp only at h ⊢
   exact Gd h hl (fun hm=>hl (tmI x (by simp[Op.operands]) d hm)) (fun hm=>hl (tmI y (by simp[Op.operands]) d hm)) hc
 | move x=>
  rw[hop]at h tmI
  cases hd:oj.dst with
  | none=>rw[hd]at h;exact h.elim
  | some dj=>
   rw[hd]at h
   cases x with
   | tmp t=>
    simp only[Gl,ot]at h ⊢
    exact Fc h (dne dj hd) hl (tmI (.tmp t) (by simp[Op.operands]) t (by simp[tm])) hc
   | _=>rw[hop]at hk;cases hk
 | assign x=>
  rw[hop]at h tmI
  cases hd:oj.dst with
  | none=>rw[hd]at h;exact h.elim
  | some dj=>
   rw[hd]at h
   simp only[Gl,ot]at h ⊢
   exact Ej h (dne dj hd) hl (tmI x (by simp[Op.operands])) hc
 | build T ps=>
  rw[hop]at h tmI
  cases hd:oj.dst with
  | none=>rw[hd]at h;exact h.elim
  | some dj=>
   rw[hd]at h
   simp only[Gl,ot]at h ⊢
   refine DW h (dne dj hd) hl (fun p hp hm=>hl (tmI p.2 ?_ d hm)) hc
   simp only[Op.operands]
   simpa using ⟨p.1,by simpa using hp⟩
 | extract x i=>rw[hop]at h pur;cases hd:oj.dst with|none=>rw[hd]at h;exact h.elim|some dj=>rw[hd]at h;exact pur dj (dne dj hd) h
 | load T x=>rw[hop]at h pur;cases hd:oj.dst with|none=>rw[hd]at h;exact h.elim|some dj=>rw[hd]at h;exact pur dj (dne dj hd) h
 | fieldAddr T x i=>rw[hop]at h pur;cases hd:oj.dst with|none=>rw[hd]at h;exact h.elim|some dj=>rw[hd]at h;exact pur dj (dne dj hd) h
 | field T x i=>rw[hop]at h pur;cases hd:oj.dst with|none=>rw[hd]at h;exact h.elim|some dj=>rw[hd]at h;exact pur dj (dne dj hd) h
 | binOp o T x y T2=>rw[hop]at h pur;cases hd:oj.dst with|none=>rw[hd]at h;exact h.elim|some dj=>rw[hd]at h;exact pur dj (dne dj hd) h
 | unOp o T x=>rw[hop]at h pur;cases hd:oj.dst with|none=>rw[hd]at h;exact h.elim|some dj=>rw[hd]at h;exact pur dj (dne dj hd) h
 | call c=>
  rw[hop]at hk h tmI
  cases ha:t7 c with
  | none=>simp[HR,ha]at hk
  | some p=>
   have hcc:=tg ha
   subst hcc
   cases hd:oj.dst with
   | none=>rw[hd]at h;exact h.elim
   | some dj=>
    rw[hd]at h
    simp only[Gl,ot,ha]at h ⊢
    exact GH h (dne dj hd) hl (fun hm=>hl (tmI p.2.1 (by simp[Op.operands,Call.operands]) d hm)) (fun hm=>hl (tmI p.2.2 (by simp[Op.operands,Call.operands]) d hm)) hc
 | _=>rw[hop]at hk;cases hk
theorem H0 {oj:Oper} {d:Nat} {K:(Nat→AV)→Prop} (hg:oj.guard=none) (hk:HR oj.op=true) (hne:oj.dst≠some d) (hl:d∉oj.looksAt ops) (hc:∀ t,(F t).uses d=false) (h:lZ P TE N ops oj K F) :
  lZ P TE N ops oj (fun F1=>K F1∧fB (oj.looksAt ops) F F1) F:=by
 refine kI (EP (d:=d) (v:=F d) hg hk hne hl hc (by rw[F6];exact h)) fun F1 h1=>?_
 obtain⟨v1,e,hK,u⟩:=h1
 rw[e rfl,F6]at hK
 exact⟨hK,u⟩
structure kg (ops:Array Oper) (ds:List Nat) (F:Nat→AV) (listed:Array Bool):Prop where
 dst:∀ (j:Nat) (o:Oper) (d:Nat),ns ds o=true→ops[j]? = some o→listed.getD j true=false→o.dst=some d→∀ t,(F t).uses d=false
 mv:∀ (j:Nat) (o:Oper) (T:Option Nat) (s:Nat),ns ds o=true→ops[j]? = some o→listed.getD j true=false→o.guard=none→ma o.op=some (T,s)→gT ops o s=true→∀ t,(F t).uses s=false
theorem kg.put {j d:Nat} {mv:Option Nat} {listed:Array Bool} {av:AV} (h:kg ops ds F listed) (hav:∀ j' o' d',ns ds o'=true→j'≠j→ops[j']? = some o'→listed.getD j' true=false→o'.dst=some d'→av.uses d'=false)
  (hmv:∀ j' o' T s,ns ds o'=true→j'≠j→ops[j']? = some o'→listed.getD j' true=false→o'.guard=none→ma o'.op=some (T,s)→gT ops o' s=true→av.uses s=false) :
  kg ops ds (eff mv d av F) (listed.setIfInBounds j true):=by
 refine⟨fun j' o' d' hm hj' hl hd' t=>?_,fun j' o' T s hm hj' hl hg hmo hso t=>?_⟩
 ·have hne:=fY hl
  rw[getD_set_ne true (Ne.symm hne)]at hl
  exact gY (hav j' o' d' hm hne hj' hl hd') (h.dst j' o' d' hm hj' hl hd' t)
 ·have hne:=fY hl
  rw[getD_set_ne true (Ne.symm hne)]at hl
  exact gY (hmv j' o' T s hm hne hj' hl hg hmo hso) (h.mv j' o' T s hm hj' hl hg hmo hso t)
theorem ss {o:Oper} (h:HZ o=true):o.guard=none:=by
 unfold HZ at h
 cases hg:o.guard with
 | none=>rfl
 | some p=>rw[hg]at h;cases h
theorem Gy {ts:List Nat} {d:Nat} (h:(!ts.any (Nat.beq d))=true):d∉ts:=fun hm=>by
 have:ts.any (Nat.beq d)=true:=List.any_eq_true.2 ⟨d,hm,Nat.beq_refl d⟩
 rw[this]at h;cases h
theorem Fz {oj oa:Oper} {d:Nat} (h:Ju ops oj oa=true) (hd:oa.dst=some d):oj.guard=none∧HR oj.op=true∧oj.dst≠some d∧d∉oj.looksAt ops∧oa.guard=none∧d∉oa.looksAt ops∧∀ T s,ma oa.op=some (T,s)→gT ops oa s=false:=by
 unfold Ju at h
 rw[hd]at h
 simp only[Bool.and_eq_true]at h
 obtain⟨⟨⟨⟨⟨⟨h1,h2⟩,h3⟩,h4⟩,h5⟩,h6⟩,h7⟩:=h
 refine⟨ss h1,h2,fun e=>?_,Gy h4,ss h5,Gy h6,fun T s e=>?_⟩
 ·rw[e]at h3;simp at h3
 ·rw[e]at h7;simpa using h7
theorem Gz {j i:Nat} (h:rk ops j i=true):lQ ops j i:=pq j _ (fun _ hi'=>.one (sU hi')) i h
theorem Du {o:Oper} (h:ns ds o=true):∃ d,o.dst=some d∧ds.any (Nat.beq d)=true:=by
 unfold ns at h
 cases hd:o.dst with
 | none=>rw[hd]at h;cases h
 | some d=>rw[hd]at h;exact⟨d,rfl,h⟩
structure HY (ops:Array Oper) (ds:List Nat):Prop where
 back:∀ (j:Nat) (oj:Oper),ops[j]? = some oj→∀ e∈oj.after,Region.binds .any e=true→e.on<j
 apart:∀ (i j:Nat) (oi oj:Oper),ns ds oi=true→ns ds oj=true→i≠j→ops[i]? = some oi→ops[j]? = some oj→cw oj i=true∨cw oi j=true∨oi.apart ops oj=true
 look:∀ (i j:Nat) (oi oj:Oper) (d:Nat),ns ds oi=true→i≠j→ops[i]? = some oi→ops[j]? = some oj→oi.dst=some d→d∈oj.looksAt ops→cw oj i=true
 differ:∀ (i j:Nat) (oi oj:Oper) (d:Nat),ns ds oi=true→ns ds oj=true→i≠j→ops[i]? = some oi→ops[j]? = some oj→oi.dst=some d→oj.dst≠some d
 nf:∀ (i j:Nat) (oi oj:Oper),ns ds oi=true→ns ds oj=false→i≠j→ops[i]? = some oi→ops[j]? = some oj→rk ops j i=true∨rk ops i j=true∨Ju ops oj oi=true
 mvs:∀ (j:Nat) (oj:Oper) (T:Option Nat) (s:Nat),ns ds oj=true→ops[j]? = some oj→ma oj.op=some (T,s)→gT ops oj s=true→ds.any (Nat.beq s)=true
theorem m0 {listed:Array Bool} {j i:Nat} {oj:Oper} (hok:HY ops ds) (hdc:DC ops listed) (hoj:ops[j]? = some oj) (hall:∀ e∈oj.after,Region.binds .any e=true→listed.getD e.on false=true) (hr:rk ops j i=true):listed.getD i false=true:=
 lm hdc hok.back (Gz hr) (Array.getElem?_eq_some_iff.1 hoj).1 fun k hk=>by
  rw[aR hoj]at hk
  obtain⟨e,he1,he2,rfl⟩:=bJ.1 hk
  exact hall e he1 he2
theorem unl {listed:Array Bool} {k:Nat} (h1:listed.getD k true=false) (h2:listed.getD k false=true):False:=by
 rcases Nat.lt_or_ge k listed.size with h'|h'
 ·simp[h']at h1 h2;rw[h1]at h2;cases h2
 ·simp[Array.getElem?_eq_none h']at h2
theorem gG.trans {F1 F2:Nat→AV} {ts:List Nat} (h1:gG F F1 ts) (h2:gG F1 F2 ts):gG F F2 ts:=fun t ht=>by
 obtain⟨a1,a2⟩:=h1 t ht
 obtain⟨b1,b2⟩:=h2 t ht
 refine⟨b1.trans a1,fun t' hu k cs hh=>b2 t' (by rw[a1];exact hu) k cs (a2 t' hu k cs hh)⟩
theorem kg.us {j:Nat} {oj:Oper} {F1:Nat→AV} {listed:Array Bool} (hok:HY ops ds) (h:kg ops ds F listed) (hoj:ops[j]? = some oj) (hall:∀ e∈oj.after,Region.binds .any e=true→listed.getD e.on false=true) (u:fB (oj.looksAt ops) F F1):kg ops ds F1 (listed.setIfInBounds j true):=by
 refine⟨fun j' o' d' hm hj' hl hd'=>u.clean (fun hlk=>?_) (h.dst j' o' d' hm hj' ?_ hd'),fun j' o' T s hm hj' hl hg hmo hso=>u.clean (fun hlk=>?_) (h.mv j' o' T s hm hj' ?_ hg hmo hso)⟩
 ·have hne:=fY hl
  rw[getD_set_ne true (Ne.symm hne)]at hl
  have:=hok.look j' j o' oj d' hm hne hj' hoj hd' hlk
  obtain⟨e,he1,he2,rfl⟩:=bJ.1 this
  exact unl hl (hall e he1 he2)
 ·have hne:=fY hl
  rwa [getD_set_ne true (Ne.symm hne)]at hl
 ·have hne:=fY hl
  exact hne ((eI hso).2 j' j o' oj hj' hoj (cr hmo) hlk)
 ·have hne:=fY hl
  rwa [getD_set_ne true (Ne.symm hne)]at hl
theorem HC {p d:Nat} {v:AV} {F1:Nat→AV} {op:Oper} (hop:ops[p]? = some op) (hd:d∉op.looksAt ops) (hc:∀ t,(F1 t).uses d=false) (hne:op.dst≠some d) (h:HB P TE ops p (eff none d v F1)):HB P TE ops p F1:=by
 obtain⟨dp,h1,h2,h3⟩:=h
 rw[aR hop]at h1 h2 h3
 refine⟨dp,by rw[aR hop];exact h1,?_,?_⟩
 ·rw[aR hop]
  rw[←h2]
  exact rz (ops:=ops) (mI hd hc)
 ·rw[aR hop]
  obtain⟨av,e1,-,e3⟩:=kC h3
  rw[dk (fun e=>hne (by rw[h1,e]))]at e1
  exact e3 F1 (mI (fun hm=>hd (fa op d hm)) hc) _ e1
theorem AC (hok:HY ops ds) {i d:Nat} {oi:Oper} {K:(Nat→AV)→Prop} (hi:ops[i]? = some oi) (him:ns ds oi=true) :
  ∀ (fuel:Nat) (listed:Array Bool) (F:Nat→AV) (mv:Option Nat) (av:AV),i∈Region.ready .any ops listed→kg ops ds F listed→DC ops listed→Yl P TE N ops oi F mv d av→BH P TE N ops ds K fuel (listed.setIfInBounds i true) (eff mv d av F)→BH P TE N ops ds K (fuel+1) listed F:=by
 have self:∀ (listed:Array Bool) (F:Nat→AV) (mv:Option Nat) (av:AV),i∈Region.ready .any ops listed→kg ops ds F listed→Yl P TE N ops oi F mv d av→∀ K':(Nat→AV)→Prop,K' (eff mv d av F)→jH P TE N ops oi K' F:=fun listed F mv av hr hcl hy K' hK=>by
  have hiun:=(mem_ready.1 hr).1
  refine hy.at_ F (gG.refl _ _) (hcl.dst i oi d him hi hiun hy.dst) (fun s hs=>?_) K' hK
  obtain⟨h1,⟨T,h2⟩,h3⟩:=hy.mvl s hs
  exact hcl.mv i oi T s him hi hiun h1 h2 h3
 intro fuel
 induction fuel with
 | zero=>
  intro listed F mv av hr hcl hdc hy H
  refine⟨fun h=>(by rw[h]at hr;cases hr),fun j hj=>?_⟩
  by_cases hji:j=i
  ·subst hji
   unfold tq
   rw[hi]
   simp only[if_pos him]
   exact self listed F mv av hr hcl hy _ H
  ·have:=ready_mono hj hji
   rw[H.1]at this
   cases this
 | succ fuel ih=>
  intro listed F mv av hr hcl hdc hy H
  refine⟨fun h=>(by rw[h]at hr;cases hr),fun j hj=>?_⟩
  by_cases hji:j=i
  ·subst hji
   unfold tq
   rw[hi]
   simp only[if_pos him]
   exact self listed F mv av hr hcl hy _ H
  ·have h1:=H.2 j (ready_mono hj hji)
   obtain⟨hjun,oj,hoj,hall⟩:=mem_ready.1 hj
   obtain⟨hiun,oi',hoi',halli⟩:=mem_ready.1 hr
   rw[hi]at hoi'
   simp only[Option.some.injEq]at hoi'
   subst hoi'
   have noedge:∀ k ok,ops[k]? = some ok→listed.getD k true=false→cw oj k=false:=fun k ok hk hkun=>by
    rw[←Bool.not_eq_true]
    intro he
    obtain⟨e,he1,he2,he3⟩:=bJ.1 he
    exact unl hkun (he3 ▸ hall e he1 he2)
   have noedge':∀ k ok,ops[k]? = some ok→listed.getD k true=false→cw oi k=false:=fun k ok hk hkun=>by
    rw[←Bool.not_eq_true]
    intro he
    obtain⟨e,he1,he2,he3⟩:=bJ.1 he
    exact unl hkun (he3 ▸ halli e he1 he2)
   have cd:∀ t,(F t).uses d=false:=hcl.dst i oi d him hi hiun hy.dst
   unfold tq at h1 ⊢
   rw[hoj]at h1 ⊢
   simp only at h1 ⊢
   by_cases hjm:ns ds oj=true
   case neg=>
    rw[if_neg hjm]at h1 ⊢
    have hji1:rk ops j i=false:=by
     rw[←Bool.not_eq_true]
     exact fun h=>unl hiun (m0 hok hdc hoj hall h)
    have hij1:rk ops i j=false:=by
     rw[←Bool.not_eq_true]
     exact fun h=>unl hjun (m0 hok hdc hi halli h)
    have hfb:Ju ops oj oi=true:=by
     rcases hok.nf i j oi oj him (by simpa using hjm) (Ne.symm hji) hi hoj with h|h|h
     ·rw[hji1]at h;cases h
     ·rw[hij1]at h;cases h
     ·exact h
    obtain⟨g1,g2,g3,g4,g5,g6,g7⟩:=Fz hfb hy.dst
    have hmv:mv=none:=by
     cases mv with
     | none=>rfl
     | some s=>
      obtain⟨-,⟨T,q1⟩,q2⟩:=hy.mvl s rfl
      rw[g7 T s q1]at q2;cases q2
    subst hmv
    refine kI (EP g1 g2 g3 g4 cd h1) fun F1 hF1=>?_
    obtain⟨v,-,⟨hchk,hrun⟩,u⟩:=hF1
    have cd1:∀ t,(F1 t).uses d=false:=u.clean g4 cd
    have hisz:i<listed.size:=by
     rcases Nat.lt_or_ge i listed.size with h|h
     ·exact h
     ·simp[Array.getElem?_eq_none h]at hiun
    have hrd:HB P TE ops i (eff none d v F1):=hchk i (by simp[hisz]) (by rw[aR hi];exact him) hji1
    refine⟨fun p hp1 hp2 hp3=>?_,ih (listed.setIfInBounds j true) F1 none v (ready_mono hr (Ne.symm hji)) (hcl.us hok hoj hall u) (hdc.put hj) ?_ (by rw[Array.setIfInBounds_comm _ _ hji];exact hrun)⟩
    ·have hpi:p≠i:=fun e=>by subst e;exact unl hiun hp1
     have hpl:p<ops.size:=by
      rcases Nat.lt_or_ge p ops.size with h|h
      ·exact h
      ·rw[show cK ops p=default by simp[cK,Array.getD_eq_getD_getElem?,Array.getElem?_eq_none h]]at hp2
       cases hp2
     have h0:ops[p]? = some ops[p]:=Array.getElem?_eq_getElem hpl
     have hp2':=hp2
     rw[aR h0]at hp2'
     refine HC h0 (fun hlk=>?_) cd1 (hok.differ i p oi _ d him hp2' (Ne.symm hpi) hi h0 hy.dst) (hchk p (getD_set_true hp1) hp2 hp3)
     have:=hok.look i p oi _ d him (Ne.symm hpi) hi h0 hy.dst hlk
     exact unl hiun (hdc p _ h0 hp1 i this)
    ·obtain⟨dp,q1,q2,q3⟩:=hrd
     rw[aR hi]at q1 q2 q3
     have hdp:dp=d:=by rw[hy.dst]at q1;simpa using q1.symm
     subst hdp
     rw[mN]at q3
     obtain⟨av',e1,e2,e3⟩:=kC q3
     subst e1
     have agr1:gG (eff none dp av' F1) F1 (oi.looksAt ops):=mI g6 cd1
     have fromv:dB F1 (oi.looksAt ops) av':=fun e he=>by
      rcases e2 e he with h|⟨t,ht,h⟩
      ·exact .inl (fa oi e h)
      ·have htl:=fa (ops:=ops) oi t ht
       have hne:t≠dp:=fun e=>g6 (e ▸ htl)
       rw[dk hne]at h
       exact .inr ⟨t,htl,h⟩
     have hself:av'.uses dp=false:=by
      cases hu:av'.uses dp with
      | false=>rfl
      | true=>
       rcases fromv dp hu with h|⟨t,_,h⟩
       ·exact absurd h g6
       ·rw[cd1 t]at h;cases h
     refine⟨hy.dst,hy.lt,hself,fromv,fun s hs=>(by cases hs),fun F' hA hd' _ K' hK=>?_⟩
     have agr2:=agr1.trans hA
     unfold jH
     rw[rz agr2,q2]
     simp only
     unfold iw fw
     rw[g5,hy.dst]
     simp only
     refine e3 F' (agr2.mono fun t ht=>fa oi t ht) _ ?_
     unfold bA
     rw[hy.lt,hself]
     show K' (put F' dp av')
     rw[wo av' hd']
     exact hK
   rw[if_pos hjm]at h1 ⊢
   have hap:oi.apart ops oj=true:=by
    rcases hok.apart i j oi oj him hjm (Ne.symm hji) hi hoj with h|h|h
    ·rw[noedge i oi hi hiun]at h;cases h
    ·rw[noedge' j oj hoj hjun]at h;cases h
    ·exact h
   obtain⟨ap1,ap2,ap3⟩:=Oper.apart_spec hap
   have hdl:d∉oj.looksAt ops:=ap1 d hy.dst
   have cdj':∀ dj,oj.dst=some dj→∀ t,(F t).uses dj=false:=fun dj hdj=>hcl.dst j oj dj hjm hoj hjun hdj
   have cmv:∀ s,mv=some s→(∀ t,(F t).uses s=false)∧s∉oj.looksAt ops∧s∈oi.looksAt ops:=fun s hs=>by
    obtain⟨g1,⟨T,g2⟩,g3⟩:=hy.mvl s hs
    exact⟨hcl.mv i oi T s him hi hiun g1 g2 g3,fun hl=>hji ((eI g3).2 i j oi oj hi hoj (cr g2) hl).symm,cr g2⟩
   have cmvj:∀ T s,oj.guard=none→ma oj.op=some (T,s)→gT ops oj s=true→(∀ t,(F t).uses s=false)∧s∉oi.looksAt ops∧s∈oj.looksAt ops:=fun T s g1 g2 g3=>
    ⟨hcl.mv j oj T s hjm hoj hjun g1 g2 g3,fun hl=>hji ((eI g3).2 i j oi oj hi hoj hl (cr g2)).symm,cr g2⟩
   have avno:∀ e,e∉oi.looksAt ops→(∀ t,(F t).uses e=false)→av.uses e=false:=fun e h1 h2=>by
    cases hu:av.uses e with
    | false=>rfl
    | true=>
     rcases hy.from_ e hu with h|⟨t,_,h⟩
     ·exact absurd h h1
     ·rw[h2 t]at h;cases h
   obtain⟨mvj,dj,avj,hyj,hKj⟩:=mV h1 (fun dj hdj t=>gY (avno dj (ap3 dj hdj) (cdj' dj hdj)) (cdj' dj hdj t)) (fun T s g1 g2 g3 t=>by
     obtain⟨c1,c2,-⟩:=cmvj T s g1 g2 g3
     exact gY (avno s c2 c1) (c1 t))
   have hdne:d≠dj:=fun e=>ap2 d hy.dst (by rw[hyj.dst,e])
   have hdjl:dj∉oi.looksAt ops:=ap3 dj hyj.dst
   have cdj:∀ t,(F t).uses dj=false:=cdj' dj hyj.dst
   have cmj:∀ s,mvj=some s→(∀ t,(F t).uses s=false)∧s∉oi.looksAt ops∧s∈oj.looksAt ops:=fun s hs=>by
    obtain⟨g1,⟨T,g2⟩,g3⟩:=hyj.mvl s hs
    exact cmvj T s g1 g2 g3
   have lookj:∀ t,t∈oj.looksAt ops→eff mv d av F t=F t:=fun t ht=>by
    unfold eff
    have e1:t≠d:=fun e=>hdl (e ▸ ht)
    have e2:mv≠some t:=fun e=>(cmv t e).2.1 ht
    rw[if_neg e1,if_neg e2]
   have looki:∀ t,t∈oi.looksAt ops→eff mvj dj avj F t=F t:=fun t ht=>by
    unfold eff
    have e1:t≠dj:=fun e=>hdjl (e ▸ ht)
    have e2:mvj≠some t:=fun e=>(cmj t e).2.1 ht
    rw[if_neg e1,if_neg e2]
   have avjno:∀ e,e∉oj.looksAt ops→(∀ t,(F t).uses e=false)→avj.uses e=false:=fun e h1 h2=>by
    cases hu:avj.uses e with
    | false=>rfl
    | true=>
     rcases hyj.from_ e hu with h|⟨t,ht,h⟩
     ·exact absurd h h1
     ·rw[lookj t ht,h2 t]at h;cases h
   have agrj:gG (eff mv d av F) F (oj.looksAt ops):=fun t ht=>by
    rw[lookj t ht]
    refine⟨rfl,fun t' hu k cs hh=>?_⟩
    have hne':t'≠d:=fun e=>by rw[e,cd t]at hu;cases hu
    have hnm:mv≠some t':=fun e=>by rw[(cmv t' e).1 t]at hu;cases hu
    unfold eff at hh
    rw[if_neg hne',if_neg hnm]at hh
    exact hh
   refine hyj.at_ F agrj cdj (fun s hs=>(cmj s hs).1) _ (ih (listed.setIfInBounds j true) (eff mvj dj avj F) mv av (ready_mono hr (Ne.symm hji)) (hcl.put (fun j' o' d' hm' hne' hj' hl' hd'=>?_) (fun j' o' T s hm' hne' hj' hl' g1 g2 g3=>?_)) (hdc.put hj) ?_ ?_)
   ·refine avjno d' (fun h=>?_) (hcl.dst j' o' d' hm' hj' hl' hd')
    have:=hok.look j' j o' oj d' hm' hne' hj' hoj hd' h
    rw[noedge j' o' hj' hl']at this;cases this
   ·exact avjno s (fun h=>hne' ((eI g3).2 j' j o' oj hj' hoj (cr g2) h)) (hcl.mv j' o' T s hm' hj' hl' g1 g2 g3)
   ·refine⟨hy.dst,hy.lt,hy.self,fun e he=>?_,hy.mvl,fun F' hA hd' hs' K' hK=>hy.at_ F' (fun t ht=>?_) hd' hs' K' hK⟩
    ·rcases hy.from_ e he with h|⟨t,ht,h⟩
     ·exact .inl h
     ·exact .inr ⟨t,ht,by rw[looki t ht];exact h⟩
    ·obtain⟨a1,a2⟩:=hA t ht
     rw[looki t ht]at a1 a2
     refine⟨a1,fun t' hu k cs hh=>a2 t' hu k cs ?_⟩
     have hne':t'≠dj:=fun e=>by rw[e,cdj t]at hu;cases hu
     have hnm:mvj≠some t':=fun e=>by rw[(cmj t' e).1 t]at hu;cases hu
     unfold eff
     rw[if_neg hne',if_neg hnm]
     exact hh
   ·rw[Array.setIfInBounds_comm _ _ hji]
    have:eff mv d av (eff mvj dj avj F)=eff mvj dj avj (eff mv d av F):=by
     funext t
     unfold eff
     by_cases e1:t=d
     ·have g1:t≠dj:=fun e=>hdne (e1.symm.trans e)
      have g2:mvj≠some t:=fun e=>hdl (e1 ▸ (cmj t e).2.2)
      simp only[if_pos e1,if_neg g1,if_neg g2]
     ·rw[if_neg e1]
      by_cases e2:t=dj
      ·have g2:mv≠some t:=fun e=>hdjl (e2 ▸ (cmv t e).2.2)
       simp only[if_pos e2,if_neg g2]
      ·simp only[if_neg e2,if_neg e1]
       by_cases e3:mv=some t
       ·by_cases e4:mvj=some t
        ·simp only[if_pos e3,if_pos e4]
        ·simp only[if_pos e3,if_neg e4]
       ·by_cases e4:mvj=some t
        ·simp only[if_neg e3,if_pos e4]
        ·simp only[if_neg e3,if_neg e4]
    rw[this]
    exact hKj
theorem uU:∀ {fl:List Nat} {X:Prop} {F:Nat→AV},F5 P TE ops fl X F→X∧∀ p,p∈fl→HB P TE ops p F
 | [],X,F,h=>⟨h,fun p hp=>by cases hp⟩
 | p::l,X,F,h=>by
  simp only[F5]at h
  unfold Jb at h
  cases hd:(cK ops p).dst with
  | none=>rw[hd]at h;exact h.elim
  | some d=>
   rw[hd]at h
   simp only at h
   cases hm:EI F (cK ops p) with
   | some q=>rw[hm]at h;exact h.elim
   | none=>
    rw[hm]at h
    simp only at h
    obtain⟨av,h1,-,-⟩:=kC h
    obtain⟨e,hX,hall⟩:=(show av=F d∧X∧∀ p,p∈l→HB P TE ops p F from⟨h1.out.1,uU h1.out.2⟩)
    refine⟨hX,fun p' hp'=>?_⟩
    rcases List.mem_cons.1 hp' with rfl|hp'
    ·exact⟨d,hd,hm,qj h fun av h=>h.out.1⟩
    ·exact hall p' hp'
theorem mS {l:List (Nat × List Nat)} {i:Nat} : np l i=true↔∃ p,p∈l∧p.1=i:=by
 unfold np
 rw[List.any_eq_true]
 exact⟨fun⟨p,h1,h2⟩=>⟨p,h1,Nat.eq_of_beq_eq_true h2⟩,fun⟨p,h1,h2⟩=>⟨p,h1,by rw[h2];exact Nat.beq_refl i⟩⟩
theorem ja {k:Nat × List Nat} {l:List (Nat × List Nat)} {i:Nat} : np (k::l) i=(Nat.beq k.1 i || np l i):=rfl
theorem xa (hok:HY ops ds) {K:(Nat→AV)→Prop} : ∀ (l:List (Nat × List Nat)) (listed:Array Bool) (F:Nat→AV),yf ops ds l=true→listed.size=ops.size→(∀ j,j<ops.size→listed.getD j true = !np l j)→kg ops ds F listed→DC ops listed→
  Eg P TE N ops ds l K F→BH P TE N ops ds K l.length listed F
 | [],listed,F,_,hs,hli,_,_,hp=>by
  refine⟨?_,hp⟩
  apply List.eq_nil_iff_forall_not_mem.2
  intro j hj
  obtain⟨h1,o,ho,-⟩:=mem_ready.1 hj
  have hlt:=(Array.getElem?_eq_some_iff.1 ho).1
  rw[hli j hlt]at h1
  cases h1
 | k::l,listed,F,hsch,hs,hli,hcl,hdc,hp=>by
  simp only[yf,Bool.and_eq_true]at hsch
  obtain⟨⟨⟨⟨q1,q2⟩,q3⟩,q4⟩,q5⟩:=hsch
  have hk:k.1<ops.size:=by simpa[Nat.blt_eq] using q1
  have h0:ops[k.1]? = some ops[k.1]:=Array.getElem?_eq_getElem hk
  have hrf:∀ i,i<ops.size→listed.getD i true=true→listed.getD i false=true:=fun i hi h=>by
   have h2:i<listed.size:=by omega
   simp[h2]at h ⊢;exact h
  have hready:k.1∈Region.ready .any ops listed:=mem_ready.2 ⟨by rw[hli k.1 hk,ja,Nat.beq_refl];rfl,_,h0,fun e he hb=>by
    have hlt:=hok.back k.1 _ h0 e he hb
    have hx:=q3
    rw[aR h0]at hx
    have h3:=List.all_eq_true.1 hx e (by simpa using he)
    rw[hb]at h3
    refine hrf e.on (by omega) ?_
    rw[hli e.on (by omega),ja]
    simpa using h3⟩
  have hli':∀ j,j<ops.size→(listed.setIfInBounds k.1 true).getD j true = !np l j:=fun j hj=>by
   by_cases hjk:j=k.1
   ·subst hjk
    have:np l k.1=false:=by simpa using q2
    rw[this]
    simp[hs,hj]
   ·rw[getD_set_ne true (Ne.symm hjk),hli j hj,ja,show Nat.beq k.1 j=false by rw[←Bool.not_eq_true,Nat.beq_eq];exact Ne.symm hjk];rfl
  show BH P TE N ops ds K (l.length+1) listed F
  simp only[Eg]at hp
  rw[aR h0]at hp q4
  have hun:listed.getD k.1 true=false:=(mem_ready.1 hready).1
  cases hfr:ns ds ops[k.1] with
  | true=>
   rw[hfr]at hp
   simp only[cond_true]at hp
   obtain⟨mv,d,av,hy,hp⟩:=mV hp (fun d hd=>hcl.dst k.1 _ d hfr h0 hun hd) (fun T s g1 g2 g3=>hcl.mv k.1 _ T s hfr h0 hun g1 g2 g3)
   have hall:∀ e∈ops[k.1].after,Region.binds .any e=true→listed.getD e.on false=true:=by
    obtain⟨-,o',ho',hall⟩:=mem_ready.1 hready
    rw[h0]at ho'
    simp only[Option.some.injEq]at ho'
    subst ho'
    exact hall
   refine AC hok h0 hfr l.length listed F mv av hready hcl hdc hy (xa hok l _ _ q5 (by simpa using hs) hli' (hcl.put (fun j' o' d' hm' hne' hj' hl'' hd'=>?_) (fun j' o' T s hm' hne' hj' hl'' g1 g2 g3=>?_)) (hdc.put hready) hp)
   ·cases hu:av.uses d' with
    | false=>rfl
    | true=>
     rcases hy.from_ d' hu with h|⟨t,_,h⟩
     ·have:=hok.look j' k.1 o' _ d' hm' hne' hj' h0 hd' h
      obtain⟨e,he1,he2,he3⟩:=bJ.1 this
      exact(unl hl'' (he3 ▸ hall e he1 he2)).elim
     ·rw[hcl.dst j' o' d' hm' hj' hl'' hd' t]at h;cases h
   ·cases hu:av.uses s with
    | false=>rfl
    | true=>
     rcases hy.from_ s hu with h|⟨t,_,h⟩
     ·exact absurd ((eI g3).2 j' k.1 o' _ hj' h0 (cr g2) h) hne'
     ·rw[hcl.mv j' o' T s hm' hj' hl'' g1 g2 g3 t]at h;cases h
  | false=>
   rw[hfr]at hp q4
   simp only[cond_false]at hp
   simp only[Bool.false_or,Bool.and_eq_true]at q4
   obtain⟨⟨r1,r2⟩,r3⟩:=q4
   refine⟨fun h=>(by rw[h]at hready;cases hready),fun j hj=>?_⟩
   obtain⟨hjun,oj,hoj,hall⟩:=mem_ready.1 hj
   have hjlt:=(Array.getElem?_eq_some_iff.1 hoj).1
   have hjk:j=k.1:=by
    rw[hli j hjlt,ja]at hjun
    cases hb:Nat.beq k.1 j with
    | true=>exact(Nat.eq_of_beq_eq_true hb).symm
    | false=>
     rw[hb]at hjun
     obtain⟨p,hp1,rfl⟩:=mS.1 (show np l j=true by simpa using hjun)
     exact(unl hun (m0 hok hdc hoj hall (List.all_eq_true.1 r1 p hp1))).elim
   subst hjk
   rw[h0]at hoj
   simp only[Option.some.injEq]at hoj
   subst hoj
   unfold tq
   rw[h0]
   simp only[hfr,if_neg (show ¬false=true by decide)]
   have post:∀ F1,F5 P TE ops k.2 (Eg P TE N ops ds l K F1) F1→kg ops ds F1 (listed.setIfInBounds k.1 true)→(∀ p,listed.getD p false=true→ns ds (cK ops p)=true→rk ops k.1 p=false→HB P TE ops p F1)∧BH P TE N ops ds K l.length (listed.setIfInBounds k.1 true) F1:=fun F1 hch hcl1=>by
    obtain⟨hrun,hrd⟩:=uU hch
    refine⟨fun p hp1 hp2 hp3=>hrd p ?_,xa hok l _ _ q5 (by simpa using hs) hli' hcl1 (hdc.put hready) hrun⟩
    have hpl:p<ops.size:=by
     rcases Nat.lt_or_ge p ops.size with h|h
     ·exact h
     ·rw[show cK ops p=default by simp[cK,Array.getD_eq_getD_getElem?,Array.getElem?_eq_none h]]at hp2
      cases hp2
    have h4:=fb r2 hpl
    rw[hp2,hp3]at h4
    have hml:np l p=false:=by
     rw[←Bool.not_eq_true]
     intro hm
     have:listed.getD p true=false:=by rw[hli p hpl,ja,hm];simp
     exact unl this hp1
    rw[hml]at h4
    simp only[Bool.not_true,Bool.false_or]at h4
    obtain⟨x,hx1,hx2⟩:=List.any_eq_true.1 h4
    exact Nat.eq_of_beq_eq_true hx2 ▸ hx1
   cases hlater:l.any (fun j=>ns ds (cK ops j.1)) with
   | false=>
    refine kI hp fun F1 hch=>post F1 hch ⟨fun j' o' d' hm' hj' hl'' hd'=>?_,fun j' o' T s hm' hj' hl''=>?_⟩
    all_goals
     exfalso
     have hj'lt:=(Array.getElem?_eq_some_iff.1 hj').1
     rw[hli' j' hj'lt]at hl''
     obtain⟨p,hp1,rfl⟩:=mS.1 (show np l j'=true by simpa using hl'')
     have:l.any (fun j=>ns ds (cK ops j.1))=true:=List.any_eq_true.2 ⟨p,hp1,by rw[aR hj'];exact hm'⟩
     rw[this]at hlater;cases hlater
   | true=>
    rw[hlater]at r3
    simp only[Bool.not_true,Bool.false_or,Bool.and_eq_true]at r3
    obtain⟨x,hx1,hx2⟩:=List.any_eq_true.1 hlater
    have hxun:listed.getD x.1 true=false∧x.1<ops.size:=by
     have hlt:x.1<ops.size:=by
      rcases Nat.lt_or_ge x.1 ops.size with h|h
      ·exact h
      ·rw[show cK ops x.1=default by simp[cK,Array.getD_eq_getD_getElem?,Array.getElem?_eq_none h]]at hx2
       cases hx2
     refine⟨?_,hlt⟩
     rw[hli x.1 hlt,ja,mS.2 ⟨x,hx1,rfl⟩];simp
    have hx0:ops[x.1]? = some ops[x.1]:=Array.getElem?_eq_getElem hxun.2
    rw[aR hx0]at hx2
    obtain⟨d,hd,hdd⟩:=Du hx2
    have hxk:x.1≠k.1:=fun e=>by
     have:np l k.1=true:=mS.2 ⟨x,hx1,e⟩
     rw[this]at q2;cases q2
    refine kI (H0 (d:=d) (ss r3.1) r3.2 (fun e=>?_) (fun hlk=>?_) (hcl.dst x.1 _ d hx2 hx0 hxun.1 hd) hp) fun F1 h1=>post F1 h1.1 (hcl.us hok h0 hall h1.2)
    ·unfold ns at hfr
     rw[e]at hfr
     simp only at hfr
     rw[hdd]at hfr;cases hfr
    ·have:=hok.look x.1 k.1 _ _ d hx2 hxk hx0 h0 hd hlk
     obtain⟨e,he1,he2,he3⟩:=bJ.1 this
     exact unl hxun.1 (he3 ▸ hall e he1 he2)
theorem xn {sch:List (Nat × List Nat)} (h:wq ops ds sch=true):HY ops ds∧yf ops ds sch=true∧sch.length=ops.size∧∀ j,j<ops.size→np sch j=true:=by
 unfold wq at h
 simp only[Bool.and_eq_true]at h
 obtain⟨⟨hb0,hlen⟩,hsch⟩:=h
 have hb:=fun j (hj:j<ops.size)=>fb hb0 hj
 have pr:∀ (i j:Nat) (oi oj:Oper),i≠j→ops[i]? = some oi→ops[j]? = some oj→uW ops ds i j=true:=fun i j oi oj hne h1 h2=>by
  have:=hb j (Array.getElem?_eq_some_iff.1 h2).1
  simp only[Bool.and_eq_true]at this
  have:=fb this.2 (Array.getElem?_eq_some_iff.1 h1).1
  rw[show Nat.beq i j=false by rw[←Bool.not_eq_true,Nat.beq_eq];exact hne]at this
  exact this
 refine⟨⟨fun j oj hj e he hbe=>?_,fun i j oi oj f1 f2 hne h1 h2=>?_,fun i j oi oj d f1 hne h1 h2 hd hl=>?_,fun i j oi oj d f1 f2 hne h1 h2 hd he=>?_,fun i j oi oj f1 f2 hne h1 h2=>?_,fun j oj T s f1 hj hmo hso=>?_⟩,hsch,Nat.eq_of_beq_eq_true hlen,fun j hj=>?_⟩
 ·have:=hb j (Array.getElem?_eq_some_iff.1 hj).1
  rw[aR hj]at this
  simp only[Bool.and_eq_true]at this
  have:=List.all_eq_true.1 this.1.1.1 e (by simpa using he)
  rw[hbe]at this
  simpa[Nat.blt_eq] using this
 ·have:=pr i j oi oj hne h1 h2
  unfold uW at this
  rw[aR h1,aR h2,f1,f2]at this
  simp only[cond_true,Bool.and_eq_true,Bool.or_eq_true]at this
  rcases this.1.1 with(h|h)|h
  ·exact .inl h
  ·exact .inr (.inl h)
  ·exact .inr (.inr h)
 ·have:=pr i j oi oj hne h1 h2
  unfold uW at this
  rw[aR h1,aR h2,f1]at this
  have hlk:qa ops i j=true:=by
   unfold qa
   rw[aR h1,hd]
   simp only
   rw[aR h2]
   exact List.any_eq_true.2 ⟨d,hl,Nat.beq_refl d⟩
  rw[hlk]at this
  cases f2:ns ds oj with
  | true=>
   rw[f2]at this
   simp only[cond_true,Bool.and_eq_true,Bool.not_true,Bool.false_or]at this
   exact this.1.2
  | false=>
   rw[f2]at this
   simp only[cond_true,cond_false,Bool.and_eq_true,Bool.not_true,Bool.false_or]at this
   exact this.2
 ·have:=pr i j oi oj hne h1 h2
  unfold uW at this
  rw[aR h1,aR h2,f1,f2,hd,he]at this
  simp[Nat.beq_refl]at this
 ·have:=pr i j oi oj hne h1 h2
  unfold uW at this
  rw[aR h1,aR h2,f1,f2]at this
  simp only[cond_true,cond_false,Bool.and_eq_true,Bool.or_eq_true]at this
  rcases this.1 with(h|h)|h
  ·exact .inl h
  ·exact .inr (.inl h)
  ·exact .inr (.inr h)
 ·have:=hb j (Array.getElem?_eq_some_iff.1 hj).1
  rw[aR hj]at this
  simp only[Bool.and_eq_true]at this
  have:=this.1.2
  rw[f1,hmo]at this
  simp only[hso,Bool.not_true,Bool.false_or]at this
  exact this
 ·have:=hb j hj
  simp only[Bool.and_eq_true]at this
  exact this.1.1.2
theorem so (hTE:∀ t i,TE t=some i→b9 P t i) (hm:P.follows .mixedOrders=true) {id:Nat} {tb:List (Nat × Nat × List Nat)} (hok:qx tb id ops=true) {K:(Nat→AV)→Prop} {Q:Exit→Act→World→Prop} (hp:DD P TE N tb id ops K F) (hs:St w0 M S0 N F a w)
  (hq:∀ F' a' w',K F'→St w0 M S0 N F' a' w'→Q .normal a' w'):(Code.region id ops true).wp P Q a w:=by
 unfold qx at hok
 unfold DD at hp
 cases htb:td tb id with
 | none=>rw[htb]at hok;cases hok
 | some p=>
  obtain⟨m,L⟩:=p
  rw[htb]at hok hp
  simp only at hok hp
  cases hm2:Nat.ble 256 m with
  | false=>
   rw[hm2]at hok hp
   exact xj hTE hm hok hp hs hq
  | true=>
   rw[hm2]at hok hp
   simp only[cond_true,Di]at hok hp
   generalize L.take (m - 256)=ds at hok hp
   generalize dec (L.drop (m - 256))=sch at hok hp
   obtain⟨hn,hsch,hlen,hmem⟩:=xn hok
   refine wp_region_any hm ?_
   have hs':St w0 M S0 N (Ab.clr ds F) a {w with drawn:=w.drawn+1}:=by
    have h1:=hs.clr ds
    obtain⟨S,φ,h⟩:=h1
    exact⟨S,φ,h.more (w1:={w with drawn:=w.drawn+1}) (fun _ _ h=>h) (fun _ _ h=>.inl h) ⟨rfl,rfl,rfl,Nat.le_refl _,fun _ _ _=>rfl,fun _ _ _ _=>rfl,fun _ _ _ _=>rfl⟩⟩
   refine sv hTE (ds:=ds) hq ops.size (Array.replicate ops.size false) _ a _ ?_ hs'
   have hcl:∀ d,ds.any (Nat.beq d)=true→∀ t,(Ab.clr ds F t).uses d=false:=fun d hd t=>by
    rw[xb]
    cases hb:ds.any (fun d=>(F t).uses d) with
    | true=>rfl
    | false=>
     simp only[cond_false]
     cases hu:(F t).uses d with
     | false=>rfl
     | true=>
      obtain⟨d',hd',he⟩:=List.any_eq_true.1 hd
      have he':=Nat.eq_of_beq_eq_true he
      subst he'
      have:ds.any (fun d=>(F t).uses d)=true:=List.any_eq_true.2 ⟨_,hd',hu⟩
      rw[this]at hb;cases hb
   rw[←hlen]
   refine xa hn sch _ _ hsch (by simp[hlen]) (fun j hj=>by rw[hmem j hj];simp[hlen,hj]) ⟨fun j o d f1 ho _ hd t=>?_,fun j o T s f1 ho _ _ g2 g3 t=>hcl s (hn.mvs j o T s f1 ho g2 g3) t⟩ (fun j oj hj hl=>by
     have hlt:=(Array.getElem?_eq_some_iff.1 hj).1
     simp[hlen,hlt]at hl) hp
   obtain⟨d',hd',hdd⟩:=Du f1
   rw[hd]at hd'
   simp only[Option.some.injEq]at hd'
   subst hd'
   exact hcl d hdd t
end
end Go.Proofs.YtogajjgmcnjkbaaGreat.Ab
namespace Go.Proofs.YtogajjgmcnjkbaaGreat.Ab
open Go.RowKit
def io:List (Option Nat)→Kd
 | [ag]=>jK ag
 | sh=>.tup sh
def ml:ResultVar→Nat
 | .tmp t=>t
 | .cell t _=>t
def y5 (tmps:Array Value):ResultVar→Sem Value
 | .tmp t=>pure (tmps.getD t undef)
 | .cell a t=>do loadVar t (←asAddr (tmps.getD a undef))
def resOne (TE:Nat→Option TI) (F:Nat→AV) (r:ResultVar) (K:Option Nat→List C→Prop):Prop:=
 match r with
 | .tmp t=>(match F t with
   | .hold .one cs=>K none cs
   | .hold .agg cs=>K (some cs.length) cs
   | _=>False)
 | .cell t T=>match TE T with
  | some i=>bif i.agg || Nat.beq i.size 1 then(match F t with
    | .hold .box cs=>bif Nat.beq cs.length i.size then K (nm i) cs else False
    | _=>False) else False
  | none=>False
def resA (TE:Nat→Option TI) (F:Nat→AV):List ResultVar→List Nat→(List (Option Nat)→List C→Prop)→Prop
 | [],_,K=>K [] []
 | r::rs,seen,K=>bif seen.any (Nat.beq (ml r)) then False else resOne TE F r fun ag cs=>resA TE F rs (ml r::seen) fun sh cs'=>K (ag::sh) (cs++cs')
def J1:RA→AV
 | .val ag cs=>.hold (jK ag) cs
 | .ptr cs=>.iref cs 0
 | .fn Ok=>.fv Ok
def zl:Nat→List RA→List (Nat × AV)
 | _,[]=>[]
 | i,A::As=>(i,J1 A)::zl (i+1) As
inductive GU:C→C→Prop
 |rfl_ (c:C):GU c c
 |z_:GU .z (.s .own [])
 |own_ (rows rows':List (List C)) (hl:rows.length=rows'.length) (hk:∀ (i:Nat) (r r':List C),rows[i]? = some r→rows'[i]? = some r'→r.length=r'.length)
   (hr:∀ (i j:Nat) (r r':List C) (c c':C),rows[i]? = some r→rows'[i]? = some r'→r[j]? = some c→r'[j]? = some c'→GU c c'):GU (.s .own rows) (.s .own rows')
def H1 (cs cs':List C):Prop:=cs.length=cs'.length∧∀ (j:Nat) (c c':C),cs[j]? = some c→cs'[j]? = some c'→GU c c'
theorem H1.nil:H1 [] []:=⟨rfl,fun j c c' h=>by simp at h⟩
theorem H1.cons {c c':C} {cs cs':List C} (h:GU c c') (hs:H1 cs cs'):H1 (c::cs) (c'::cs'):=by
 refine⟨by simp[hs.1],fun j y y' h1 h2=>?_⟩
 cases j with
 | zero=>simp at h1 h2;subst h1 h2;exact h
 | succ j=>exact hs.2 j y y' (by simpa using h1) (by simpa using h2)
theorem GU.rep {n:Nat} {r r':List C} (h:H1 r r'):GU (.s .own (List.replicate n r)) (.s .own (List.replicate n r')):=by
 refine .own_ _ _ (by simp) (fun i a b h1 h2=>?_) (fun i j a b c c' h1 h2 h3 h4=>?_)
 ·have e1:=List.mem_replicate.1 (List.mem_of_getElem? h1)
  have e2:=List.mem_replicate.1 (List.mem_of_getElem? h2)
  rw[e1.2,e2.2];exact h.1
 ·have e1:=List.mem_replicate.1 (List.mem_of_getElem? h1)
  have e2:=List.mem_replicate.1 (List.mem_of_getElem? h2)
  rw[e1.2]at h3
  rw[e2.2]at h4
  exact h.2 j c c' h3 h4
theorem Hg {w:World} {S Y:ab} {c:C} {v:Value} (h:dK w S Y c v):∀ c',GU c c'→dK w S Y c' v:=by
 induction h with
 | z F a=>
  intro c' hd
  cases hd with
  | rfl_=>exact .z _ _
  | z_=>exact .nil _ _ _ trivial
 | nil F o a ho=>
  intro c' hd
  cases hd with
  | rfl_=>exact .nil _ _ _ ho
  | own_ rows rows' hl=>obtain rfl:rows'=[]:=List.eq_nil_of_length_eq_zero (by simpa using hl.symm);exact .nil _ _ _ trivial
 | own F o g k n cap rows u f ho hn hk hcap hpos hF hu hf hd hc ih=>
  intro c' hd'
  cases hd' with
  | rfl_=>exact .own _ o g k n cap rows u f ho hn hk hcap hpos hF hu hf hd hc
  | own_ rows rows' hl hk2 hr=>
   have hrow:∀ (i:Nat) (r':List C),rows'[i]? = some r'→∃ r,rows[i]? = some r:=fun i r' hi=>⟨_,List.getElem?_eq_getElem (by have:=(List.getElem?_eq_some_iff.1 hi).1;omega)⟩
   refine .own _ .own g k n cap rows' u f trivial (hl.symm.trans hn) (fun r' hr'=>?_) hcap hpos hF hu hf hd (fun i j r' c' hi hj=>?_)
   ·obtain⟨i,hi⟩:=List.mem_iff_getElem?.1 hr'
    obtain⟨r,hri⟩:=hrow i r' hi
    rw[←hk2 i r r' hri hi]
    exact hk r (List.mem_of_getElem? hri)
   ·obtain⟨r,hri⟩:=hrow i r' hi
    have hlen:=hk2 i r r' hri hi
    have hjl:=(List.getElem?_eq_some_iff.1 hj).1
    have hcj:r[j]? = some (r[j]'(by omega)):=List.getElem?_eq_getElem (by omega)
    exact ih i j r _ hri hcj _ (hr i j r r' _ c' hri hi hcj hj)
 | v F x h1=>intro c' hd;cases hd;exact .v _ _ h1
 | x F u h1=>intro c' hd;cases hd;exact .x _ _ h1
 | imm F g off k n cap rows u hn hk hcap hS hc ih=>intro c' hd;cases hd;exact .imm _ g off k n cap rows u hn hk hcap hS hc
 | m F b clock es ents hF hb he hv hst=>intro c' hd;cases hd;exact .m _ b clock es ents hF hb he hv hst
 | it F r b since c0 clock seen ents cur left hF hr hb hst hc hv hl hcur=>intro c' hd;cases hd;exact .it _ r b since c0 clock seen ents cur left hF hr hb hst hc hv hl hcur
def WK (cs cs':List C):Prop:=G5 cs cs'∨H1 cs cs'
inductive oB (k k':Kd) (cs cs':List C):Prop
 |mk_ (h:k=k'∧WK cs cs')
theorem kN:∀ (cs:List C),G5 cs cs
 | []=>trivial
 | c::cs=>by
  refine⟨?_,kN cs⟩
  cases c with
  | s o rows=>cases o<;>rfl
  | x=>trivial
  | _=>rfl
theorem oB.mk {k k':Kd} {cs cs':List C} (h1:k=k') (h2:cs=cs'):oB k k' cs cs':=by refine .mk_ ?_;exact⟨h1,.inl (h2 ▸ kN cs)⟩
theorem oB.wk {k k':Kd} {cs cs':List C} (h1:k=k') (h2:G5 cs cs'):oB k k' cs cs':=.mk_ ⟨h1,.inl h2⟩
theorem oB.out {k k':Kd} {cs cs':List C} (h:oB k k' cs cs'):k=k'∧WK cs cs':=by obtain⟨h⟩:=h;exact h
theorem WK.len {cs cs':List C} (h:WK cs cs'):cs.length=cs'.length:=h.elim (fun h=>(rx h).1) (fun h=>h.1)
theorem WK.row {w:World} {S Y:ab} {cs cs':List C} {u:Nat→Value} (hc:WK cs cs') (h:cm w S Y cs u):cm w S Y cs' u:=by
 rcases hc with hc|hc
 ·exact BL hc h
 ·obtain⟨f,h1,h2,h3⟩:=h
  refine⟨f,fun j c' hj=>?_,fun j hj=>h2 j (by rw[hc.1];exact hj),fun j j' hj hj'=>h3 j j' (by rw[hc.1];exact hj) (by rw[hc.1];exact hj')⟩
  have hjl:=(List.getElem?_eq_some_iff.1 hj).1
  have hcj:cs[j]? = some (cs[j]'(by rw[hc.1];exact hjl)):=List.getElem?_eq_getElem (by rw[hc.1];exact hjl)
  exact Hg (h1 j _ hcj) c' (hc.2 j _ c' hcj hj)
def H9 (TE:Nat→Option TI) (rs:List ResultVar) (k:Kd) (rcs:List C):Exit→(Nat→AV)→Prop:=fun e F=>
 match e with
 | .normal=>resA TE F rs [] fun sh cs=>oB (io sh) k cs rcs
 | .ret=>resA TE F rs [] fun sh cs=>oB (io sh) k cs rcs
 | _=>False
section
variable {P:Program} {w0 w w1:World} {M S0 S:ab} {N:fq} {φ:Nat→ab} {F:Nat→AV} {a:Act} {TE:Nat→Option TI}
theorem aZ.resOne (h:aZ w0 M S0 N S φ F a w) (hTE:∀ t i,TE t=some i→b9 P t i) {r:ResultVar} {K:Option Nat→List C→Prop} (hp:resOne TE F r K) :
  ∃ ag cs v,K ag cs∧bo w S (φ (ml r)) ag cs v∧(y5 a.tmps r).run P w=.ok v w:=by
 cases r with
 | tmp t=>
  have hs:=h.slot t
  simp only[Ab.resOne]at hp
  cases hF:F t with
  | hold k cs=>
   rw[hF]at hp hs
   obtain⟨X1,Y,h1,h2,h3,h4,h5⟩:=hs
   cases k with
   | one=>exact⟨none,cs,tvs a t,hp,⟨h4,_,rfl,h5.mono (fun _ _ h=>h) h2⟩,rfl⟩
   | agg=>
    obtain⟨arr,hv,hsz⟩:=h4
    refine⟨some cs.length,cs,tvs a t,hp,⟨rfl,cA w .agg (tvs a t),?_,h5.mono (fun _ _ h=>h) h2⟩,rfl⟩
    rw[hv]
    have:=lc arr
    rw[hsz]at this
    exact this
   | _=>exact hp.elim
  | _=>rw[hF]at hp;exact hp.elim
 | cell t T=>
  have hs:=h.slot t
  simp only[Ab.resOne]at hp
  split at hp
  case h_2=>exact hp.elim
  rename_i i hT
  have ht:=hTE _ _ hT
  cases ha:(i.agg || Nat.beq i.size 1) with
  | false=>rw[ha]at hp;exact hp.elim
  | true=>
   rw[ha]at hp
   simp only[cond_true]at hp
   cases hF:F t with
   | hold k cs=>
    rw[hF]at hp hs
    cases k with
    | box=>
     simp only at hp
     cases hl:Nat.beq cs.length i.size with
     | false=>rw[hl]at hp;exact hp.elim
     | true=>
      rw[hl]at hp
      have hl':=Nat.eq_of_beq_eq_true hl
      obtain⟨X1,Y,h1,h2,h3,⟨g,o,hv,hb⟩,h5⟩:=hs
      have hcell:∀ d,d<i.size→cel w g (o+d)=some (cA w .box (tvs a t) d):=fun d hd=>by
       obtain⟨-,⟨z,hz⟩,-⟩:=hb d (by omega)
       rw[hv];simp only[cA,hz,Option.getD_some]
      have hrun:=tG (w:=w) ht ha hcell
      refine⟨_,cs,_,hp,⟨by rw[mL ha];exact hl',_,rfl,h5.mono (fun _ _ h=>h) h2⟩,?_⟩
      have hv':a.tmps.getD t undef=.pointer (some ⟨g,o,none⟩):=hv
      simp only[y5,hv',asAddr]
      exact hrun
    | _=>exact hp.elim
   | _=>rw[hF]at hp;exact hp.elim
theorem Bq {ag:Option Nat} {cs:List C} {v:Value} {Y:ab} (h:bo w S Y ag cs v):∃ u,v.cells.toList=(List.range cs.length).map u∧cm w S Y cs u∧v=mkv ag u:=by
 obtain⟨hl,u,rfl,hr⟩:=h
 refine⟨u,?_,hr,rfl⟩
 rw[mY (fun e=>by subst e;exact hr.one (by simp at hl;omega)),hl]
theorem t8 {Y1 Y2:ab} {cs cs':List C} {u u':Nat→Value} (h:cm w S Y1 cs u) (h':cm w S Y2 cs' u') (hd:∀ b o,Y1 b o→¬Y2 b o) :
  cm w S (fun b o=>Y1 b o∨Y2 b o) (cs++cs') (fun j=>if j<cs.length then u j else u' (j - cs.length)):=by
 obtain⟨f,h1,h2,h3⟩:=h
 obtain⟨f',h1',h2',h3'⟩:=h'
 refine⟨fun j=>if j<cs.length then f j else f' (j - cs.length),fun j c hj=>?_,fun j hj b o hb=>?_,fun j j' hj hj' hne b o hb hb'=>?_⟩
 ·by_cases hl:j<cs.length
  ·simp only[if_pos hl];rw[List.getElem?_append_left hl]at hj;exact h1 j c hj
  ·simp only[if_neg hl];rw[List.getElem?_append_right (by omega)]at hj;exact h1' _ c hj
 ·rw[List.length_append]at hj
  by_cases hl:j<cs.length
  ·rw[if_pos hl]at hb;exact .inl (h2 j hl b o hb)
  ·rw[if_neg hl]at hb;exact .inr (h2' _ (by omega) b o hb)
 ·rw[List.length_append]at hj hj'
  by_cases hl:j<cs.length
  ·rw[if_pos hl]at hb
   by_cases hl':j'<cs.length
   ·rw[if_pos hl']at hb';exact h3 j j' hl hl' hne b o hb hb'
   ·rw[if_neg hl']at hb';exact hd b o (h2 j hl b o hb) (h2' _ (by omega) b o hb')
  ·rw[if_neg hl]at hb
   by_cases hl':j'<cs.length
   ·rw[if_pos hl']at hb';exact hd b o (h2 j' hl' b o hb') (h2' _ (by omega) b o hb)
   ·rw[if_neg hl']at hb';exact h3' _ _ (by omega) (by omega) (by omega) b o hb hb'
theorem aZ.resA (h:aZ w0 M S0 N S φ F a w) (hTE:∀ t i,TE t=some i→b9 P t i):∀ {rs:List ResultVar} {seen:List Nat} {K:List (Option Nat)→List C→Prop},resA TE F rs seen K→
  ∃ sh cs vs u,K sh cs∧(rs.mapM (y5 a.tmps)).run P w=.ok vs w∧sS sh vs∧sh.length=rs.length∧n0 sh=cs.length∧
   (vs.flatMap fun v=>v.cells.toList)=(List.range cs.length).map u∧(∀ ag,sh=[ag]→∃ v,vs=[v]∧bo w S (fun b o=>∃ t,t∉seen∧φ t b o) ag cs v)∧cm w S (fun b o=>∃ t,t∉seen∧φ t b o) cs u
 | [],seen,K,hp=>⟨[],[],[],fun _=>undef,hp,rfl,trivial,rfl,rfl,rfl,fun _ h=>by simp at h,cm.nil _ _ _ _⟩
 | r::rs,seen,K,hp=>by
  simp only[Ab.resA]at hp
  cases hseen:seen.any (Nat.beq (ml r)) with
  | true=>rw[hseen]at hp;exact hp.elim
  | false=>
   rw[hseen]at hp
   simp only[cond_false]at hp
   have hns:ml r∉seen:=fun hm=>by
    have:seen.any (Nat.beq (ml r))=true:=List.any_eq_true.2 ⟨_,hm,Nat.beq_refl _⟩
    rw[this]at hseen;cases hseen
   obtain⟨ag,cs,v,hp,hv,hrun⟩:=h.resOne hTE hp
   obtain⟨sh,cs',vs,u',hK,hrun',hT,hln,hL,hcells,-,hrow⟩:=aZ.resA h hTE hp
   obtain⟨u,hcv,hr,hmk⟩:=Bq hv
   have hd:∀ b o,φ (ml r) b o→¬∃ t,t∉ml r::seen∧φ t b o:=fun b o hb ⟨t,ht,hb'⟩=>h.dis _ _ (fun e=>ht (by rw[←e];simp)) b o hb hb'
   refine⟨ag::sh,cs++cs',v::vs,fun j=>if j<cs.length then u j else u' (j - cs.length),hK,?_,?_,by simp[hln],?_,?_,?_,?_⟩
   ·rw[List.mapM_cons]
    simp only[Sem.run_bind,hrun,Result.andThen_ok,hrun',Sem.run_pure]
   ·obtain⟨hl,-⟩:=hv
    cases ag with
    | none=>
     refine⟨?_,hT⟩
     rw[hmk]
     have h1:(u 0).oneCell'=true:=hr.one (by simp at hl;omega)
     show(u 0).cells = #[u 0]
     cases hu:u 0<;>first|(rw[hu]at h1;cases h1;done)|rfl
    | some n=>exact⟨⟨_,by rw[hmk];rfl,by simp⟩,hT⟩
   ·rw[oq,List.length_append,hL,hv.1]
   ·simp only[List.flatMap_cons,hcv,hcells,List.length_append]
    apply List.ext_getElem?
    intro j
    by_cases hj:j<cs.length
    ·rw[List.getElem?_append_left (by simpa using hj)];simp[hj,Nat.lt_add_right]
    ·rw[List.getElem?_append_right (by simp;omega)]
     by_cases hj2:j - cs.length<cs'.length
     ·simp[hj,hj2,show j<cs.length+cs'.length by omega]
     ·simp[hj2,show ¬j<cs.length+cs'.length by omega]
   ·intro ag' hag
    simp only[List.cons.injEq]at hag
    obtain⟨rfl,rfl⟩:=hag
    cases vs with
    | cons _ _=>exact hT.elim
    | nil=>
     have:cs'=[]:=List.eq_nil_of_length_eq_zero (by simpa[n0] using hL.symm)
     subst this
     exact⟨v,rfl,by rw[List.append_nil];exact hv.mono (fun _ _ h=>h) (fun b o hb=>⟨_,hns,hb⟩)⟩
   ·exact(t8 hr hrow hd).mono (fun _ _ h=>h) (fun b o hb=>hb.elim (fun hb=>⟨_,hns,hb⟩) (fun⟨t,ht,hb⟩=>⟨t,fun hm=>ht (List.mem_cons_of_mem _ hm),hb⟩))
theorem vK:∀ {A:List RA} {vs:List Value} (i:Nat),tR w S A vs→∀ t,(lay (zl i A) t=.dead)∨(∃ A0 v,i≤t∧vs[t - i]? = some v∧lay (zl i A) t=J1 A0∧md w S A0 v)
 | [],_,i,_,t=>.inl rfl
 | A0::A,[],i,h,t=>h.elim
 | A0::A,v::vs,i,h,t=>by
  simp only[zl,lay]
  cases hb:Nat.beq t i with
  | true=>
   have:=Nat.eq_of_beq_eq_true hb
   subst this
   exact .inr ⟨A0,v,Nat.le_refl _,by simp,rfl,h.1⟩
  | false=>
   have hne:t≠i:=fun e=>by subst e;rw[Nat.beq_refl]at hb;cases hb
   rcases vK (i+1) h.2 t with h1|⟨A1,v',h1,h2,h3⟩
   ·exact .inl h1
   ·refine .inr ⟨A1,v',by omega,?_,h3⟩
    rw[show t - i=(t - (i+1))+1 by omega]
    simpa using h2
theorem md.slot {A:RA} {v:Value} (h:md w S A v) {tv:Nat→Value} : cb w S F tv NO (J1 A) v:=by
 cases A with
 | val ag cs=>exact bo.slot h
 | ptr cs=>obtain⟨g,b,u,e1,e2,e3⟩:=h;exact⟨g,b,u,by rw[e1,Nat.add_zero],e2,e3⟩
 | fn Ok=>exact h
theorem BZ:∀ {A:List RA} {vs:List Value},tR w S A vs→A.length=vs.length
 | [],[],_=>rfl
 | _::_,_::_,h=>by simp[BZ h.2]
 | [],_::_,h=>h.elim
 | _::_,[],h=>h.elim
theorem E7 {D : Nat → Array Oper → ((Nat → AV) → Prop) → (Nat → AV) → Prop} {f : Nat} {fn : Func} {c : Code} {sh : Bool} {A : List RA} {k : Kd} {rcs : List C} (hTE : ∀ t i, TE t = some i → b9 P t i) (hf : P.funcs[f]? = some fn) (hn : (fn.name == "runtime.NumGoroutine") = false)
  (hb:fn.body=some c) {ck:Nat→Array Oper→Bool} (hD:wC P N ck D) (hc:gt ck c=true) (hN:A.length+(fn.ntmps - A.length)=N.n) (hkp:N.kp=[]) (hsh:sh=true∨fK rcs) (hp:aw P TE N D c (H9 TE fn.results.toList k rcs) (lay (zl 0 A))):af P f sh A k rcs:=by
 refine⟨⟨fn,hf,hn,by rw[hb];rfl⟩,fun w S vs hS hA=>?_⟩
 have hlen:=BZ hA
 refine calls_of_wp hf hb ?_
 have hst:St w NO S N (lay (zl 0 A)) {tmps:=vs.toArray++Array.replicate (fn.ntmps - vs.toArray.size) undef,defers:=[]} w:=by
  refine⟨S,fun _=>NO,fun t=>?_,fun _ _ _ _ _ h=>h.elim,fun _ _ _ h=>h.elim,fun _ _ _ h=>h.elim,fun _ _ h=>h,fun b o h=>⟨hS b o h,.inl h⟩,bu.refl _ _,by simp;omega,rfl,fun p hp=>by rw[hkp]at hp;cases hp⟩
  rcases vK 0 hA t with h1|⟨A0,v,-,h2,h3,h4⟩
  ·rw[h1];trivial
  ·rw[h3]
   have hv:tvs {tmps:=vs.toArray++Array.replicate (fn.ntmps - vs.toArray.size) undef,defers:=[]} t=v:=by
    have hlt:=(List.getElem?_eq_some_iff.1 h2).1
    simp only[tvs,Array.getD_eq_getD_getElem?]
    rw[Array.getElem?_append_left (by simpa using hlt)]
    simp only[List.getElem?_toArray]
    rw[show vs[t]? = some v by simpa using h2];rfl
   rw[hv]
   exact h4.slot
 refine gR hTE hD c hc _ _ _ _ w hp hst fun e F' a' w' he hs'=>?_
 obtain⟨S',φ',h⟩:=hs'
 have fin:resA TE F' fn.results.toList [] (fun sh cs=>oB (io sh) k cs rcs)→a'.defers=[]∧∃ v,(results fn a'.tmps).run P w'=.ok v w'∧(∃ v',Ending.returned v=.returned v'∧bu NO w w'∧∃ X S1:ab,(∀ b o,X b o→b<w'.heap.size∧w.heap.size≤b)∧
     (∀ b o,S1 b o→(sh=true∧S b o)∨(b<w'.heap.size∧w.heap.size≤b))∧(∀ b o,X b o→¬S1 b o)∧fI w' NO k rcs.length v'∧cm w' S1 X rcs (cA w' k v')):=by
  intro hr
  obtain⟨shs,cs,vs',u,hfin,hrun,hT,hln,hL,hcells,hone,hrow⟩:=h.resA hTE hr
  obtain⟨rfl,hwk⟩:=hfin.out
  refine⟨h.defers,?_⟩
  have hrun2:(results fn a'.tmps).run P w'=.ok (if h:vs'.toArray.size=1 then vs'.toArray[0] else .tuple vs'.toArray) w':=by
   have e:results fn a'.tmps=(do let vs ←fn.results.mapM (y5 a'.tmps);pure (if h:vs.size=1 then vs[0] else .tuple vs)):=by
    unfold results
    congr 1
   rw[e,←Array.toArray_toList (xs:=fn.results),List.mapM_toArray]
   simp only[Sem.run_bind,Sem.run_map,hrun,Result.andThen_ok,Sem.run_pure]
  refine⟨_,hrun2,_,rfl,h.old,fun b o=>∃ t,φ' t b o,fun b o=>(sh=true∧S' b o)∨(S' b o∧w.heap.size≤b),fun b o ⟨t,hb⟩=>⟨(h.ex t b o hb).1,(h.ex t b o hb).2.resolve_right (fun h=>h)⟩,fun b o hb=>?_,fun b o ⟨t,hb⟩ hb'=>h.disS t b o hb (hb'.elim (·.2) (·.1)),?_⟩
  ·rcases hb with⟨h1,h2⟩|⟨h1,h2⟩
   ·rcases(h.sup b o h2).2 with h3|h3|h3
    ·exact .inl ⟨h1,h3⟩
    ·exact .inr ⟨(h.sup b o h2).1,h3⟩
    ·exact h3.elim
   ·exact .inr ⟨(h.sup b o h1).1,h2⟩
  ·have hk:fI w' NO (io shs) cs.length (if h:vs'.toArray.size=1 then vs'.toArray[0] else .tuple vs'.toArray)∧cm w' S' (fun b o=>∃ t,φ' t b o) cs (cA w' (io shs) (if h:vs'.toArray.size=1 then vs'.toArray[0] else .tuple vs'.toArray)):=by
    have hall:∀ b o,(∃ t,t∉([]:List Nat)∧φ' t b o)→∃ t,φ' t b o:=fun b o ⟨t,_,hb⟩=>⟨t,hb⟩
    match shs,hT,hone,hL with
    | [],hT,_,hL=>
     cases vs' with
     | cons _ _=>exact hT.elim
     | nil=>
      have:cs=[]:=List.eq_nil_of_length_eq_zero (by simpa[n0] using hL.symm)
      subst this
      exact⟨⟨_,rfl,trivial,rfl⟩,cm.nil _ _ _ _⟩
    | [ag],_,hone,_=>
     obtain⟨v,rfl,hv⟩:=hone ag rfl
     have:=(hv.mono (fun _ _ h=>h) hall).slot (F:=F') (tv:=tvs a')
     obtain⟨X1,Y,h1,h2,h3,h4,h5⟩:=this
     refine⟨?_,h5.mono (fun _ _ h=>h) h2⟩
     cases ag<;>exact h4
    | ag::ag2::sh,hT,_,hL=>
     have hsz:¬vs'.toArray.size=1:=by
      match vs',hT with
      | [],hT=>simp
      | [v],hT=>cases ag<;>cases ag2<;>exact hT.2.elim
      | _::_::_,_=>simp
     rw[dif_neg hsz]
     refine⟨⟨_,rfl,hT,hL⟩,(hrow.mono (fun _ _ h=>h) hall).congr fun j hj=>?_⟩
     simp only[cA,io,kL,hcells]
     simp[List.getD,hj]
   replace hk:=And.intro hk.1 (hwk.row hk.2)
   refine⟨by rw[←hwk.len];exact hk.1,?_⟩
   rcases hsh with h1|h1
   ·exact hk.2.mono (fun b o hb=>.inl ⟨h1,hb⟩) (fun _ _ h=>h)
   ·exact(hk.2.fresh h1).mono (fun _ _ h=>h.elim) (fun _ _ h=>h)
 cases e with
 | normal=>exact fin he
 | ret=>exact fin he
 | _=>exact he.elim
end
end Go.Proofs.YtogajjgmcnjkbaaGreat.Ab
namespace Go.Proofs.YtogajjgmcnjkbaaGreat.Ab
open Go.RowKit
inductive GS (bs:List C) (off:Nat) (K:List C→Prop):Prop
 |mk_ (h:∃ o rows rows' bs',bs[off]? = some (.s o rows)∧fz (.s o rows)=.s .imm rows'∧bs'=splice bs off [.s .imm rows']∧K bs')
theorem GS.mk {bs bs':List C} {off:Nat} {K:List C→Prop} {o:dy} {rows rows':List (List C)} (h1:bs[off]? = some (.s o rows)) (h2:fz (.s o rows)=.s .imm rows') (h3:bs'=splice bs off [.s .imm rows']) (hK:K bs'):GS bs off K:=by refine .mk_ ?_;exact⟨o,rows,rows',bs',h1,h2,h3,hK⟩
theorem GS.out {bs:List C} {off:Nat} {K:List C→Prop} (h:GS bs off K):∃ o rows,bs[off]? = some (.s o rows)∧K (splice bs off [fz (.s o rows)]):=by
 obtain⟨h⟩:=h;obtain⟨o,rows,rows',bs',h1,h2,rfl,h3⟩:=h;exact⟨o,rows,h1,by rw[h2];exact h3⟩
def ry (t:Nat):List Nat→((Nat→AV)→Prop)→(Nat→AV)→Prop
 | [],K,F=>K F
 | off::l,K,F=>(match F t with
   | .hold k bs=>GS bs off fun bs'=>ry t l K (updH F t k bs')
   | _=>False)
def DF (P:Program) (TE:Nat→Option TI) (N:fq) (tb:List (Nat × Nat × List Nat)) (id:Nat) (ops:Array Oper) (K:(Nat→AV)→Prop) (F:Nat→AV):Prop:=
 match td tb (id+1048576) with
 | some (t,offs)=>ry t offs (DD P TE N tb id ops K) F
 | none=>DD P TE N tb id ops K F
theorem wn {cs:List C} {off:Nat} {c c':C} (h:off<cs.length):splice (splice cs off [c]) off [c']=splice cs off [c']:=by
 apply List.ext_getElem?
 intro j
 have hl:(splice cs off [c]).length=cs.length:=by simp[splice];omega
 rw[gC (by rw[hl];simp;omega),gC (by simp;omega),gC (by simp;omega)]
 simp only[List.length_singleton]
 split
 ·rfl
 ·rfl
theorem EE (t:Nat) (v:AV):pa t (pa t v)=pa t v:=by
 cases v with
 | bor t' off st ag=>simp only[pa];cases hb:Nat.beq t' t<;>simp[hb]
 | ref t' off st=>
  cases st with
  | nil=>rfl
  | cons s st=>simp only[pa];cases hb:Nat.beq t' t<;>simp[hb]
 | _=>rfl
theorem AS (F:Nat→AV) (t:Nat) (k:Kd) (x y:List C):updH (updH F t k x) t k y=updH F t k y:=by
 funext s
 by_cases e:s=t
 ·subst e;rw[fg,fg]
 ·rw[dR _ _ _ e,dR _ _ _ e,dR _ _ _ e,EE]
theorem aZ.fzCell {w0 w:World} {M S0 S:ab} {N:fq} {φ:Nat→ab} {F:Nat→AV} {a:Act} (h:aZ w0 M S0 N S φ F a w) {t off:Nat} {k:Kd} {bs:List C} {o:dy} {rows:List (List C)} (hF:F t=.hold k bs) (hb:bs[off]? = some (.s o rows)):St w0 M S0 N (updH F t k (splice bs off [fz (.s o rows)])) a w:=by
 have hlt:off<bs.length:=(List.getElem?_eq_some_iff.1 hb).1
 have htk:bp bs off 1=[.s o rows]:=by
  unfold bp
  rw[List.drop_eq_getElem_cons hlt,List.take_one]
  have:=List.getElem?_eq_some_iff.1 hb
  simp[this.2]
 obtain⟨V,X,h1,h2,hX,h3,h4⟩:=h.take hF (off:=off) (n:=1) (by omega)
 rw[htk]at h3
 have hV:Free w0 M S (fun s=>if s=t then X else φ s) w V:=fun b o hb=>by
  refine⟨fun s hs=>?_,h.disS t b o (h1 b o hb),h.ex t b o (h1 b o hb)⟩
  replace hs:(if s=t then X else φ s) b o:=hs
  by_cases e:s=t
  ·rw[if_pos e]at hs;exact h2 b o hb hs
  ·rw[if_neg e]at hs;exact h.dis s t e b o hs (h1 b o hb)
 have h5:=h4.addS (S':=fun b o=>S b o∨V b o) hV (fun _ _ h=>.inl h) (fun _ _ h=>h)
 have hsl:(splice bs off (List.replicate 1 C.x)).length=bs.length:=by simp[splice];omega
 obtain⟨φ',h6,-⟩:=h5.back (out:=[fz (.s o rows)]) (off:=off) (j:=off) (st:=[]) (r:=splice bs off (List.replicate 1 .x)) (fg ..) rfl trivial (by rw[hsl];simp;omega) (V:=NO) (fun _ _ h=>h.elim) (h3.freeze.congr fun d _=>rfl)
 rw[AS]at h6
 rw[←wn (c:=.x) hlt]
 exact⟨_,φ',h6⟩
theorem zV {w0 w:World} {M S0:ab} {N:fq} {a:Act} {t:Nat} {K:(Nat→AV)→Prop} : ∀ {offs:List Nat} {F:Nat→AV},ry t offs K F→St w0 M S0 N F a w→∃ F',K F'∧St w0 M S0 N F' a w
 | [],F,hp,hs=>⟨F,hp,hs⟩
 | off::l,F,hp,hs=>by
  unfold ry at hp
  cases hF:F t with
  | hold k bs=>
   rw[hF]at hp
   obtain⟨o,rows,h1,h2⟩:=GS.out hp
   obtain⟨S,φ,h⟩:=hs
   exact zV h2 (h.fzCell hF h1)
  | _=>rw[hF]at hp;exact hp.elim
theorem tB {P:Program} {TE:Nat→Option TI} (hTE:∀ t i,TE t=some i→b9 P t i) (hm:P.follows .mixedOrders=true) (N:fq) (tb:List (Nat × Nat × List Nat)):wC P N (qx tb) (DF P TE N tb):=
 fun _ _ hok _ _ _ _ _ _ _ _ hp hs hq=>by
  unfold DF at hp
  split at hp
  ·obtain⟨F',hK,hs'⟩:=zV hp hs
   exact so hTE hm hok hK hs' hq
  ·exact so hTE hm hok hp hs hq
end Go.Proofs.YtogajjgmcnjkbaaGreat.Ab
