/- A slot-only operation looks at its operands alone (the rest), and: a region that draws its order may be run in the text's. No condition. -/
import Derived.Test.YtembpgjjnioagaaGreatMb
import Derived.Orders
import Derived.Test.YtembpgjjnioagaaGreatMa
import Derived.KernelRfl
import Derived.Test.YtembpgjjnioagaaGreatProg
set_option linter.unusedVariables false
set_option linter.unusedSimpArgs false
set_option linter.constructorNameAsVariable false
namespace Go.Proofs.YtembpgjjnioagaaGreat.Ab
open Go.RowKit
section
variable {F:Nat->AV} {K:AV->Prop} {TE:Nat->Option TI} {P:Program}
theorem Hq {op:BinOp} {x y:Value} {K K':Value->Prop} (h:Ag op x y K) (hk:∀ v,K v->K' v):Ag op x y K':=by
 cases x<;>cases y<;>try exact h.elim
 rename_i k a k' b;have sk:∀ {X Y:Prop},(bif fB k k' then X else False)->(X->Y)->(bif fB k k' then Y else False):=fun {X Y} h hxy=>by
  cases hs:fB k k' with
  | true=>rw[hs]at h;exact hxy h
  | false=>rw[hs]at h;exact h.elim
 have wr:∀ {k:IntKind} {x:Int},Wr k x (fun z=>K (.int k z))->Wr k x (fun z=>K' (.int k z)):=fun h=>by
  obtain⟨z,h1,h2⟩:=h.out;exact Wr.mk h1 (hk _ h2)
 have ev:∀ {k:IntKind} {x:Int},Ev x (fun z=>K (.int k z))->Ev x (fun z=>K' (.int k z)):=fun h=>by
  obtain⟨z,h1,h2⟩:=h.out;exact Ev.mk h1 (hk _ h2)
 have cd:∀ {p X Y:Prop},Cd p X->(X->Y)->Cd p Y:=fun h hxy=>Cd.mk h.out.1 (hxy h.out.2)
 cases op<;>simp only[Ag]at h |-
 case add=>exact sk h wr
 case sub=>exact sk h wr
 case mul=>exact sk h wr
 case quo=>exact sk h fun h=>cd h wr
 case rem=>exact sk h fun h=>cd h ev
 case and=>exact sk h wr
 case or=>exact sk h wr
 case xor=>exact sk h wr
 case andNot=>exact sk h wr
 case shl=>exact cd h wr
 case shr=>exact cd h ev
 all_goals exact sk h (hk _)
theorem JV {op:BinOp} {x y:Value} {K:Value->Prop} (h:Ag op x y K):∃ v,K v/\Ag op x y (· = v):=by
 cases x<;>cases y<;>try exact h.elim
 rename_i k a k' b;have sk:∀ {X:Prop},(bif fB k k' then X else False)->X/\∀ Y:Prop,Y->(bif fB k k' then Y else False):=fun {X} h=>by
  cases hs:fB k k' with
  | true=>rw[hs]at h;exact⟨h,fun Y hY=>hY⟩
  | false=>rw[hs]at h;exact h.elim
 cases op<;>simp only[Ag]at h |-
 case add=>obtain⟨h,b⟩:=sk h;obtain⟨z,h1,h2⟩:=h.out;exact⟨_,h2,b _ (Wr.mk h1 rfl)⟩
 case sub=>obtain⟨h,b⟩:=sk h;obtain⟨z,h1,h2⟩:=h.out;exact⟨_,h2,b _ (Wr.mk h1 rfl)⟩
 case mul=>obtain⟨h,b⟩:=sk h;obtain⟨z,h1,h2⟩:=h.out;exact⟨_,h2,b _ (Wr.mk h1 rfl)⟩
 case quo=>obtain⟨h,b⟩:=sk h;obtain⟨z,h1,h2⟩:=h.out.2.out;exact⟨_,h2,b _ (Cd.mk h.out.1 (Wr.mk h1 rfl))⟩
 case rem=>obtain⟨h,b⟩:=sk h;obtain⟨z,h1,h2⟩:=h.out.2.out;exact⟨_,h2,b _ (Cd.mk h.out.1 (Ev.mk h1 rfl))⟩
 case and=>obtain⟨h,b⟩:=sk h;obtain⟨z,h1,h2⟩:=h.out;exact⟨_,h2,b _ (Wr.mk h1 rfl)⟩
 case or=>obtain⟨h,b⟩:=sk h;obtain⟨z,h1,h2⟩:=h.out;exact⟨_,h2,b _ (Wr.mk h1 rfl)⟩
 case xor=>obtain⟨h,b⟩:=sk h;obtain⟨z,h1,h2⟩:=h.out;exact⟨_,h2,b _ (Wr.mk h1 rfl)⟩
 case andNot=>obtain⟨h,b⟩:=sk h;obtain⟨z,h1,h2⟩:=h.out;exact⟨_,h2,b _ (Wr.mk h1 rfl)⟩
 case shl=>obtain⟨z,h1,h2⟩:=h.out.2.out;exact⟨_,h2,Cd.mk h.out.1 (Wr.mk h1 rfl)⟩
 case shr=>obtain⟨z,h1,h2⟩:=h.out.2.out;exact⟨_,h2,Cd.mk h.out.1 (Ev.mk h1 rfl)⟩
 all_goals(obtain⟨h,b⟩:=sk h;exact⟨_,h,b _ rfl⟩)
theorem HM {op:BinOp} {T:Nat} {x y:Value} {K:Value->Prop} (h:AB TE op T x y K):∃ v,K v/\∀ K':Value->Prop,K' v->AB TE op T x y K':=by
 unfold AB at h;split at h
 ·split at h
  case h_2=>exact h.elim
  rename_i hT;cases op<;>simp only at h<;>try exact h.elim
  all_goals exact⟨_,h,fun K' hK=>by unfold AB;simp only[hT];exact hK⟩
 ·cases op<;>simp only at h<;>try exact h.elim
  case add=>obtain⟨h1,h2⟩:=h.out;obtain⟨z,h3,h4⟩:=h2.out;exact⟨_,h4,fun K' hK=>Cd.mk h1 (Es.mk h3 hK)⟩
  all_goals exact⟨_,h,fun K' hK=>hK⟩
 ·rename_i h1 h2
  obtain⟨v,hv,hs⟩:=JV h;refine⟨v,hv,fun K' hK=>?_⟩;have:=Hq (K':=K') hs fun v' e=>by rw[e];exact hK
  unfold AB;split
  ·exact(h1 _ _ rfl rfl).elim
  ·exact(h2 _ _ rfl rfl).elim
  ·exact this
theorem J3 {op:UnOp} {x:Value} {K K':Value->Prop} (h:Lc op x K) (hk:∀ v,K v->K' v):Lc op x K':=by
 unfold Lc at h |-;split at h
 ·exact hk _ h
 ·obtain⟨z,h1,h2⟩:=Wr.out h;exact Wr.mk h1 (hk _ h2)
 ·exact h.elim
theorem KW {op:UnOp} {x:Value} {K:Value->Prop} (h:Lc op x K):∃ v,K v/\Lc op x (· = v):=by
 unfold Lc at h;split at h
 ·exact⟨_,h,rfl⟩
 ·obtain⟨z,h1,h2⟩:=Wr.out h;exact⟨_,h2,Wr.mk h1 rfl⟩
 ·exact h.elim
theorem Kx {c x y:Operand} (h:Fi F c x y K):mC (fun F K=>Fi F c x y K) F (tm c++tm x++tm y) K:=by
 obtain⟨z,hz,hl⟩:=hB h;cases z with
 | bool b=>
  cases b with
  | true=>
   obtain⟨av,h1,h2,h3⟩:=iN (Bf.out hz);refine⟨av,h1,fun d hd=>(h2 d hd).imp (fun h=>by simp[h]) (fun⟨t,ht,hu⟩=>⟨t,by simp[ht],hu⟩),fun F' hA K' hK=>hl F' (hA.mono (by simp +contextual)) _ (Bf.in_ (h3 F' (hA.mono (by simp +contextual)) K' hK))⟩
  | false=>
   obtain⟨av,h1,h2,h3⟩:=iN (Bf.out hz);refine⟨av,h1,fun d hd=>(h2 d hd).imp (fun h=>by simp[h]) (fun⟨t,ht,hu⟩=>⟨t,by simp[ht],hu⟩),fun F' hA K' hK=>hl F' (hA.mono (by simp +contextual)) _ (Bf.in_ (h3 F' (hA.mono (by simp +contextual)) K' hK))⟩
 | _=>exact hz.elim
theorem LF {x:Operand} (h:LL F x K):mC (fun F K=>LL F x K) F (tm x) K:=by
 obtain⟨ag,cs,hk,hl⟩:=ci h;cases hn:aV cs with
 | false=>rw[hn]at hk;exact hk.elim
 | true=>rw[hn]at hk;exact⟨_,hk,d6.hold _ _ _ _,fun F' hA K' hK=>hl F' hA _ (by rw[hn];exact hK)⟩
theorem Br {x:Operand} {i:Nat} (h:iM F x i K):mC (fun F K=>iM F x i K) F (tm x) K:=by
 cases x with
 | tmp t=>
  have ht:t∈tm (.tmp t):=by simp[tm]
  simp only[iM]at h;cases hF:F t with
  | hold k cs=>
   rw[hF]at h;cases k with
   | tup sh=>
    simp only at h;cases hs:zP sh i with
    | none=>rw[hs]at h;exact h.elim
    | some p=>
     rw[hs]at h;simp only at h;cases hn:aV (bq cs p.1 (p.2.getD 1)) with
     | true=>rw[hn]at h;exact⟨_,h,d6.hold _ _ _ _,fun F' hA K' hK=>by simp only[iM,(hA t ht).1,hF,hs,hn,cond_true];exact hK⟩
     | false=>rw[hn]at h;exact⟨_,h,fun d hd=>.inl (by simp[AV.uses]at hd;subst hd;exact ht),fun F' hA K' hK=>by simp only[iM,(hA t ht).1,hF,hs,hn,cond_false];exact hK⟩
   | _=>exact h.elim
  | _=>rw[hF]at h;exact h.elim
 | _=>exact h.elim
theorem LE {T:Nat} {x:Operand} (h:ED TE F T x K):mC (fun F K=>ED TE F T x K) F (tm x) K:=by
 unfold ED at h;unfold mC ED;split at h
 ·obtain⟨ag,cs,hk,hl⟩:=ci h
  match ag,cs,hk with
  | none,[.s o rows],hk=>exact⟨_,Ln.out hk,d6.hold _ _ _ _,fun F' hA K' hK=>hl F' hA _ (Ln.mk rfl hK)⟩
  | none,[.z],hk=>exact⟨_,hk,d6.hold _ _ _ _,fun F' hA K' hK=>hl F' hA _ hK⟩
 ·obtain⟨z,hk,hl⟩:=hB h
  cases z with
  | string s=>exact⟨_,Ln.out hk,d6.hold _ _ _ _,fun F' hA K' hK=>hl F' hA _ (Ln.mk rfl hK)⟩
  | _=>exact hk.elim
 ·exact h.elim
theorem LQ {T:Nat} {x:Operand} (h:E6 TE F T x K):mC (fun F K=>E6 TE F T x K) F (tm x) K:=by
 unfold E6 at h;unfold mC E6;split at h
 ·obtain⟨ag,cs,hk,hl⟩:=ci h
  match ag,cs,hk with
  | none,[.s o rows],hk=>exact⟨_,hk.out.2,d6.hold _ _ _ _,fun F' hA K' hK=>hl F' hA _ (Nn.mk hk.out.1 hK)⟩
 ·exact h.elim
theorem KI {op:BinOp} {T:Nat} {x y:Operand} (h:Em P F op T x y K):mC (fun F K=>Em P F op T x y K) F (tm x++tm y) K:=by
 unfold Em at h;unfold mC Em;obtain⟨ag,cs,hk,hl⟩:=ci h;obtain⟨ag2,ds,hk2,hl2⟩:=ci hk
 match ag,ag2,hk2 with
 | some n,some m,hk3=>
  obtain⟨vs,k1,e1⟩:=nD hk3;obtain⟨us,k2,e2⟩:=nD k1;obtain⟨r,hr,hK⟩:=k2.out;exact⟨_,hK,d6.hold _ _ _ _,fun F' hA K' hK'=>hl F' (hA.mono fun _ ht=>List.mem_append_left _ ht) _ (hl2 F' (hA.mono fun _ ht=>List.mem_append_right _ ht) _ (by rw[e1,e2];exact EE vs (EE us (ML.mk hr hK'))))⟩
theorem yk {x:Operand} {F':Nat->AV} (hA:im F F' (tm x)):isAgg F' x=isAgg F x:=by
 cases x with
 | tmp t=>unfold isAgg;simp only;rw[(hA t (by simp[tm])).1]
 | _=>rfl
def tms (xs:List Operand):List Nat:=xs.flatMap tm
theorem HQ {x:Operand} {k:Bool->RA->Prop} (h:argV F x k):∃ b A,k b A/\∀ F':Nat->AV,im F F' (tm x)->∀ k':Bool->RA->Prop,k' b A->argV F' x k':=by
 have key:∀ F':Nat->AV,im F F' (tm x)->lA F' x=lA F x:=fun F' hA=>hA.ev
 have vl:∀ av,lA F x=av->gE F av (tt k)->(∀ F' k',lA F' x=av->(argV F' x k'=gE F' av (tt k')))->∃ b A,k b A/\∀ F':Nat->AV,im F F' (tm x)->∀ k':Bool->RA->Prop,k' b A->argV F' x k':=fun av hav hv he=>by
  obtain⟨ag,cs,hK,hl⟩:=ci (x:=x) (by rw[hav];exact hv);unfold tt at hK;cases hn:aV cs with
  | true=>
   rw[hn]at hK;refine⟨true,_,hK,fun F' hA k' hk'=>?_⟩;have h1:=key F' hA;rw[he F' k' (h1.trans hav),<-hav,<-h1];exact hl F' hA _ (by unfold tt;rw[hn];exact hk')
  | false=>
   rw[hn]at hK;refine⟨false,_,hK,fun F' hA k' hk'=>?_⟩;have h1:=key F' hA;rw[he F' k' (h1.trans hav),<-hav,<-h1];exact hl F' hA _ (by unfold tt;rw[hn];exact hk')
 have h0:=h;unfold argV at h0;cases hav:lA F x with
 | hold kd cs=>
  rw[hav]at h0;cases kd with
  | box=>exact⟨false,_,h0,fun F' hA k' hk'=>by unfold argV;rw[key F' hA,hav];exact hk'⟩
  | one=>exact vl _ hav h0 fun F' k' e=>by unfold argV;rw[e];rfl
  | agg=>exact vl _ hav h0 fun F' k' e=>by unfold argV;rw[e];rfl
  | tup sh=>exact h0.elim
 | bor t off st ag=>rw[hav]at h0;exact vl _ hav h0 fun F' k' e=>by unfold argV;rw[e]
 | ref t off st=>
  rw[hav]at h0;simp only at h0;split at h0
  ·rename_i cs hF
   refine⟨false,_,h0,fun F' hA k' hk'=>?_⟩;unfold argV;rw[key F' hA,hav];have:F' t=.hold .box cs:=by
    cases x with
    | tmp s=>exact(hA s (by simp[tm])).2 t (by show AV.uses t (F s)=true;rw[show F s=_ from hav];simp[AV.uses]) _ _ hF
    | const v=>simp only[lA]at hav;have:=km v t;rw[hav]at this;simp[AV.uses]at this
    | global g=>cases hav
    | func f=>cases hav
   simp only[this];exact hk'
  ·exact h0.elim
 | iref r off=>
  rw[hav]at h0;simp only at h0;cases hb:Nat.beq off 0 with
  | false=>rw[hb]at h0;exact h0.elim
  | true=>rw[hb]at h0;exact⟨true,_,h0,fun F' hA k' hk'=>by unfold argV;rw[key F' hA,hav];simp only[hb];exact hk'⟩
 | fv Ok=>rw[hav]at h0;exact⟨true,_,h0,fun F' hA k' hk'=>by unfold argV;rw[key F' hA,hav];exact hk'⟩
 | fn f caps=>rw[hav]at h0;exact h0.elim
 | dead=>rw[hav]at h0;exact h0.elim
theorem mO:∀ {cs:List Nat} {k:List RA->Prop},lz F cs k->∃ D,k D/\∀ F':Nat->AV,(∀ t,t∈cs->∀ kd xs,F t=.hold kd xs->F' t=.hold kd xs)->∀ k':List RA->Prop,k' D->lz F' cs k'
 | [],k,h=>⟨[],h,fun _ _ _ h=>h⟩
 | c::cs,k,h=>by
  simp only[lz]at h;split at h
  ·rename_i xs hF
   obtain⟨D,hK,hl⟩:=mO h;exact⟨_,hK,fun F' hA k' hk'=>by simp only[lz,hA c (I1 ..) _ _ hF];exact hl F' (fun t ht=>hA t (Z3 _ ht)) _ hk'⟩
  ·rename_i xs hF
   obtain⟨D,hK,hl⟩:=mO h;exact⟨_,hK,fun F' hA k' hk'=>by simp only[lz,hA c (I1 ..) _ _ hF];exact hl F' (fun t ht=>hA t (Z3 _ ht)) _ hk'⟩
  ·rename_i xs hF
   obtain⟨D,hK,hl⟩:=mO h;exact⟨_,hK,fun F' hA k' hk'=>by simp only[lz,hA c (I1 ..) _ _ hF];exact hl F' (fun t ht=>hA t (Z3 _ ht)) _ hk'⟩
  ·exact h.elim
theorem FR {F':Nat->AV} {t:Nat} {ts:List Nat} {f:FuncId} {caps:List Nat} (hA:im F F' ts) (ht:t∈ts) (hF:F t=.fn f caps):∀ c,c∈caps->∀ kd xs,F c=.hold kd xs->F' c=.hold kd xs:=fun c hc kd xs h=>
 (hA t ht).2 c (by rw[hF];simp only[AV.uses,Z2];exact⟨c,hc,Nat.beq_refl c⟩) kd xs h
theorem HG {x:Operand} {k:Bool->RA->Prop} (h:argA P F x k):∃ b A,k b A/\∀ F':Nat->AV,im F F' (tm x)->∀ k':Bool->RA->Prop,k' b A->argA P F' x k':=by
 have h0:=h;unfold argA at h0;split at h0
 ·rename_i f caps hav
  obtain⟨D,hK,hl⟩:=mO h0;obtain⟨Q,q1,q2,q3⟩:=hK;refine⟨false,_,q3,fun F' hA k' hk'=>?_⟩;unfold argA;rw[hA.ev,hav];refine hl F' ?_ _ ⟨Q,q1,q2,hk'⟩;cases x with
  | tmp s=>exact FR hA (t:=s) (by simp[tm]) hav
  | const v=>
   intro c hc;simp only[lA]at hav;have:=km v c;rw[hav]at this;simp only[AV.uses]at this;have h2:caps.any (Nat.beq · c)=true:=Z2.2 ⟨c,hc,Nat.beq_refl c⟩;rw[h2]at this;cases this
  | global g=>cases hav
  | func f=>cases hav;intro c hc;cases hc
 ·rename_i hne
  obtain⟨b,A,hK,hl⟩:=HQ h0;refine⟨b,A,hK,fun F' hA k' hk'=>?_⟩;have:=hl F' hA k' hk';unfold argA;rw[hA.ev];split
  ·rename_i f caps hav;exact absurd hav (hne f caps)
  ·exact this
theorem uD:∀ {xs:List Operand} {k:Bool->List RA->Prop},yg P F xs k->∃ b A,k b A/\∀ F':Nat->AV,im F F' (tms xs)->∀ k':Bool->List RA->Prop,k' b A->yg P F' xs k'
 | [],k,h=>⟨true,[],h,fun _ _ _ h=>h⟩
 | x::xs,k,h=>by
  obtain⟨b1,A,hk,hl⟩:=HG h;obtain⟨b,As,hk,hl2⟩:=uD hk;have s1:∀ {F':Nat->AV},im F F' (tms (x::xs))->im F F' (tm x):=fun hA=>hA.mono (by simp +contextual [tms])
  have s2:∀ {F':Nat->AV},im F F' (tms (x::xs))->im F F' (tms xs):=fun hA=>hA.mono (fun t ht=>by simp only[tms,W4,C2];exact .inr ht)
  exact⟨_,_,hk,fun F' hA k' hk'=>hl F' (s1 hA) _ (hl2 F' (s2 hA) _ hk')⟩
theorem xR:∀ {xs:List Operand} {k:List (Option Nat × List C)->Prop},argsV F xs k->∃ L,k L/\∀ F':Nat->AV,im F F' (tms xs)->∀ k':List (Option Nat × List C)->Prop,k' L->argsV F' xs k'
 | [],k,h=>⟨[],h,fun _ _ _ h=>h⟩
 | x::xs,k,h=>by
  obtain⟨ag,cs,hk,hl⟩:=ci h;obtain⟨L,hk,hl2⟩:=xR hk;have s1:∀ {F':Nat->AV},im F F' (tms (x::xs))->im F F' (tm x):=fun hA=>hA.mono (by simp +contextual [tms])
  have s2:∀ {F':Nat->AV},im F F' (tms (x::xs))->im F F' (tms xs):=fun hA=>hA.mono (fun t ht=>by simp only[tms,W4,C2];exact .inr ht)
  exact⟨_,hk,fun F' hA k' hk'=>hl F' (s1 hA) _ (hl2 F' (s2 hA) _ hk')⟩
theorem Jp {f:Nat} {xs:List Operand} (h:Fj P F f xs K):mC (fun F K=>Fj P F f xs K) F (tms xs) K:=by
 obtain⟨b,A,hk,hl⟩:=uD h;obtain⟨sh,k,rcs,h1,h2,h3⟩:=hk.out;exact⟨_,h3,d6.hold _ _ _ _,fun F' hA K' hK=>hl F' hA _ (.mk_ ⟨sh,k,rcs,h1,h2,hK⟩)⟩
theorem Hj {t:Nat} {xs:List Operand} (h:kI P F t xs K):mC (fun F K=>kI P F t xs K) F (t::tms xs) K:=by
 have h0:=h;unfold kI at h0;split at h0
 ·rename_i f caps hF
  obtain⟨b,A,hk,hl⟩:=uD h0;obtain⟨D,hk,hl2⟩:=mO hk;obtain⟨sh,k,rcs,h1,h2,h3⟩:=hk.out;refine⟨_,h3,d6.hold _ _ _ _,fun F' hA K' hK=>?_⟩;show kI P F' t xs K';unfold kI;rw[(hA t (I1 ..)).1,hF];exact hl F' (hA.mono fun t ht=>Z3 _ ht) _ (hl2 F' (FR hA (I1 ..) hF) _ (.mk_ ⟨sh,k,rcs,h1,h2,hK⟩))
 ·rename_i Ok hF
  obtain⟨L,hk,hl⟩:=xR h0;obtain⟨Q,k,rcs,h1,h2,h3⟩:=hk;refine⟨_,h3,d6.hold _ _ _ _,fun F' hA K' hK=>?_⟩;show kI P F' t xs K';unfold kI;rw[(hA t (I1 ..)).1,hF];exact hl F' (hA.mono fun t ht=>Z3 _ ht) _ ⟨Q,k,rcs,h1,h2,hK⟩
 ·exact h0.elim
theorem iA {T:Nat} {k:Nat->TI->Prop} (h:FY TE T k):∃ e ie,k e ie/\∀ k':Nat->TI->Prop,k' e ie->FY TE T k':=by
 unfold FY at h;split at h
 case h_2=>exact h.elim
 rename_i e hT;split at h
 case h_2=>exact h.elim
 rename_i ie he;cases hb:(Nat.beq ie.zero.length ie.size&&Nat.ble 1 ie.size) with
 | false=>rw[hb]at h;exact h.elim
 | true=>rw[hb]at h;exact⟨e,ie,h,fun k' hk=>by unfold FY;simp only[hT,he,hb,cond_true];exact hk⟩
theorem qB {x:Operand} {k:Int->Prop} (h:AJ F x k):∃ n,k n/\∀ F':Nat->AV,im F F' (tm x)->∀ k':Int->Prop,k' n->AJ F' x k':=by
 obtain⟨z,hz,hl⟩:=hB h;cases z with
 | int kk n=>exact⟨n,hz,fun F' hA k' hk=>hl F' hA _ hk⟩
 | _=>exact hz.elim
def otm (x:Option Operand):List Nat:=x.toList.flatMap tm
theorem EX {x:Option Operand} {k:Option Int->Prop} (h:H0 F x k):∃ n,k n/\∀ F':Nat->AV,im F F' (otm x)->∀ k':Option Int->Prop,k' n->H0 F' x k':=by
 cases x with
 | none=>exact⟨none,h,fun _ _ _ hk=>hk⟩
 | some x=>
  obtain⟨n,hn,hl⟩:=qB h;exact⟨some n,hn,fun F' hA k' hk=>hl F' (hA.mono (by simp +contextual [otm])) _ hk⟩
theorem rD {pl:Nat->Option (Nat × Nat)} : ∀ {parts:List (Nat × Operand)} {cs:List C} {k:List C->Prop},fillP F pl parts cs k->∃ cs',k cs'/\∀ F':Nat->AV,im F F' (tms (parts.map (·.2)))->∀ k':List C->Prop,k' cs'->fillP F' pl parts cs k'
 | [],cs,k,h=>⟨cs,h,fun _ _ _ h=>h⟩
 | p::rest,cs,k,h=>by
  simp only[fillP]at h;split at h
  case h_2=>exact h.elim
  rename_i q hq;obtain⟨ag,xs,hk,hl⟩:=ci h;cases hb:(aV xs&&Nat.beq xs.length q.2&&Nat.ble (q.1+q.2) cs.length) with
  | false=>rw[hb]at hk;exact hk.elim
  | true=>
   rw[hb]at hk;simp only[cond_true,di]at hk;obtain⟨cs',hk',hl'⟩:=rD hk;refine⟨cs',hk',fun F' hA k' hk2=>?_⟩;simp only[fillP,hq];refine hl F' (hA.mono (by simp +contextual [tms])) _ ?_;rw[hb];simp only[cond_true,di];exact hl' F' (hA.mono (fun t ht=>by simp only[tms,O4,W4,C2];exact .inr ht)) _ hk2
theorem Hl {T:Nat} {parts:List (Nat × Operand)} (h:pd TE F T parts K):mC (fun F K=>pd TE F T parts K) F (tms (parts.map (·.2))) K:=by
 unfold pd at h;unfold mC pd;split at h
 case h_2=>exact h.elim
 rename_i size bytes zero flds hT;cases ha:vu TE flds with
 | false=>rw[ha]at h;exact h.elim
 | true=>
  rw[ha]at h;obtain⟨cs',hk,hl⟩:=rD h;exact⟨_,hk,d6.hold _ _ _ _,fun F' hA K' hK=>by simp only[cond_true];exact hl F' hA _ hK⟩
theorem E5 {T n:Nat} {parts:List (Nat × Operand)} (h:tK TE F T n parts K):mC (fun F K=>tK TE F T n parts K) F (tms (parts.map (·.2))) K:=by
 obtain⟨e,ie,hk,hs⟩:=iA h;cases hb:Nat.ble (n*ie.size) 16777216 with
 | false=>rw[hb]at hk;exact hk.elim
 | true=>
  rw[hb]at hk;simp only[cond_true]at hk;split at hk
  ·exact⟨_,hk,d6.hold _ _ _ _,fun F' hA K' hK=>hs _ (by rw[hb];exact hK)⟩
  ·rw[di]at hk
   obtain⟨cs',hk',hl⟩:=rD hk;rw[nB]at hk';exact⟨_,hk',d6.hold _ _ _ _,fun F' hA K' hK=>hs _ (by rw[hb];simp only[cond_true,di];exact hl F' hA _ (by rw[nB];exact hK))⟩
  ·exact hk.elim
theorem Jy {T:Nat} {x y:Operand} (h:Fs TE F T x y K):mC (fun F K=>Fs TE F T x y K) F (tm x++tm y) K:=by
 obtain⟨e,ie,hk,hs⟩:=iA h;obtain⟨ag,cs,hk,hl⟩:=ci hk
 match ag,cs,hk with
 | none,[.z],hk=>
  obtain⟨ag2,cs2,hk,hl2⟩:=ci hk
  match ag2,cs2,hk with
  | none,[.s o rows],hk=>
   obtain⟨h1,h2,h3,hk⟩:=hk.out;exact⟨_,hk,d6.hold _ _ _ _,fun F' hA K' hK=>hs _ (hl F' (hA.mono (by simp +contextual)) _ (hl2 F' (hA.mono (by simp +contextual)) _ (Fl.mk h1 h2 h3 hK)))⟩
  | none,[.z],hk=>
   exact⟨_,hk,d6.hold _ _ _ _,fun F' hA K' hK=>hs _ (hl F' (hA.mono (by simp +contextual)) _ (hl2 F' (hA.mono (by simp +contextual)) _ hK))⟩
theorem Hz {T:Nat} {x y:Operand} (h:FT TE F T x y K):mC (fun F K=>FT TE F T x y K) F (tm x++tm y) K:=by
 obtain⟨e,ie,hk,hs⟩:=iA h;obtain⟨l,hk,hl⟩:=qB hk;obtain⟨c,hk,hl2⟩:=qB hk;obtain⟨n,h1,h2,h3,h4,hk⟩:=hk.out;exact⟨_,hk,d6.hold _ _ _ _,fun F' hA K' hK=>hs _ (hl F' (hA.mono (by simp +contextual)) _ (hl2 F' (hA.mono (by simp +contextual)) _ (Mk.mk n h1 h2 h3 h4 rfl hK)))⟩
theorem JW {T:Nat} {x y:Operand} {ok:Bool} (h:up TE F T x y ok K):mC (fun F K=>up TE F T x y ok K) F (tm x++tm y) K:=by
 unfold up at h;split at h
 case h_2=>exact h.elim
 rename_i hT;cases ok with
 | true=>exact h.elim
 | false=>
  simp only[cond_false]at h;obtain⟨ag,cs,hK,hl⟩:=ci h
  match ag,cs,hK,hl with
  | none,[.m es],hK,hl=>
   obtain⟨v,hv,hl2⟩:=hB hK
   match v,hv,hl2 with
   | .int .i64 z,hv,hl2=>
    refine⟨_,hv.out,d6.hold _ _ _ _,fun F' hA K' hK'=>?_⟩;simp only[up,hT,cond_false];exact hl F' (hA.mono (by simp +contextual)) _ (hl2 F' (hA.mono (by simp +contextual)) _ (Ml.mk rfl hK'))
theorem GE {T:Nat} {x:Operand} {lo hi:Option Operand} (h:yP TE F T x lo hi K):mC (fun F K=>yP TE F T x lo hi K) F (tm x++otm lo++otm hi) K:=by
 obtain⟨e,ie,hk,hs⟩:=iA h;obtain⟨l,hk,hl⟩:=EX hk;obtain⟨r,hk,hl2⟩:=EX hk;obtain⟨ag,cs,hk,hl3⟩:=ci hk;have back:∀ (rows:List (List C)) (k:List (List C)->Prop),Sl rows ie.size l r k->∃ rows',k rows'/\∀ k':List (List C)->Prop,k' rows'->Sl rows ie.size l r k':=fun rows k h=>by
  obtain⟨x,y,h1,h2,h3,h4,h5,h6⟩:=h.out;exact⟨_,h6,fun k' hk=>by refine .mk_ ?_;exact⟨x,y,h1,h2,h3,h4,h5,_,rfl,hk⟩⟩
 match ag,cs,hk with
 | none,[.s .imm rows],hk=>
  obtain⟨rows',hk,hb⟩:=back _ _ hk;exact⟨_,hk,d6.hold _ _ _ _,fun F' hA K' hK=>hs _ (hl F' (hA.mono (by simp +contextual)) _ (hl2 F' (hA.mono (by simp +contextual)) _ (hl3 F' (hA.mono (by simp +contextual)) _ (hb _ hK))))⟩
 | none,[.z],hk=>
  obtain⟨rows',hk,hb⟩:=back _ _ hk;exact⟨_,hk,d6.hold _ _ _ _,fun F' hA K' hK=>hs _ (hl F' (hA.mono (by simp +contextual)) _ (hl2 F' (hA.mono (by simp +contextual)) _ (hl3 F' (hA.mono (by simp +contextual)) _ (hb _ hK))))⟩
theorem DS {T:Nat} {x hi mx:Operand} (h:L1 TE F T x hi mx K):mC (fun F K=>L1 TE F T x hi mx K) F (tm x) K:=by
 obtain⟨e,ie,hk,hs⟩:=iA h;cases hb:Ma hi&&Ma mx with
 | false=>rw[hb]at hk;exact hk.elim
 | true=>
  rw[hb]at hk;obtain⟨ag,cs,hk,hl⟩:=ci hk
  match ag,cs,hk with
  | none,[.s o rows],hk=>exact⟨_,hk,d6.hold _ _ _ _,fun F' hA K' hK=>hs _ (by rw[hb];exact hl F' hA _ hK)⟩
  | none,[.z],hk=>exact⟨_,hk,d6.hold _ _ _ _,fun F' hA K' hK=>hs _ (by rw[hb];exact hl F' hA _ hK)⟩
theorem Gl {T f:Nat} {x:Operand} (h:oV TE F T x f K):mC (fun F K=>oV TE F T x f K) F (tm x) K:=by
 unfold oV at h;split at h
 case h_2=>exact h.elim
 rename_i flds hT;split at h
 case h_2=>exact h.elim
 rename_i p hp;split at h
 case h_2=>exact h.elim
 rename_i i hi;obtain⟨ag,cs,hk,hl⟩:=ci h;cases hb:(ag.isSome&&(i.agg || Nat.beq i.size 1)&&Nat.ble (p.1+i.size) cs.length) with
 | false=>rw[hb]at hk;exact hk.elim
 | true=>
  rw[hb]at hk;simp only[cond_true]at hk;cases hn:aV (bq cs p.1 i.size) with
  | false=>rw[hn]at hk;exact hk.elim
  | true=>
   rw[hn]at hk;simp only[cond_true,di]at hk;exact⟨_,hk,d6.hold _ _ _ _,fun F' hA K' hK=>by unfold oV;simp only[hT,hp,hi];exact hl F' hA _ (by rw[hb,hn];simp only[cond_true,di];exact hK)⟩
theorem Kq {T1 T2:Nat} {x:Operand} (h:v8 TE F T1 T2 x K):mC (fun F K=>v8 TE F T1 T2 x K) F (tm x) K:=by
 unfold v8 at h;split at h
 ·rename_i h1 h2
  obtain⟨n,hk,hl⟩:=qB h;obtain⟨z,h3,hk⟩:=hk.out;exact⟨_,hk,d6.hold _ _ _ _,fun F' hA K' hK=>by unfold v8;simp only[h1,h2];exact hl F' hA _ (Wr.mk h3 hK)⟩
 ·exact h.elim
theorem JH {mx:Bool} {x y:Operand} (h:Ng mx F x y K):mC (fun F K=>Ng mx F x y K) F (tm x++tm y) K:=by
 obtain⟨z,hz,hl⟩:=hB h;cases z with
 | int kk n=>
  obtain⟨m,hk,hl2⟩:=qB hz;obtain⟨z,h3,hk⟩:=hk.out;exact⟨_,hk,d6.hold _ _ _ _,fun F' hA K' hK=>hl F' (hA.mono (by simp +contextual)) _ (hl2 F' (hA.mono (by simp +contextual)) _ (Ev.mk h3 hK))⟩
 | _=>exact hz.elim
theorem d6.mono {ts ts':List Nat} {av:AV} (h:d6 F ts av) (hs:∀ t,t∈ts->t∈ts'):d6 F ts' av:=fun d hd=>(h d hd).imp (hs d) (fun⟨t,ht,hu⟩=>⟨t,hs t ht,hu⟩)
theorem mC.mono {p:(Nat->AV)->(AV->Prop)->Prop} {ts ts':List Nat} (h:mC p F ts K) (hs:∀ t,t∈ts->t∈ts'):mC p F ts' K:=by
 obtain⟨av,h1,h2,h3⟩:=h;exact⟨av,h1,h2.mono hs,fun F' hA K' hK=>h3 F' (hA.mono hs) K' hK⟩
def cM (o:Op):List Nat:=o.operands.toList.flatMap tm
theorem lr {o:Op} (h:cX P TE F o K):mC (fun F K=>cX P TE F o K) F (cM o) K:=by
 cases o with
 | move x=>exact(iN h).mono (by simp[cM,Op.operands])
 | assign x=>exact(iN h).mono (by simp[cM,Op.operands])
 | nilCheck x=>
  cases x with
  | tmp t=>
   have ht:t∈tm (.tmp t):=by simp[tm]
   have key:∀ F':Nat->AV,F' t=F t->∀ K',cX P TE F' (.nilCheck (.tmp t)) K'=(match F t with|.ref ..=>bm F' (.tmp t) K'|.iref ..=>bm F' (.tmp t) K'|.hold .box _=>bm F' (.tmp t) K'|_=>False):=fun F' e K'=>by
    unfold cX;simp only
    first
     |(rw[e];done)
     |(rw[e]
       cases F t with
       | hold k cs=>cases k<;>rfl
       | _=>rfl)
   rw[key F rfl]at h;have fin:bm F (.tmp t) K->(∀ K' (F':Nat->AV),F' t=F t->bm F' (.tmp t) K'->cX P TE F' (.nilCheck (.tmp t)) K')->mC (fun F K=>cX P TE F (.nilCheck (.tmp t)) K) F (cM (.nilCheck (.tmp t))) K:=fun hm hc=>by
    obtain⟨av,h1,h2,h3⟩:=iN hm;exact⟨av,h1,h2.mono (by simp[cM,Op.operands]),fun F' hA K' hK=>hc _ F' (hA t (by simp[cM,Op.operands,tm])).1 (h3 F' (hA.mono (by simp[cM,Op.operands])) K' hK)⟩
   cases hF:F t with
   | hold k cs=>
    rw[hF]at h;cases k with
    | box=>exact fin h fun K' F' e hm=>by rw[key F' e,hF];exact hm
    | _=>exact h.elim
   | ref=>rw[hF]at h;exact fin h fun K' F' e hm=>by rw[key F' e,hF];exact hm
   | iref=>rw[hF]at h;exact fin h fun K' F' e hm=>by rw[key F' e,hF];exact hm
   | _=>rw[hF]at h;exact h.elim
  | _=>exact h.elim
 | load T x=>exact(Jk h).mono (by simp[cM,Op.operands])
 | fieldAddr T x f=>exact(wR h).mono (by simp[cM,Op.operands])
 | indexAddr T x y=>exact(wX h).mono (by simp[cM,Op.operands])
 | binOp op T x y yT=>
  simp only[cX]at h;cases hb:uX op y with
  | true=>
   rw[hb]at h;obtain⟨av,h1,h2,h3⟩:=LQ h;exact⟨av,h1,h2.mono (by simp +contextual [cM,Op.operands]),fun F' hA K' hK=>by simp only[cX,hb,cond_true];exact h3 F' (hA.mono (by simp +contextual [cM,Op.operands])) K' hK⟩
  | false=>
   rw[hb]at h;have hsub:∀ t,t∈tm x->t∈cM (.binOp op T x y yT):=fun t ht=>by simp[cM,Op.operands,ht]
   cases hg:isAgg F x with
   | true=>
    rw[hg]at h;obtain⟨av,h1,h2,h3⟩:=KI h;exact⟨av,h1,h2.mono (by simp +contextual [cM,Op.operands]),fun F' hA K' hK=>by
      simp only[cX,hb,cond_false];rw[yk (hA.mono hsub),hg];exact h3 F' (hA.mono (by simp +contextual [cM,Op.operands])) K' hK⟩
   | false=>
   rw[hg]at h;obtain⟨z,hz,hl⟩:=hB h;obtain⟨z2,hz2,hl2⟩:=hB hz;obtain⟨v,hv,hs⟩:=HM hz2;refine⟨_,hv,d6.hold _ _ _ _,fun F' hA K' hK=>by simp only[cX,hb,cond_false];rw[yk (hA.mono hsub),hg];exact hl F' (hA.mono (by simp +contextual [cM,Op.operands])) _ (hl2 F' (hA.mono (by simp +contextual [cM,Op.operands])) _ (hs _ hK))⟩
 | unOp op T x=>
  obtain⟨z,hz,hl⟩:=hB h;obtain⟨v,hv,hs⟩:=KW hz;exact⟨_,hv,d6.hold _ _ _ _,fun F' hA K' hK=>hl F' (hA.mono (by simp[cM,Op.operands])) _ (J3 hs fun v' e=>by rw[e];exact hK)⟩
 | pick c x y=>exact(Kx h).mono (by simp[cM,Op.operands])
 | alloc T=>
  simp only[cX]at h;unfold v7 at h;split at h
  ·rename_i i hT
   exact⟨_,h,d6.hold _ _ _ _,fun F' _ K' hK=>by simp only[cX,v7,hT];exact hK⟩
  ·exact h.elim
 | box T x=>exact(LF h).mono (by simp[cM,Op.operands])
 | extract x i=>exact(Br h).mono (by simp[cM,Op.operands])
 | build T ps=>exact(Hl h).mono (by simp +contextual [cM,Op.operands,tms])
 | buildSlice T n ps=>exact(E5 h).mono (by simp +contextual [cM,Op.operands,tms])
 | makeSlice T x y=>exact(Hz h).mono (by simp[cM,Op.operands])
 | makeMap T r=>
  simp only[cX,pZ]at h |-;split at h
  case h_2=>exact h.elim
  exact⟨_,h,d6.hold _ _ _ _,fun F' _ K' hK=>hK⟩
 | lookup T x y ok=>exact(JW h).mono (by simp[cM,Op.operands])
 | slice T x lo hi mx=>
  cases mx with
  | none=>exact(GE h).mono (by cases lo<;>cases hi<;>simp[cM,Op.operands,otm])
  | some m=>
   cases lo with
   | some _=>exact h.elim
   | none=>
    cases hi with
    | none=>exact h.elim
    | some y=>exact(DS h).mono (by simp +contextual [cM,Op.operands])
 | field T x f=>exact(Gl h).mono (by simp[cM,Op.operands])
 | convert T1 T2 x=>exact(Kq h).mono (by simp[cM,Op.operands])
 | makeFunc fn fs cs=>
  simp only[cX]at h;split at h
  ·rename_i f hfs
   obtain⟨l,hK,hl⟩:=pb h;refine⟨_,hK,fun d hd=>.inl ?_,fun F' _ K' hK'=>?_⟩
   ·simp only[AV.uses,Z2]at hd
    obtain⟨c,hc,he⟩:=hd;have:=P1 he;subst this;simp only[cM,Op.operands,List.mem_flatMap];refine⟨.tmp c,?_,by simp[tm]⟩;have hm:Operand.tmp c∈cs.toList:=by rw[hl];exact O3.2 ⟨c,hc,rfl⟩
    simpa using .inr (by simpa using hm)
   ·simp only[cX,hfs]
    rw[hl];exact Da l hK'
  ·exact h.elim
 | call c=>
  obtain⟨callee,args,ts⟩:=c;simp only[cX]at h;split at h
  ·rename_i f
   exact(Jp h).mono (by simp +contextual [cM,Op.operands,Call.operands,tms])
  ·exact(Hj h).mono (fun t ht=>by
     rcases List.mem_cons.1 ht with rfl|ht
     · simp[cM,Op.operands,Call.operands,tm]
     · simp only[tms,List.mem_flatMap]at ht
       obtain⟨x,hx,hx2⟩:=ht;simp only[cM,Op.operands,Call.operands,List.mem_flatMap];exact⟨x,by simp_all,hx2⟩)
  ·split at h
   ·rename_i x T hx hT
    have e1:args = #[x]:=by apply Array.ext';simpa using hx
    have e2:ts = #[T]:=by apply Array.ext';simpa using hT
    subst e1 e2;exact(LE h).mono (by simp[cM,Op.operands,Call.operands])
   ·exact h.elim
  ·split at h
   ·rename_i x y T T2 hx hT
    have e1:args = #[x,y]:=by apply Array.ext';simpa using hx
    have e2:ts = #[T,T2]:=by apply Array.ext';simpa using hT
    subst e1 e2;cases hb:Nat.beq T T2 with
    | false=>rw[hb]at h;exact h.elim
    | true=>
     rw[hb]at h;obtain⟨av,h1,h2,h3⟩:=(Jy h).mono (ts':=cM (.call ⟨.builtin .append,#[x,y],#[T,T2]⟩)) (by simp[cM,Op.operands,Call.operands]);exact⟨av,h1,h2,fun F' hA K' hK=>by simp only[cX,hb,cond_true];exact h3 F' hA K' hK⟩
   ·exact h.elim
  ·split at h
   ·rename_i x y hx
    have e1:args = #[x,y]:=by apply Array.ext';simpa using hx
    subst e1;exact(JH h).mono (by simp[cM,Op.operands,Call.operands])
   ·exact h.elim
  ·split at h
   ·rename_i x y hx
    have e1:args = #[x,y]:=by apply Array.ext';simpa using hx
    subst e1;exact(JH h).mono (by simp[cM,Op.operands,Call.operands])
   ·exact h.elim
  ·exact h.elim
 | _=>exact h.elim
end
def cK (o:Oper) (i:Nat):Bool:=o.after.toList.any fun e=>Region.binds .any e&&Nat.beq e.on i
def cB (ops:Array Oper) (i:Nat):Oper:=ops.getD i default
def below (n:Nat) (p:Nat->Bool):Bool:=(List.range n).all p
def rX (ops:Array Oper) (i j:Nat):Bool:=match(cB ops i).dst with|some d=>((cB ops j).looksAt ops).any (Nat.beq d)|none=>false
def BI:List Nat->Nat
 | []=>0
 | k::ks=>2 ^ k ||| BI ks
def ons (o:Oper):List Nat:=(o.after.toList.filter fun e=>Region.binds .any e).map (·.on)
def frc {α:Type} (n:Nat) (K:Nat->α):α:=match n with|0=>K 0|n+1=>K (n+1)
theorem Kl {α:Type} (n:Nat) (K:Nat->α):frc n K=K n:=by cases n<;>rfl
def clo (ops:Array Oper):Nat->Nat->Nat
 | 0,S=>S
 | k+1,S=>bif S.testBit k then frc (S ||| BI (ons (cB ops k))) (clo ops k) else clo ops k S
def zu (ops:Array Oper) (m:Nat):Bool:=
 below ops.size fun j=>((cB ops j).after.toList.all fun e=>!Region.binds .any e || Nat.blt e.on j) &&
  (bif Nat.blt j m then below m (fun i=>Nat.beq i j || ((cK (cB ops j) i || cK (cB ops i) j || (cB ops i).apart ops (cB ops j))&&(!rX ops i j || cK (cB ops j) i))) else frc (clo ops j (BI (ons (cB ops j)))) fun S=>below j fun i=>S.testBit i)
def vN:List (Nat × Nat × List Nat)->Nat->Option (Nat × List Nat)
 | [],_=>none
 | p::l,id=>bif Nat.beq id p.1 then some p.2 else vN l id
def fQ (P:Program) (TE:Nat->Option TI) (N:eL) (ops:Array Oper) (o:Oper) (K:(Nat->AV)->Prop) (F:Nat->AV):Prop:=
 eP F ops o.guard (fun F=>match o.dst with|some d=>cX P TE F o.op fun av=>bL N F d av K|none=>False)
  (fun F=>match o.dst with|some d=>bL N F d (.hold (.tup []) []) K|none=>False)
def mj:Op->Option (Option Nat × Nat)
 | .buildSlice T 1 ps=>(match ps.toList with|[(0,.tmp s)]=>some (some T,s)|_=>none)
 | .move (.tmp s)=>some (none,s)
 | _=>none
def own1 (T:Option Nat) (k:Kd) (cs:List C):Bool:=match T with
 | some _=>(match k with
   | .one=>(match cs with|[c]=>d4 c|_=>false)
   | .agg=>(match cs with|[c]=>d4 c|_=>false)
   | _=>false)
 | none=>(match k with|.tup _=>!aV cs|_=>false)
def MS (TE:Nat->Option TI) (N:eL) (F:Nat->AV) (d:Nat) (T:Option Nat) (s:Nat) (K:(Nat->AV)->Prop):Prop:=match T with
 | some T=>eY TE N F d T 1 [(0,.tmp s)] K
 | none=>ij N F d (.tmp s) K
def Er (F:Nat->AV) (o:Oper):Option (Option Nat × Nat):=
 match o.guard with
 | some _=>none
 | none=>match mj o.op with
  | none=>none
  | some p=>match F p.2 with
   | .hold k cs=>bif own1 p.1 k cs then some p else none
   | .dead=>none
   | .ref ..=>none
   | .bor ..=>none
   | .iref ..=>none
   | .fn ..=>none
   | .fv _=>none
def ip (ops:Array Oper) (o:Oper) (s:Nat):Bool:=
 ((List.range ops.size).any fun k=>cK o k&&(match(cB ops k).dst with|some a=>Nat.beq a s|none=>false))&&Nat.ble (ops.toList.filter fun k=>(k.looksAt ops).any (Nat.beq s)).length 1
def mD (ds:List Nat) (o:Oper):Bool:=match o.dst with|some d=>ds.any (Nat.beq d)|none=>false
def twk:List Nat->List Nat
 | []=>[]
 | e::l=>bif Nat.ble 1000 e then(e - 1000)::twk l else []
def dec:List Nat->List (Nat × List Nat)
 | []=>[]
 | e::l=>bif Nat.ble 1000 e then dec l else(e,twk l)::dec l
def MH:Op->Bool
 | .move (.tmp _)=>true
 | .assign _=>true
 | .extract ..=>true
 | .build ..=>true
 | .buildSlice ..=>true
 | .store ..=>true
 | .load ..=>true
 | .fieldAddr ..=>true
 | .field ..=>true
 | .binOp ..=>true
 | .unOp ..=>true
 | .call c=>(pO c).isSome
 | _=>false
def Fa:Op->Bool
 | .call c=>(match c.callee with|.value (.func _)=>true|_=>false)
 | _=>false
def ow (l:List (Nat × List Nat)) (i:Nat):Bool:=l.any fun p=>Nat.beq p.1 i
def t7 (ops:Array Oper) (j i:Nat):Bool:=(clo ops j (BI (ons (cB ops j)))).testBit i
def Nc (o:Oper):Bool:=match o.guard with|none=>true|some _=>false
def NC (sch:List (Nat × List Nat)) (i:Nat):Bool:=sch.any fun p=>Nat.beq p.1 i&&!p.2.isEmpty
def MZ (ops:Array Oper) (oj oa:Oper) (nm:Bool):Bool:=match oa.dst with
 | none=>false
 | some da=>Nc oj&&MH oj.op&&!(match oj.dst with|some d=>Nat.beq d da|none=>false)&&!(oj.looksAt ops).any (Nat.beq da)&&Nc oa&&!(oa.looksAt ops).any (Nat.beq da)&&(nm || match mj oa.op with|none=>true|some p=>!ip ops oa p.2)
def xJ (ops:Array Oper) (ds:List Nat) (nm:Nat->Bool) (i j:Nat):Bool:=
 bif mD ds (cB ops j) then(bif mD ds (cB ops i) then(cK (cB ops j) i || cK (cB ops i) j || (cB ops i).apart ops (cB ops j))&&(!rX ops i j || cK (cB ops j) i)&&!(match(cB ops i).dst with|some d=>(match(cB ops j).dst with|some e=>Nat.beq d e|none=>false)|none=>false) else true)
 else(bif mD ds (cB ops i) then(t7 ops j i || t7 ops i j || MZ ops (cB ops j) (cB ops i) (nm i))&&(!rX ops i j || cK (cB ops j) i) else true)
def B9 (ops:Array Oper) (ds:List Nat):List (Nat × List Nat)->Bool
 | []=>true
 | k::l=>Nat.blt k.1 ops.size&&!ow l k.1&&((cB ops k.1).after.toList.all fun e=>!Region.binds .any e || !(Nat.beq k.1 e.on || ow l e.on)) &&
  (mD ds (cB ops k.1) || ((l.all fun j=>t7 ops j.1 k.1)&&(below ops.size fun p=>!mD ds (cB ops p) || ow l p || t7 ops k.1 p || k.2.any (Nat.beq p))&&(!(l.any fun j=>mD ds (cB ops j.1)) || (Nc (cB ops k.1)&&(MH (cB ops k.1).op || Fa (cB ops k.1).op)))))&&B9 ops ds l
def zY (ops:Array Oper) (ds:List Nat) (sch:List (Nat × List Nat)):Bool:=
 (below ops.size fun j=>((cB ops j).after.toList.all fun e=>!Region.binds .any e || Nat.blt e.on j)&&ow sch j&&(!mD ds (cB ops j) || (match mj (cB ops j).op with|none=>true|some p=>!ip ops (cB ops j) p.2 || ds.any (Nat.beq p.2)))&&below ops.size fun i=>Nat.beq i j || xJ ops ds (NC sch) i j)&&Nat.beq sch.length ops.size&&B9 ops ds sch
def ma (tb:List (Nat × Nat × List Nat)) (id:Nat) (ops:Array Oper):Bool:=
 match vN tb id with
 | some (m,ds)=>bif Nat.ble 65536 m then true else bif Nat.ble 256 m then zY ops (ds.take (m - 256)) (dec (ds.drop (m - 256))) else(Nat.ble m ops.size&&below m fun j=>match(cB ops j).dst with|some d=>ds.any (Nat.beq d)|none=>true)&&zu ops m
 | none=>false
def jL (P:Program) (TE:Nat->Option TI) (N:eL) (ops:Array Oper) (o:Oper) (K:(Nat->AV)->Prop) (F:Nat->AV):Prop:=
 match Er F o with
 | some p=>(match o.dst with|some d=>bif ip ops o p.2 then MS TE N F d p.1 p.2 K else False|none=>False)
 | none=>fQ P TE N ops o K F
def HS (P:Program) (TE:Nat->Option TI) (N:eL) (ops:Array Oper):Nat->List Oper->((Nat->AV)->Prop)->(Nat->AV)->Prop
 | 0,l,K,F=>Ho P TE N ops l K F
 | _+1,[],K,F=>K F
 | m+1,o::l,K,F=>jL P TE N ops o (HS P TE N ops m l K) F
def Lg (ds:List Nat) (t:Nat):Bool:=ds.any (Nat.beq t)
def NN (ds:List Nat):AV->AV
 | .ref t off st=>bif Lg ds t then .dead else .ref t off st
 | .bor t off st ag=>bif Lg ds t then .dead else .bor t off st ag
 | .fn f caps=>bif caps.any (Lg ds) then .dead else .fn f caps
 | .hold k cs=>.hold k cs
 | .iref r off=>.iref r off
 | .fv Ok=>.fv Ok
 | .dead=>.dead
def clr (ds:List Nat) (F:Nat->AV):Nat->AV:=fun t=>NN ds (F t)
theorem Aq (ds:List Nat) (F:Nat->AV) (t:Nat):clr ds F t=bif ds.any (fun d=>(F t).uses d) then .dead else F t:=by
 unfold clr;cases F t with
 | dead=>cases ds.any fun d=>AV.uses d .dead<;>rfl
 | hold k cs=>
  have:ds.any (fun d=>(AV.hold k cs).uses d)=false:=by
   rw[<-t4,Z2]
   rintro⟨d,_,h⟩
   cases h
  rw[this];rfl
 | iref r off=>
  have:ds.any (fun d=>(AV.iref r off).uses d)=false:=by
   rw[<-t4,Z2]
   rintro⟨d,_,h⟩
   cases h
  rw[this];rfl
 | fv Ok=>
  have:ds.any (fun d=>(AV.fv Ok).uses d)=false:=by
   rw[<-t4,Z2]
   rintro⟨d,_,h⟩
   cases h
  rw[this];rfl
 | ref t' off st=>rfl
 | bor t' off st ag=>rfl
 | fn f caps=>
  have:ds.any (fun d=>(AV.fn f caps).uses d)=caps.any (Lg ds):=by
   rw[U3,Z2,Z2];constructor
   ·rintro⟨d,hd,h⟩
    simp only[AV.uses,Z2]at h;obtain⟨c,hc,he⟩:=h;exact⟨c,hc,Z2.2 ⟨d,hd,he⟩⟩
   ·rintro⟨c,hc,h⟩
    obtain⟨d,hd,he⟩:=Z2.1 h;exact⟨d,hd,by simp only[AV.uses,Z2];exact⟨c,hc,he⟩⟩
  rw[this];rfl
inductive Sm (a b:AV) (K:Prop):Prop
 |mk_ (h:a=b/\K)
theorem Sm.rf {a:AV} {K:Prop} (h:K):Sm a a K:=.mk_ ⟨rfl,h⟩
theorem Sm.out {a b:AV} {K:Prop} (h:Sm a b K):a=b/\K:=h.1
def N5 (P:Program) (TE:Nat->Option TI) (ops:Array Oper) (p:Nat) (K:Prop) (F:Nat->AV):Prop:=
 match(cB ops p).dst with
 | none=>False
 | some d=>(match Er F (cB ops p) with
   | some _=>False
   | none=>cX P TE F (cB ops p).op fun av=>Sm av (F d) K)
def Jj (P:Program) (TE:Nat->Option TI) (ops:Array Oper):List Nat->Prop->(Nat->AV)->Prop
 | [],K,_=>K
 | p::l,K,F=>N5 P TE ops p (Jj P TE ops l K F) F
def J1 (P:Program) (TE:Nat->Option TI) (N:eL) (ops:Array Oper) (nm:Bool) (o:Oper) (K:(Nat->AV)->Prop) (F:Nat->AV):Prop:=
 match nm with
 | false=>jL P TE N ops o K F
 | true=>(match Er F o with
   | some _=>False
   | none=>fQ P TE N ops o K F)
def G5 (P:Program) (TE:Nat->Option TI) (N:eL) (ops:Array Oper) (ds:List Nat) (nm:Nat->Bool):List (Nat × List Nat)->((Nat->AV)->Prop)->(Nat->AV)->Prop
 | [],K,F=>K F
 | k::l,K,F=>bif mD ds (cB ops k.1) then J1 P TE N ops (nm k.1) (cB ops k.1) (G5 P TE N ops ds nm l K) F else jo P TE N ops (cB ops k.1) (fun F1=>Jj P TE ops k.2 (G5 P TE N ops ds nm l K F1) F1) F
def LD:List Nat->(List Nat->Prop)->Prop
 | [],K=>K []
 | a::l,K=>LD l fun l'=>K (a::l')
theorem Fc:∀ (l:List Nat) (K:List Nat->Prop),LD l K=K l
 | [],_=>rfl
 | a::l,K=>by rw[LD,Fc l]
def yX (l:List Nat) (j:Nat):Bool:=l.any (Nat.beq j)
def HL (ops:Array Oper) (done:List Nat):List Nat:=(List.range ops.size).filter fun j=>!yX done j&&((cB ops j).after.toList.all fun e=>!Region.binds .any e || yX done e.on)
def NM (p:Nat->Prop):Nat->List Nat->Prop
 | i,[]=>p i
 | i,j::l=>p i/\NM p j l
def NE (l:List Nat) (K:Prop) (p:Nat->Prop):Prop:=match l with
 | []=>K
 | i::l=>NM p i l
def MK (P:Program) (TE:Nat->Option TI) (N:eL) (ops:Array Oper) (K:(Nat->AV)->Prop):Nat->List Nat->(Nat->AV)->Prop
 | 0,done,F=>NE (HL ops done) (K F) fun _=>False
 | n+1,done,F=>NE (HL ops done) (K F) fun i=>jo P TE N ops (cB ops i) (MK P TE N ops K n (i::done)) F
def DD (P:Program) (TE:Nat->Option TI) (N:eL) (tb:List (Nat × Nat × List Nat)) (id:Nat) (ops:Array Oper) (K:(Nat->AV)->Prop) (F:Nat->AV):Prop:=
 match vN tb id with
 | some (m,ds)=>bif Nat.ble 65536 m then MK P TE N ops K ops.size [] F else bif Nat.ble 256 m then LD (ds.take (m - 256)) fun ds'=>G5 P TE N ops ds' (NC (dec (ds.drop (m - 256)))) (dec (ds.drop (m - 256))) K (clr ds' F) else HS P TE N ops m ops.toList K (clr ds F)
 | none=>False
theorem fR {n:Nat} {p:Nat->Bool} (h:below n p=true) {i:Nat} (hi:i<n):p i=true:=v3.1 h i (List.mem_range.2 hi)
theorem bV {o:Oper} {i:Nat} : cK o i=true↔∃ e,e∈o.after/\Region.binds .any e=true/\e.on=i:=by
 unfold cK;rw[Z2];constructor
 ·rintro⟨e,he,hb⟩
  simp only[I0]at hb;exact⟨e,by simpa using he,hb.1,P1 hb.2⟩
 ·rintro⟨e,he,hb,rfl⟩
  exact⟨e,by simpa using he,by rw[hb,Nat.beq_refl];rfl⟩
theorem aW {ops:Array Oper} {i:Nat} {o:Oper} (h:ops[i]? = some o):cB ops i=o:=by simp[cB,V4,h]
section
variable {P:Program} {w0 w w1:World} {M S0 S:ac} {N:eL} {φ:Nat->ac} {F:Nat->AV} {a:Act} {TE:Nat->Option TI} {ops:Array Oper}
theorem rG {d:Nat} {b:Bool} (hF:F d=.hold .one [.v (.bool b)]):Bi F d b=F:=by
 funext t
 unfold Bi;cases ht:Nat.beq t d with
 | true=>have:=P1 ht;subst this;rw[hF];rfl
 | false=>rfl
theorem fL (o:Oper) (t:Nat) (h:t∈cM o.op):t∈o.looksAt ops:=by
 unfold Oper.looksAt;refine List.mem_append_left _ ?_;unfold cM at h;obtain⟨x,hx,ht⟩:=List.mem_flatMap.1 h;refine List.mem_filterMap.2 ⟨x,hx,?_⟩;cases x with
 | tmp t'=>simp[tm]at ht;subst ht;rfl
 | _=>simp[tm]at ht
structure Ph (P:Program) (TE:Nat->Option TI) (N:eL) (ops:Array Oper) (o:Oper) (F:Nat->AV) (d:Nat) (av:AV):Prop where
 dst:o.dst=some d
 lt:N.free d=true
 self:av.uses d=false
 from_:d6 F (o.looksAt ops) av
 at_:∀ F':Nat->AV,im F F' (o.looksAt ops)->∀ K':(Nat->AV)->Prop,K' (put F' d av)->fQ P TE N ops o K' F'
theorem im.refl (F:Nat->AV) (ts:List Nat):im F F ts:=fun _ _=>⟨rfl,fun _ _ _ _ h=>h⟩
theorem vr {o:Oper} {K:(Nat->AV)->Prop} (h:fQ P TE N ops o K F):∃ d av,Ph P TE N ops o F d av/\K (put F d av):=by
 cases hd:o.dst with
 | none=>
  exfalso;unfold fQ at h;rw[hd]at h;unfold eP at h;cases hg:o.guard with
  | none=>rw[hg]at h;exact h
  | some p=>
   obtain⟨j,want⟩:=p;rw[hg]at h;simp only at h;cases hj:(ops[j]?).bind (·.dst) with
   | none=>rw[hj]at h;exact h
   | some dg=>
    rw[hj]at h;simp only at h;split at h
    ·rename_i b _
     replace h:=Bf.out h;cases b<;>cases want<;>exact h
    ·exact h
    ·exact h
 | some d=>
  have put1:∀ {F':Nat->AV} {av:AV} {K':(Nat->AV)->Prop},N.free d=true->av.uses d=false->K' (put F' d av)->bL N F' d av K':=fun h1 h2 h3=>by unfold bL;rw[h1,h2];exact h3
  have put2:∀ {F':Nat->AV} {av:AV} {K':(Nat->AV)->Prop},bL N F' d av K'->N.free d=true/\av.uses d=false/\K' (put F' d av):=fun {F' av K'} hp=>by
   unfold bL at hp;cases hc:(N.free d&&!av.uses d) with
   | false=>rw[hc]at hp;exact hp.elim
   | true=>
    rw[hc]at hp;simp only[I0,Bool.not_eq_true']at hc;exact⟨hc.1,hc.2,hp⟩
  have pure1:cX P TE F o.op (fun av=>bL N F d av K)->∃ av,N.free d=true/\av.uses d=false/\K (put F d av)/\d6 F (o.looksAt ops) av/\∀ F':Nat->AV,im F F' (o.looksAt ops)->∀ K':(Nat->AV)->Prop,K' (put F' d av)->cX P TE F' o.op (fun av=>bL N F' d av K'):=fun hp=>by
   obtain⟨av,h1,h2,h3⟩:=lr hp;obtain⟨p1,p2,p3⟩:=put2 h1;refine⟨av,p1,p2,p3,h2.mono fun t ht=>fL o t ht,fun F' hA K' hK=>?_⟩;exact h3 F' (hA.mono fun t ht=>fL o t ht) _ (put1 p1 p2 hK)
  unfold fQ at h;rw[hd]at h;unfold eP at h;cases hg:o.guard with
  | none=>
   rw[hg]at h;obtain⟨av,p1,p2,p3,p4,p5⟩:=pure1 h;exact⟨d,av,⟨hd,p1,p2,p4,fun F' hA K' hK=>by unfold fQ eP;rw[hg,hd];exact p5 F' hA K' hK⟩,p3⟩
  | some p=>
   obtain⟨j,want⟩:=p;rw[hg]at h;simp only at h;cases hj:(ops[j]?).bind (·.dst) with
   | none=>rw[hj]at h;exact h.elim
   | some dg=>
    rw[hj]at h;simp only at h;have hdg:dg∈o.looksAt ops:=by
     unfold Oper.looksAt;rw[hg];simp only[hj,Option.toList_some];simp
    split at h
    case h_3=>exact h.elim
    case h_2=>
     rename_i sh cs hFd;obtain⟨p1,p2,p3⟩:=put2 h;refine⟨d,.hold (.tup []) [],⟨hd,p1,p2,(fun d hd=>by cases hd),fun F' hA K' hK=>?_⟩,p3⟩;unfold fQ eP;rw[hg,hd];simp only;rw[hj];simp only;rw[(hA dg hdg).1.trans hFd];exact put1 p1 p2 hK
    rename_i b hFd;have same:∀ {F':Nat->AV},im F F' (o.looksAt ops)->F' dg=.hold .one [.v (.bool b)]:=fun hA=>(hA dg hdg).1.trans hFd
    have back:∀ {F':Nat->AV} {K':(Nat->AV)->Prop},im F F' (o.looksAt ops)->(b=want->cX P TE F' o.op (fun av=>bL N F' d av K'))->(b = !want->bL N F' d (.hold (.tup []) []) K')->fQ P TE N ops o K' F':=fun {F' K'} hA h1 h2=>by
     unfold fQ eP;rw[hg,hd];simp only;rw[hj];simp only;rw[same hA];simp only;refine Bf.P (fun hb=>?_) (fun hb=>?_)
     ·subst hb
      rw[rG (same hA)];cases want with
      | true=>exact h1 rfl
      | false=>exact h2 rfl
     ·subst hb
      rw[rG (same hA)];cases want with
      | true=>exact h2 rfl
      | false=>exact h1 rfl
    have hset:=rG hFd;replace h:=Bf.out h;by_cases hbw:b=want
    ·have hp:cX P TE F o.op (fun av=>bL N F d av K):=by
      subst hbw;cases b with
      | true=>have:=h;rw[hset]at this;exact this
      | false=>have:=h;rw[hset]at this;exact this
     obtain⟨av,p1,p2,p3,p4,p5⟩:=pure1 hp;exact⟨d,av,⟨hd,p1,p2,p4,fun F' hA K' hK=>back hA (fun _=>p5 F' hA K' hK) (fun e=>by subst hbw;cases b<;>cases e)⟩,p3⟩
    ·have hp:bL N F d (.hold (.tup []) []) K:=by
      cases b<;>cases want<;>first|exact absurd rfl hbw|skip
      ·have:=h;rw[hset]at this;exact this
      ·have:=h;rw[hset]at this;exact this
     obtain⟨p1,p2,p3⟩:=put2 hp;exact⟨d,.hold (.tup []) [],⟨hd,p1,p2,(fun d hd=>by cases hd),fun F' hA K' hK=>back hA (fun e=>absurd e hbw) (fun _=>put1 p1 p2 hK)⟩,p3⟩
def aft:AV->AV
 | .hold k cs=>.hold k (splice cs 0 (List.replicate cs.length .x))
 | _=>.hold .one [.x]
theorem Kg (v:AV) (e:Nat):(aft v).uses e=false:=by unfold aft;split<;>rfl
def eff (mv:Option Nat) (d:Nat) (av:AV) (F:Nat->AV):Nat->AV:=fun t=>if t=d then av else if mv=some t then aft (F t) else F t
theorem zS {d:Nat} (av:AV) (hc:∀ t,(F t).uses d=false):put F d av=eff none d av F:=by
 funext t
 unfold eff;by_cases h:t=d
 ·subst h;rw[kV,if_pos rfl]
 ·rw[gc _ _ h,if_neg h,if_neg (fun e=>by cases e),xI,hc t];rfl
theorem Mv {s:Nat} {v:AV} (h:v.uses s=false):qh s v=v:=by
 cases v with
 | bor t off st ag=>simp only[AV.uses]at h;simp[qh,h]
 | ref t off st=>simp only[AV.uses]at h;cases st<;>simp[qh,h]
 | _=>rfl
theorem HE {d s:Nat} {k:Kd} {cs:List C} (av:AV) (hF:F s=.hold k cs) (hc:∀ t,(F t).uses d=false) (hs:∀ t,(F t).uses s=false):put (updH F s k (splice cs 0 (List.replicate cs.length .x))) d av=eff (some s) d av F:=by
 funext t
 unfold eff;by_cases h:t=d
 ·subst h;rw[kV,if_pos rfl]
 ·rw[gc _ _ h,if_neg h]
  by_cases h2:t=s
  ·subst h2;rw[gd,if_pos rfl,hF];rfl
  ·rw[if_neg (fun e=>h2 (by simpa using e.symm))]
   unfold updH;rw[show Nat.beq t s=false by rw[<-t4,Nat.beq_eq];exact h2];simp only[cond_false];rw[Mv (hs t),xI,hc t];rfl
theorem Ec {d T s:Nat} {k:Kd} {c:C} {K:(Nat->AV)->Prop} (hk:k=.one\/k=.agg) (hF:F s=.hold k [c]) (hc:d4 c=true) (h:eY TE N F d T 1 [(0,.tmp s)] K) :
  ∃ av,N.free d=true/\(∀ e,av.uses e=false)/\K (put (updH F s k [.x]) d av)/\∀ (F':Nat->AV) (K':(Nat->AV)->Prop),F' s=.hold k [c]->K' (put (updH F' s k [.x]) d av)->eY TE N F' d T 1 [(0,.tmp s)] K':=by
 have key:∀ F':Nat->AV,F' s=.hold k [c]->∀ K':(Nat->AV)->Prop,eY TE N F' d T 1 [(0,.tmp s)] K'=FY TE T fun _ ie=>bif Nat.ble (1*ie.size) 16777216 then(bif Nat.beq 1 ie.size&&Nat.ble (0*ie.size+ie.size) (rep ie.zero 1).length then bL N (updH F' s k [.x]) d (.hold .one [.s .own (chunk ie.size 1 (splice (rep ie.zero 1) (0*ie.size) [c]))]) K' else False) else False:=by
  intro F' hF' K';unfold eY
  congr 1
  funext e ie
  rcases hk with rfl|rfl<;>simp only[di,fillW,NJ,sZ,lA,hF',gE,aV,hc,cond_true,cond_false,gh,nB,List.length_singleton,List.replicate]
  all_goals rfl
 rw[key F hF]at h;obtain⟨e,ie,h1,hsel⟩:=iA h;cases hb1:Nat.ble (1*ie.size) 16777216 with
 | false=>rw[hb1]at h1;exact h1.elim
 | true=>
  cases hb2:(Nat.beq 1 ie.size&&Nat.ble (0*ie.size+ie.size) (rep ie.zero 1).length) with
  | false=>rw[hb1,hb2]at h1;exact h1.elim
  | true=>
   rw[hb1,hb2]at h1;simp only[cond_true]at h1;unfold bL at h1;cases hfr:N.free d with
   | false=>rw[hfr]at h1;exact h1.elim
   | true=>
    rw[hfr]at h1;refine⟨_,rfl,fun _=>rfl,h1,fun F' K' hF' hK=>?_⟩;rw[key F' hF'];refine hsel _ ?_;simp only[hb1,hb2,cond_true];unfold bL;rw[hfr];exact hK
theorem M2 {d s:Nat} {T:Option Nat} {k:Kd} {cs:List C} {K:(Nat->AV)->Prop} (hF:F s=.hold k cs) (ho:own1 T k cs=true) (h:MS TE N F d T s K) :
  ∃ av,N.free d=true/\(∀ e,av.uses e=false)/\K (put (updH F s k (splice cs 0 (List.replicate cs.length .x))) d av)/\∀ (F':Nat->AV) (K':(Nat->AV)->Prop),F' s=.hold k cs->K' (put (updH F' s k (splice cs 0 (List.replicate cs.length .x))) d av)->MS TE N F' d T s K':=by
 cases T with
 | some T=>
  have h1:(k=.one\/k=.agg)/\∃ c,cs=[c]/\d4 c=true:=by
   unfold own1 at ho;cases k with
   | one=>match cs,ho with|[c],ho=>exact⟨.inl rfl,c,rfl,ho⟩
   | agg=>match cs,ho with|[c],ho=>exact⟨.inr rfl,c,rfl,ho⟩
   | _=>cases ho
  obtain⟨hk,c,rfl,hc⟩:=h1;exact Ec hk hF hc h
 | none=>
  have h1:∃ sh,k=.tup sh/\aV cs=false:=by
   unfold own1 at ho;cases k with
   | tup sh=>exact⟨sh,rfl,by simpa using ho⟩
   | _=>cases ho
  obtain⟨sh,rfl,hn⟩:=h1;have key:∀ F':Nat->AV,F' s=.hold (.tup sh) cs->∀ K',MS TE N F' d none s K'=bL N (updH F' s (.tup sh) (splice cs 0 (List.replicate cs.length .x))) d (.hold (.tup sh) cs) K':=fun F' hF' K'=>by
   simp only[MS,ij,hF',hn,cond_false]
  rw[key F hF]at h;unfold bL at h;cases hfr:N.free d with
  | false=>rw[hfr]at h;exact h.elim
  | true=>
   rw[hfr]at h;refine⟨_,rfl,fun _=>rfl,h,fun F' K' hF' hK=>?_⟩;rw[key F' hF'];unfold bL;rw[hfr];exact hK
structure Yl (P:Program) (TE:Nat->Option TI) (N:eL) (ops:Array Oper) (o:Oper) (F:Nat->AV) (mv:Option Nat) (d:Nat) (av:AV):Prop where
 dst:o.dst=some d
 lt:N.free d=true
 self:av.uses d=false
 from_:d6 F (o.looksAt ops) av
 mvl:∀ s,mv=some s->o.guard=none/\(∃ T,mj o.op=some (T,s))/\ip ops o s=true
 at_:∀ F':Nat->AV,im F F' (o.looksAt ops)->(∀ t,(F' t).uses d=false)->(∀ s,mv=some s->∀ t,(F' t).uses s=false)->∀ K':(Nat->AV)->Prop,K' (eff mv d av F')->jL P TE N ops o K' F'
theorem FF {o:Op} {T:Option Nat} {s:Nat} (h:mj o=some (T,s)):(∃ T' ps,T=some T'/\o=.buildSlice T' 1 ps/\ps.toList=[(0,.tmp s)])\/(T=none/\o=.move (.tmp s)):=by
 unfold mj at h;split at h
 ·split at h
  ·rename_i T' ps s' hps
   simp only[T0,Prod.mk.injEq]at h;obtain⟨rfl,rfl⟩:=h;exact .inl ⟨_,_,rfl,rfl,hps⟩
  ·cases h
 ·simp only[T0,Prod.mk.injEq]at h
  obtain⟨rfl,rfl⟩:=h;exact .inr ⟨rfl,rfl⟩
 ·cases h
theorem cG {o:Oper} {T:Option Nat} {s:Nat} (h:mj o.op=some (T,s)):s∈o.looksAt ops:=by
 refine fL o s ?_;unfold cM;refine List.mem_flatMap.2 ⟨.tmp s,?_,by simp[tm]⟩;rcases FF h with⟨T',ps,-,h1,h2⟩|⟨-,h1⟩
 ·rw[h1]
  simp only[Op.operands];have:ps = #[(0,.tmp s)]:=Array.ext' (by rw[h2]);subst this;simp
 ·rw[h1];simp[Op.operands]
theorem A4 {o:Oper} {p:Option Nat × Nat} (h:Er F o=some p):o.guard=none/\mj o.op=some p/\∃ k cs,F p.2=.hold k cs/\own1 p.1 k cs=true:=by
 unfold Er at h;split at h
 ·cases h
 rename_i hg;split at h
 ·cases h
 rename_i p' hp;split at h
 case h_1=>
  rename_i k cs hF;cases hb:own1 p'.1 k cs with
  | false=>rw[hb]at h;cases h
  | true=>
   rw[hb]at h;simp only[cond_true,T0]at h;subst h;exact⟨hg,hp,_,_,hF,hb⟩
 all_goals cases h
theorem tR {F':Nat->AV} {o:Oper} (hA:im F F' (o.looksAt ops)):Er F' o=Er F o:=by
 unfold Er;cases hg:o.guard with
 | some _=>rfl
 | none=>
  cases hm:mj o.op with
  | none=>rfl
  | some p=>simp only;rw[(hA p.2 (cG hm)).1]
theorem pT {o:Oper} {K:(Nat->AV)->Prop} (hm:Er F o=none) (h:fQ P TE N ops o K F) (hc:∀ d,o.dst=some d->∀ t,(F t).uses d=false):∃ d av,Yl P TE N ops o F none d av/\K (eff none d av F):=by
 obtain⟨d,av,hy,hK⟩:=vr h;refine⟨d,av,⟨hy.dst,hy.lt,hy.self,hy.from_,fun s hs=>(by cases hs),fun F' hA hd _ K' hK'=>?_⟩,by rw[<-zS av (hc d hy.dst)];exact hK⟩;unfold jL;rw[tR hA,hm];exact hy.at_ F' hA K' (by rw[zS av hd];exact hK')
theorem nX {o:Oper} {K:(Nat->AV)->Prop} (h:jL P TE N ops o K F) (hc:∀ d,o.dst=some d->∀ t,(F t).uses d=false) (hs:∀ T s,o.guard=none->mj o.op=some (T,s)->ip ops o s=true->∀ t,(F t).uses s=false) :
  ∃ mv d av,Yl P TE N ops o F mv d av/\K (eff mv d av F):=by
 unfold jL at h;cases hm:Er F o with
 | none=>
  rw[hm]at h;obtain⟨d,av,h1⟩:=pT hm h hc;exact⟨none,d,av,h1⟩
 | some p=>
  rw[hm]at h;obtain⟨hg,hmo,k,cs,hF,hown⟩:=A4 hm;simp only at h;cases hd:o.dst with
  | none=>rw[hd]at h;exact h.elim
  | some d=>
   rw[hd]at h;simp only at h;cases hso:ip ops o p.2 with
   | false=>rw[hso]at h;exact h.elim
   | true=>
    rw[hso]at h;simp only[cond_true]at h;obtain⟨av,h1,h2,h3,h4⟩:=M2 hF hown h;refine⟨some p.2,d,av,⟨hd,h1,h2 d,fun e he=>(by rw[h2 e]at he;cases he),fun s hs=>?_,fun F' hA hd' hs' K' hK'=>?_⟩,?_⟩
    ·simp only[T0]at hs
     subst hs;exact⟨hg,⟨p.1,hmo⟩,hso⟩
    ·unfold jL
     rw[tR hA,hm];simp only;rw[hd];simp only;rw[hso];refine h4 F' K' ((hA p.2 (cG hmo)).1.trans hF) ?_;rw[HE av ((hA p.2 (cG hmo)).1.trans hF) hd' (hs' p.2 rfl)];exact hK'
    ·rw[<-HE av hF (hc d hd) (hs p.1 p.2 hg hmo hso)]
     exact h3
theorem G6 {nm:Bool} {o:Oper} {K:(Nat->AV)->Prop} (h:J1 P TE N ops nm o K F) (hc:∀ d,o.dst=some d->∀ t,(F t).uses d=false) (hs:∀ T s,o.guard=none->mj o.op=some (T,s)->ip ops o s=true->∀ t,(F t).uses s=false) :
  ∃ mv d av,Yl P TE N ops o F mv d av/\K (eff mv d av F)/\(nm=true->mv=none):=by
 unfold J1 at h;cases nm with
 | false=>
  obtain⟨mv,d,av,h1,h2⟩:=nX h hc hs;exact⟨mv,d,av,h1,h2,fun e=>(by cases e)⟩
 | true=>
  cases hm:Er F o with
  | some p=>simp only[hm]at h
  | none=>
   simp only[hm]at h;obtain⟨d,av,h1,h2⟩:=pT hm h hc;exact⟨none,d,av,h1,h2,fun _=>rfl⟩
end
section
variable {P:Program} {w0 w w1:World} {M S0 S:ac} {N:eL} {φ:Nat->ac} {F:Nat->AV} {a:Act} {TE:Nat->Option TI} {ops:Array Oper}
def wc (P:Program) (TE:Nat->Option TI) (N:eL) (ops:Array Oper) (m i:Nat) (K:(Nat->AV)->Prop) (F:Nat->AV):Prop:=
 match ops[i]? with
 | none=>K F
 | some o=>if i<m then jL P TE N ops o K F else jo P TE N ops o K F
def EU (P:Program) (TE:Nat->Option TI) (N:eL) (ops:Array Oper) (m:Nat) (K:(Nat->AV)->Prop):Nat->Array Bool->(Nat->AV)->Prop
 | 0,listed,F=>Region.ready .any ops listed=[]/\K F
 | fuel+1,listed,F=>(Region.ready .any ops listed=[]->K F)/\∀ i,i∈Region.ready .any ops listed->wc P TE N ops m i (EU P TE N ops m K fuel (listed.setIfInBounds i true)) F
theorem bh.oneP0 (h:bh w0 M S0 N S φ F a w) (hTE:∀ t i,TE t=some i->bY P t i) {o:Oper} {K:(Nat->AV)->Prop} (hp:fQ P TE N ops o K F)
  {Kc:Act->World->Prop} {Q:Exit->Act->World->Prop} (hk:∀ F' a' w',K F'->St w0 M S0 N F' a' w'->Kc a' w') :
  if Region.wanted o (yielded ops a.tmps) then o.wp P a w Kc Q else Kc (a.put o.dst undef) w:=by
 unfold fQ at hp;rcases vg h hp with⟨hw,hp⟩|⟨hw,hp⟩
 ·rw[hw,if_pos rfl]
  cases hd:o.dst with
  | none=>rw[hd]at hp;exact hp.elim
  | some d=>
   rw[hd]at hp;obtain⟨av,hK,hy⟩:=h.pure_ hTE hp;refine hy Kc Q fun v w' hn=>?_
   obtain⟨F',hK',hst⟩:=h.putD_new hn hK;rw[hd];exact hk F' _ w' hK' hst
 ·rw[hw,if_neg (by simp)]
  cases hd:o.dst with
  | none=>rw[hd]at hp;exact hp.elim
  | some d=>
   rw[hd]at hp;obtain⟨F',hK,hst⟩:=h.putD_new (v:=undef) (kM.same (av:=.hold (.tup []) []) Ko) hp;exact hk F' _ w hK hst
theorem GL {o:Oper} {p:Option Nat × Nat} {d:Nat} {K:(Nat->AV)->Prop} (hm:Er F o=some p) (hd:o.dst=some d) (h:MS TE N F d p.1 p.2 K):jo P TE N ops o K F:=by
 obtain⟨hg,hmo,-⟩:=A4 hm;obtain⟨T,s⟩:=p;rcases FF hmo with⟨T',ps,rfl,h1,h2⟩|⟨rfl,h1⟩
 ·unfold jo eP
  rw[hg];simp only;rw[h1];simp only[GS];rw[hd];simp only[nl,h2];exact h
 ·unfold jo eP
  rw[hg];simp only;rw[h1];simp only[GS];rw[hd];simp only[nl];exact h
theorem bh.oneP (h:bh w0 M S0 N S φ F a w) (hTE:∀ t i,TE t=some i->bY P t i) {o:Oper} {K:(Nat->AV)->Prop} (hp:jL P TE N ops o K F)
  {Kc:Act->World->Prop} {Q:Exit->Act->World->Prop} (hk:∀ F' a' w',K F'->St w0 M S0 N F' a' w'->Kc a' w') :
  if Region.wanted o (yielded ops a.tmps) then o.wp P a w Kc Q else Kc (a.put o.dst undef) w:=by
 unfold jL at hp;cases hm:Er F o with
 | none=>rw[hm]at hp;exact h.oneP0 hTE hp hk
 | some p=>
  rw[hm]at hp;simp only at hp;cases hd:o.dst with
  | none=>rw[hd]at hp;exact hp.elim
  | some d=>
   rw[hd]at hp;simp only at hp;cases hso:ip ops o p.2 with
   | false=>rw[hso]at hp;exact hp.elim
   | true=>
    rw[hso]at hp;have:=h.one hTE (GL (P:=P) (ops:=ops) hm hd hp) (Q:=Q) hk;rw[hd]at this;exact this
theorem EF (hTE:∀ t i,TE t=some i->bY P t i) {m i:Nat} {K:(Nat->AV)->Prop} (hp:wc P TE N ops m i K F) (hs:St w0 M S0 N F a w) {Kc:Act->World->Prop} {Q:Exit->Act->World->Prop}
  (hk:∀ F' a' w',K F'->St w0 M S0 N F' a' w'->Kc a' w'):wpOp P ops Q i Kc a w:=by
 unfold wc at hp;unfold wpOp;cases ho:ops[i]? with
 | none=>rw[ho]at hp;exact hk F a w hp hs
 | some o=>
  rw[ho]at hp;simp only at hp |-;obtain⟨S,φ,h⟩:=hs;have:if Region.wanted o (yielded ops a.tmps) then o.wp P a w Kc Q else Kc (a.put o.dst undef) w:=by
   split at hp
   ·exact h.oneP hTE hp hk
   ·exact h.one hTE hp hk
  split
  ·rename_i hw;rw[if_pos hw]at this;exact .inl this
  ·rename_i hw;rw[if_neg hw]at this;exact this
theorem yD (hTE:∀ t i,TE t=some i->bY P t i) {m:Nat} {K:(Nat->AV)->Prop} {Q:Exit->Act->World->Prop} (hk:∀ F' a' w',K F'->St w0 M S0 N F' a' w'->Q .normal a' w') :
  ∀ (fuel:Nat) (listed:Array Bool) (F:Nat->AV) (a:Act) (w:World),EU P TE N ops m K fuel listed F->St w0 M S0 N F a w->wpAny P .any ops Q fuel listed a w
 | 0,_,F,a,w,hp,hs=>⟨hp.1,hk F a w hp.2 hs⟩
 | fuel+1,_,F,a,w,hp,hs=>⟨fun h0=>hk F a w (hp.1 h0) hs,fun i hi=>EF hTE (hp.2 i hi) hs fun F' a' w' hK hs'=>yD hTE hk fuel _ F' a' w' hK hs'⟩
structure xO (ops:Array Oper) (m:Nat) (F:Nat->AV) (listed:Array Bool):Prop where
 dst:∀ j o d,j<m->ops[j]? = some o->listed.getD j true=false->o.dst=some d->∀ t,(F t).uses d=false
 mv:∀ j o T s,j<m->ops[j]? = some o->listed.getD j true=false->o.guard=none->mj o.op=some (T,s)->ip ops o s=true->∀ t,(F t).uses s=false
def DC (ops:Array Oper) (listed:Array Bool):Prop:=∀ j oj,ops[j]? = some oj->listed.getD j false=true->∀ k,cK oj k=true->listed.getD k false=true
theorem Ll {d e:Nat} {v:AV} (h:(kl d v).uses e=true):v.uses e=true/\v.uses d=false:=by
 rw[xI]at h;cases hd:v.uses d with
 | true=>rw[hd]at h;cases h
 | false=>rw[hd]at h;exact⟨h,rfl⟩
theorem wv {α:Type} {p:α->Bool} : ∀ {l:List α} {i j:Nat} {x y:α},(l.filter p).length<=1->l[i]? = some x->l[j]? = some y->p x=true->p y=true->i=j
 | [],_,_,_,_,_,h,_,_,_=>by simp at h
 | a::l,0,0,_,_,_,_,_,_,_=>rfl
 | a::l,i+1,j+1,x,y,h,hx,hy,px,py=>by
  rw[wv (l:=l) (V3 (List.Sublist.length_le ((List.sublist_cons_self a l).filter p)) h) hx hy px py]
 | a::l,0,j+1,x,y,h,hx,hy,px,py=>by
  simp only[List.getElem?_cons_zero,T0]at hx;subst hx;rw[List.filter_cons_of_pos px]at h;have:y∈l.filter p:=P3.2 ⟨O1 hy,py⟩;have:=List.length_pos_of_mem this;rw[List.length_cons]at h;omega
 | a::l,i+1,0,x,y,h,hx,hy,px,py=>by
  simp only[List.getElem?_cons_zero,T0]at hy;subst hy;rw[List.filter_cons_of_pos py]at h;have:x∈l.filter p:=P3.2 ⟨O1 hx,px⟩;have:=List.length_pos_of_mem this;rw[List.length_cons]at h;omega
theorem gJ {listed:Array Bool} {j j':Nat} (hl:(listed.setIfInBounds j true).getD j' true=false):j'≠j:=fun e=>by
 subst e;have hlt:j'<listed.size:=by
  rcases Nat.lt_or_ge j' listed.size with h|h
  ·exact h
  ·simp[V4,Array.getElem?_eq_none (show(listed.setIfInBounds j' true).size<=j' by simpa using h)]at hl
 simp[V4,hlt]at hl
theorem iL {mv:Option Nat} {d e t:Nat} {av:AV} (hav:av.uses e=false) (hF:(F t).uses e=false):(eff mv d av F t).uses e=false:=by
 unfold eff;split
 ·exact hav
 ·split
  ·exact Kg _ _
  ·exact hF
theorem xO.put {m j d:Nat} {mv:Option Nat} {listed:Array Bool} {av:AV} (h:xO ops m F listed) (hav:∀ j' o' d',j'<m->j'≠j->ops[j']? = some o'->listed.getD j' true=false->o'.dst=some d'->av.uses d'=false)
  (hmv:∀ j' o' T s,j'<m->j'≠j->ops[j']? = some o'->listed.getD j' true=false->o'.guard=none->mj o'.op=some (T,s)->ip ops o' s=true->av.uses s=false) :
  xO ops m (eff mv d av F) (listed.setIfInBounds j true):=by
 refine⟨fun j' o' d' hm hj' hl hd' t=>?_,fun j' o' T s hm hj' hl hg hmo hso t=>?_⟩
 ·have hne:=gJ hl
  rw[getD_set_ne true (Ne.symm hne)]at hl;exact iL (hav j' o' d' hm hne hj' hl hd') (h.dst j' o' d' hm hj' hl hd' t)
 ·have hne:=gJ hl
  rw[getD_set_ne true (Ne.symm hne)]at hl;exact iL (hmv j' o' T s hm hne hj' hl hg hmo hso) (h.mv j' o' T s hm hj' hl hg hmo hso t)
inductive mt (ops:Array Oper):Nat->Nat->Prop
 |one {j i:Nat} (h:cK (cB ops j) i=true):mt ops j i
 |step {j k i:Nat} (h:cK (cB ops j) k=true) (h2:mt ops k i):mt ops j i
theorem mt.trans {i j k:Nat} (h:mt ops j k) (h2:mt ops k i):mt ops j i:=by
 induction h with
 | one h=>exact .step h h2
 | step h _ ih=>exact .step h (ih h2)
theorem Dz {i:Nat} : ∀ {ks:List Nat},(BI ks).testBit i=true->i∈ks
 | [],h=>by simp[BI]at h
 | k::ks,h=>by
  rw[BI,Nat.testBit_or,R4]at h;rcases h with h|h
  ·rw[Nat.testBit_two_pow]at h
   rw[C0]at h;rw[h];exact I1
  ·exact Z3 _ (Dz h)
theorem uv {o:Oper} {i:Nat} (h:(BI (ons o)).testBit i=true):cK o i=true:=by
 have:=Dz h;unfold ons at this;obtain⟨e,he,rfl⟩:=O3.1 this;rw[P3]at he;exact bV.2 ⟨e,by simpa using he.1,he.2,rfl⟩
theorem qx {j:Nat} : ∀ (k S:Nat),(∀ i,S.testBit i=true->mt ops j i)->∀ i,(clo ops k S).testBit i=true->mt ops j i
 | 0,_,h,i,hi=>h i hi
 | k+1,S,h,i,hi=>by
  rw[clo,Kl]at hi;cases hb:S.testBit k with
  | false=>rw[hb]at hi;exact qx k S h i hi
  | true=>
   rw[hb]at hi;refine qx k _ (fun i' hi'=>?_) i hi;rw[Nat.testBit_or,R4]at hi';rcases hi' with h'|h'
   ·exact h i' h'
   ·exact(h k hb).trans (.one (uv h'))
theorem ml {listed:Array Bool} (hdc:DC ops listed) (hback:∀ j oj,ops[j]? = some oj->∀ e∈oj.after,Region.binds .any e=true->e.on<j) {j i:Nat} (hr:mt ops j i):j<ops.size->(∀ k,cK (cB ops j) k=true->listed.getD k false=true)->listed.getD i false=true:=by
 induction hr with
 | one h=>exact fun _ hj=>hj _ h
 | @step j k i h h2 ih=>
  intro hlt hj;have hk:k<j:=by
   have h0:=(show ops[j]? = some ops[j] from T4 hlt)
   rw[aW h0]at h;obtain⟨e,he1,he2,rfl⟩:=bV.1 h;exact hback j _ h0 e he1 he2
  have hk':k<ops.size:=by omega
  have h0:=(show ops[k]? = some ops[k] from T4 hk')
  exact ih hk' fun k' hk'=>hdc k _ h0 (hj k h) k' (by rw[aW h0]at hk';exact hk')
theorem DC.put {listed:Array Bool} (h:DC ops listed) {j:Nat} (hj:j∈Region.ready .any ops listed):DC ops (listed.setIfInBounds j true):=by
 obtain⟨h1,oj,hoj,hall⟩:=mem_ready.1 hj;intro k ok hk hl e he;by_cases hkj:k=j
 ·subst hkj
  rw[hoj]at hk;simp only[T0]at hk;subst hk;obtain⟨e',he1,he2,rfl⟩:=bV.1 he;exact getD_set_true (hall e' he1 he2)
 ·rw[getD_set_ne false (Ne.symm hkj)]at hl
  exact getD_set_true (h k ok hk hl e he)
theorem fo {o:Oper} {s:Nat} (h:ip ops o s=true):(∃ k ok,cK o k=true/\ops[k]? = some ok/\ok.dst=some s)/\∀ (i j:Nat) (oi oj:Oper),ops[i]? = some oi->ops[j]? = some oj->s∈oi.looksAt ops->s∈oj.looksAt ops->i=j:=by
 unfold ip at h;rw[I0]at h;obtain⟨h1,h2⟩:=h;constructor
 ·obtain⟨k,hk,hb⟩:=Z2.1 h1
  have hlt:=List.mem_range.1 hk;have h0:=(show ops[k]? = some ops[k] from T4 hlt)
  rw[I0,aW h0]at hb;refine⟨k,_,hb.1,h0,?_⟩;have:=hb.2;cases hd:ops[k].dst with
  | none=>rw[hd]at this;cases this
  | some a=>rw[hd]at this;simp only at this;rw[P1 this]
 ·intro i j oi oj hi hj hsi hsj
  have hle:=W0 h2;have hi':ops.toList[i]? = some oi:=by simpa using hi
  have hj':ops.toList[j]? = some oj:=by simpa using hj
  have pi:(oi.looksAt ops).any (Nat.beq s)=true:=Z2.2 ⟨s,hsi,Nat.beq_refl s⟩;have pj:(oj.looksAt ops).any (Nat.beq s)=true:=Z2.2 ⟨s,hsj,Nat.beq_refl s⟩;generalize ops.toList=l at hle hi' hj';exact wv (p:=fun k:Oper=>(k.looksAt ops).any (Nat.beq s)) hle hi' hj' pi pj
structure NL (ops:Array Oper) (m:Nat):Prop where
 back:∀ j oj,ops[j]? = some oj->∀ e∈oj.after,Region.binds .any e=true->e.on<j
 tail:∀ j,m<=j->j<ops.size->∀ i,i<j->mt ops j i
 apart:∀ i j oi oj,i<m->j<m->i≠j->ops[i]? = some oi->ops[j]? = some oj->cK oj i=true\/cK oi j=true\/oi.apart ops oj=true
 look:∀ i j oi oj d,i<m->j<m->i≠j->ops[i]? = some oi->ops[j]? = some oj->oi.dst=some d->d∈oj.looksAt ops->cK oj i=true
theorem A8 {m:Nat} (h:zu ops m=true):NL ops m:=by
 have hb:∀ j oj,ops[j]? = some oj->_:=fun j oj hj=>fR h (R2.1 hj).1
 refine⟨fun j oj hj e he hbe=>?_,fun j hm hj i hi=>?_,fun i j oi oj hi hj hne h1 h2=>?_,fun i j oi oj d hi hj hne h1 h2 hd hl=>?_⟩
 ·have:=hb j oj hj
  rw[aW hj]at this;simp only[I0]at this;have:=v3.1 this.1 e (by simpa using he);rw[hbe]at this;simpa[Nat.blt_eq] using this
 ·have hj':=(show ops[j]? = some ops[j] from T4 hj)
  have:=hb j _ hj';simp only[I0]at this;have h3:=this.2;rw[show Nat.blt j m=false by rw[<-t4,Nat.blt_eq];omega]at h3;simp only[cond_false,Kl]at h3;exact qx j _ (fun i' hi'=>.one (uv hi')) i (fR h3 hi)
 ·have:=hb j oj h2
  rw[aW h2]at this;simp only[I0]at this;have h3:=this.2;rw[show Nat.blt j m=true by simpa[Nat.blt_eq] using hj]at h3;have h4:=fR h3 hi;rw[aW h1,show Nat.beq i j=false by rw[<-t4,Nat.beq_eq];exact hne]at h4;simp only[Bool.false_or,I0,R4]at h4;rcases h4.1 with(h|h)|h
  ·exact .inl h
  ·exact .inr (.inl h)
  ·exact .inr (.inr h)
 ·have:=hb j oj h2
  rw[aW h2]at this;simp only[I0]at this;have h3:=this.2;rw[show Nat.blt j m=true by simpa[Nat.blt_eq] using hj]at h3;have h4:=fR h3 hi;rw[aW h1,show Nat.beq i j=false by rw[<-t4,Nat.beq_eq];exact hne]at h4;simp only[Bool.false_or,I0,R4]at h4;rcases h4.2 with h|h
  ·exfalso
   unfold rX at h;rw[aW h1,hd]at h;simp only at h;rw[aW h2]at h;have:(oj.looksAt ops).any (Nat.beq d)=true:=Z2.2 ⟨d,hl,Nat.beq_refl d⟩;rw[this]at h;cases h
  ·exact h
theorem G8 {m:Nat} (hok:NL ops m) {i d:Nat} {oi:Oper} {mv:Option Nat} {av:AV} {K:(Nat->AV)->Prop} (hi:ops[i]? = some oi) (him:i<m) :
  ∀ (fuel:Nat) (listed:Array Bool) (F:Nat->AV),i∈Region.ready .any ops listed->xO ops m F listed->DC ops listed->Yl P TE N ops oi F mv d av->EU P TE N ops m K fuel (listed.setIfInBounds i true) (eff mv d av F)->EU P TE N ops m K (fuel+1) listed F:=by
 have self:∀ (listed:Array Bool) (F:Nat->AV),i∈Region.ready .any ops listed->xO ops m F listed->Yl P TE N ops oi F mv d av->∀ K':(Nat->AV)->Prop,K' (eff mv d av F)->jL P TE N ops oi K' F:=fun listed F hr hcl hy K' hK=>by
  have hiun:=(mem_ready.1 hr).1;refine hy.at_ F (im.refl _ _) (hcl.dst i oi d him hi hiun hy.dst) (fun s hs=>?_) K' hK;obtain⟨h1,⟨T,h2⟩,h3⟩:=hy.mvl s hs;exact hcl.mv i oi T s him hi hiun h1 h2 h3
 intro fuel
 induction fuel with
 | zero=>
  intro listed F hr hcl hdc hy H;refine⟨fun h=>(by rw[h]at hr;cases hr),fun j hj=>?_⟩;by_cases hji:j=i
  ·subst hji
   unfold wc;rw[hi];simp only[if_pos him];exact self listed F hr hcl hy _ H
  ·have:=ready_mono hj hji
   rw[H.1]at this;cases this
 | succ fuel ih=>
  intro listed F hr hcl hdc hy H;refine⟨fun h=>(by rw[h]at hr;cases hr),fun j hj=>?_⟩;by_cases hji:j=i
  ·subst hji
   unfold wc;rw[hi];simp only[if_pos him];exact self listed F hr hcl hy _ H
  ·have h1:=H.2 j (ready_mono hj hji)
   obtain⟨hjun,oj,hoj,hall⟩:=mem_ready.1 hj;have hiun:=(mem_ready.1 hr).1;have unl:∀ k,listed.getD k true=false->listed.getD k false=true->False:=fun k h1 h2=>by
    rcases Nat.lt_or_ge k listed.size with h'|h'
    ·simp[h']at h1 h2;rw[h1]at h2;cases h2
    ·simp[Array.getElem?_eq_none h']at h2
   have noedge:∀ k ok,ops[k]? = some ok->listed.getD k true=false->cK oj k=false:=fun k ok hk hkun=>by
    rw[<-t4];intro he;obtain⟨e,he1,he2,he3⟩:=bV.1 he;exact unl k hkun (he3 ▸ hall e he1 he2)
   have noedge':∀ k ok,ops[k]? = some ok->listed.getD k true=false->cK oi k=false:=fun k ok hk hkun=>by
    rw[<-t4];intro he;obtain⟨e,he1,he2,he3⟩:=bV.1 he;obtain⟨-,oi',hoi',hall'⟩:=mem_ready.1 hr;rw[hi]at hoi';simp only[T0]at hoi';subst hoi';exact unl k hkun (he3 ▸ hall' e he1 he2)
   have hjm:j<m:=by
    rcases Nat.lt_or_ge j m with h|h
    ·exact h
    ·have hjlt:=(R2.1 hoj).1
     refine(unl i hiun (ml hdc hok.back (hok.tail j h hjlt i (by omega)) hjlt fun k hk=>?_)).elim;rw[aW hoj]at hk;obtain⟨e,he1,he2,rfl⟩:=bV.1 hk;exact hall e he1 he2
   have hap:oi.apart ops oj=true:=by
    rcases hok.apart i j oi oj him hjm (Ne.symm hji) hi hoj with h|h|h
    ·rw[noedge i oi hi hiun]at h;cases h
    ·rw[noedge' j oj hoj hjun]at h;cases h
    ·exact h
   obtain⟨ap1,ap2,ap3⟩:=Oper.apart_spec hap;unfold wc at h1 |-;rw[hoj]at h1 |-;simp only[if_pos hjm]at h1 |-;have hdl:d∉oj.looksAt ops:=ap1 d hy.dst;have cd:∀ t,(F t).uses d=false:=hcl.dst i oi d him hi hiun hy.dst
   have cdj':∀ dj,oj.dst=some dj->∀ t,(F t).uses dj=false:=fun dj hdj=>hcl.dst j oj dj hjm hoj hjun hdj
   have cmv:∀ s,mv=some s->(∀ t,(F t).uses s=false)/\s∉oj.looksAt ops/\s∈oi.looksAt ops:=fun s hs=>by
    obtain⟨g1,⟨T,g2⟩,g3⟩:=hy.mvl s hs;exact⟨hcl.mv i oi T s him hi hiun g1 g2 g3,fun hl=>hji ((fo g3).2 i j oi oj hi hoj (cG g2) hl).symm,cG g2⟩
   have cmvj:∀ T s,oj.guard=none->mj oj.op=some (T,s)->ip ops oj s=true->(∀ t,(F t).uses s=false)/\s∉oi.looksAt ops/\s∈oj.looksAt ops:=fun T s g1 g2 g3=>
    ⟨hcl.mv j oj T s hjm hoj hjun g1 g2 g3,fun hl=>hji ((fo g3).2 i j oi oj hi hoj hl (cG g2)).symm,cG g2⟩
   have avno:∀ e,e∉oi.looksAt ops->(∀ t,(F t).uses e=false)->av.uses e=false:=fun e h1 h2=>by
    cases hu:av.uses e with
    | false=>rfl
    | true=>
     rcases hy.from_ e hu with h|⟨t,_,h⟩
     ·exact absurd h h1
     ·rw[h2 t]at h;cases h
   obtain⟨mvj,dj,avj,hyj,hKj⟩:=nX h1 (fun dj hdj t=>iL (avno dj (ap3 dj hdj) (cdj' dj hdj)) (cdj' dj hdj t)) (fun T s g1 g2 g3 t=>by
     obtain⟨c1,c2,-⟩:=cmvj T s g1 g2 g3;exact iL (avno s c2 c1) (c1 t))
   have hdne:d≠dj:=fun e=>ap2 d hy.dst (by rw[hyj.dst,e])
   have hdjl:dj∉oi.looksAt ops:=ap3 dj hyj.dst;have cdj:∀ t,(F t).uses dj=false:=cdj' dj hyj.dst
   have cmj:∀ s,mvj=some s->(∀ t,(F t).uses s=false)/\s∉oi.looksAt ops/\s∈oj.looksAt ops:=fun s hs=>by
    obtain⟨g1,⟨T,g2⟩,g3⟩:=hyj.mvl s hs;exact cmvj T s g1 g2 g3
   have lookj:∀ t,t∈oj.looksAt ops->eff mv d av F t=F t:=fun t ht=>by
    unfold eff;have e1:t≠d:=fun e=>hdl (e ▸ ht)
    have e2:mv≠some t:=fun e=>(cmv t e).2.1 ht
    rw[if_neg e1,if_neg e2]
   have looki:∀ t,t∈oi.looksAt ops->eff mvj dj avj F t=F t:=fun t ht=>by
    unfold eff;have e1:t≠dj:=fun e=>hdjl (e ▸ ht)
    have e2:mvj≠some t:=fun e=>(cmj t e).2.1 ht
    rw[if_neg e1,if_neg e2]
   have avjno:∀ e,e∉oj.looksAt ops->(∀ t,(F t).uses e=false)->avj.uses e=false:=fun e h1 h2=>by
    cases hu:avj.uses e with
    | false=>rfl
    | true=>
     rcases hyj.from_ e hu with h|⟨t,ht,h⟩
     ·exact absurd h h1
     ·rw[lookj t ht,h2 t]at h;cases h
   have agrj:im (eff mv d av F) F (oj.looksAt ops):=fun t ht=>by
    rw[lookj t ht];refine⟨rfl,fun t' hu k cs hh=>?_⟩;have hne':t'≠d:=fun e=>by rw[e,cd t]at hu;cases hu
    have hnm:mv≠some t':=fun e=>by rw[(cmv t' e).1 t]at hu;cases hu
    unfold eff at hh;rw[if_neg hne',if_neg hnm]at hh;exact hh
   refine hyj.at_ F agrj cdj (fun s hs=>(cmj s hs).1) _ (ih (listed.setIfInBounds j true) (eff mvj dj avj F) (ready_mono hr (Ne.symm hji)) (hcl.put (fun j' o' d' hm' hne' hj' hl' hd'=>?_) (fun j' o' T s hm' hne' hj' hl' g1 g2 g3=>?_)) (hdc.put hj) ?_ ?_)
   ·refine avjno d' (fun h=>?_) (hcl.dst j' o' d' hm' hj' hl' hd')
    have:=hok.look j' j o' oj d' hm' hjm hne' hj' hoj hd' h;rw[noedge j' o' hj' hl']at this;cases this
   ·exact avjno s (fun h=>hne' ((fo g3).2 j' j o' oj hj' hoj (cG g2) h)) (hcl.mv j' o' T s hm' hj' hl' g1 g2 g3)
   ·refine⟨hy.dst,hy.lt,hy.self,fun e he=>?_,hy.mvl,fun F' hA hd' hs' K' hK=>hy.at_ F' (fun t ht=>?_) hd' hs' K' hK⟩
    ·rcases hy.from_ e he with h|⟨t,ht,h⟩
     ·exact .inl h
     ·exact .inr ⟨t,ht,by rw[looki t ht];exact h⟩
    ·obtain⟨a1,a2⟩:=hA t ht
     rw[looki t ht]at a1 a2;refine⟨a1,fun t' hu k cs hh=>a2 t' hu k cs ?_⟩;have hne':t'≠dj:=fun e=>by rw[e,cdj t]at hu;cases hu
     have hnm:mvj≠some t':=fun e=>by rw[(cmj t' e).1 t]at hu;cases hu
     unfold eff;rw[if_neg hne',if_neg hnm];exact hh
   ·rw[Array.setIfInBounds_comm _ _ hji]
    have:eff mv d av (eff mvj dj avj F)=eff mvj dj avj (eff mv d av F):=by
     funext t
     unfold eff;by_cases e1:t=d
     ·have g1:t≠dj:=fun e=>hdne (e1.symm.trans e)
      have g2:mvj≠some t:=fun e=>hdl (e1 ▸ (cmj t e).2.2)
      simp only[if_pos e1,if_neg g1,if_neg g2]
     ·rw[if_neg e1]
      by_cases e2:t=dj
      ·have g2:mv≠some t:=fun e=>hdjl (e2 ▸ (cmv t e).2.2)
       simp only[if_pos e2,if_neg g2]
      ·simp only[if_neg e2,if_neg e1]
       by_cases e3:mv=some t
       ·by_cases e4:mvj=some t
        ·simp only[if_pos e3,if_pos e4]
        ·simp only[if_pos e3,if_neg e4]
       ·by_cases e4:mvj=some t
        ·simp only[if_neg e3,if_pos e4]
        ·simp only[if_neg e3,if_neg e4]
    rw[this];exact hKj
theorem rA {o:Op} {K K':AV->Prop} (h:cX P TE F o K) (hk:∀ av,K av->K' av):cX P TE F o K':=by
 obtain⟨av,h1,-,h3⟩:=lr h;exact h3 F (im.refl _ _) K' (hk av h1)
theorem b8 {d:Nat} {av:AV} {K K':(Nat->AV)->Prop} (h:bL N F d av K) (hk:∀ F',K F'->K' F'):bL N F d av K':=by
 unfold bL at h |-;cases hc:(N.free d&&!av.uses d) with
 | false=>rw[hc]at h;exact h.elim
 | true=>rw[hc]at h;exact hk _ h
theorem fk {y:Operand} {K K':(Nat->AV)->Option Nat->List C->Prop} (h:gh F y K) (hk:∀ F' ag cs,K F' ag cs->K' F' ag cs):gh F y K':=by
 cases y with
 | tmp t=>
  simp only[gh]at h |-;cases hF:F t with
  | hold k cs=>
   rw[hF]at h;cases k with
   | one=>exact hk _ _ _ h
   | agg=>exact hk _ _ _ h
   | _=>exact h.elim
  | bor t2 off st ag=>
   rw[hF]at h;cases st with
   | cons s st=>
    simp only at h |-;cases hF2:F t2 with
    | hold k cs=>
     rw[hF2]at h;obtain⟨r,j,e1,e2,e3,hK⟩:=Lq.out h;exact .mk_ ⟨r,j,_,_,e1,e2,e3,rfl,rfl,hk _ _ _ hK⟩
    | _=>rw[hF2]at h;exact h.elim
   | nil=>
    simp only at h |-;cases hF2:F t2 with
    | hold k cs=>
     rw[hF2]at h;simp only at h |-;cases hb:Nat.ble (off+ag.getD 1) cs.length with
     | false=>rw[hb]at h;exact h.elim
     | true=>rw[hb]at h;exact hk _ _ _ h
    | _=>rw[hF2]at h;exact h.elim
  | _=>rw[hF]at h;exact h.elim
 | _=>exact h.elim
theorem xS {x:Operand} {K K':AV->Prop} (h:bm F x K) (hk:∀ av,K av->K' av):bm F x K':=by
 obtain⟨av,h1,-,h3⟩:=iN h;exact h3 F (im.refl _ _) K' (hk av h1)
theorem D3 {d:Nat} {x:Operand} {K K':(Nat->AV)->Prop} (h:jj N F d x K) (hk:∀ F',K F'->K' F'):jj N F d x K':=by
 have m1:∀ y,bm F y (fun av=>bL N F d av K)->bm F y (fun av=>bL N F d av K'):=fun y h=>xS h fun av h=>b8 h hk
 have m2:∀ y,gh F y (fun F' ag cs=>bL N F' d (.hold (jY ag) cs) K)->gh F y (fun F' ag cs=>bL N F' d (.hold (jY ag) cs) K'):=fun y h=>fk h fun F' ag cs h=>b8 h hk
 cases x with
 | tmp t=>
  unfold jj at h |-;simp only at h |-;cases hF:F t with
  | hold k cs=>
   rw[hF]at h;cases k with
   | one=>
    simp only at h |-;cases hn:aV cs with
    | true=>rw[hn]at h;exact m1 (.tmp t) h
    | false=>rw[hn]at h;exact m2 (.tmp t) h
   | agg=>
    simp only at h |-;cases hn:aV cs with
    | true=>rw[hn]at h;exact m1 (.tmp t) h
    | false=>rw[hn]at h;exact m2 (.tmp t) h
   | tup sh=>exact m1 _ h
   | box=>exact m1 _ h
  | bor t2 off st ag=>
   rw[hF]at h;simp only at h |-;cases hn:N.al d with
   | true=>rw[hn]at h;exact m1 (.tmp t) h
   | false=>rw[hn]at h;exact m2 (.tmp t) h
  | dead=>rw[hF]at h;exact m1 _ h
  | ref=>rw[hF]at h;exact m1 _ h
  | iref=>rw[hF]at h;exact m1 _ h
  | fn=>rw[hF]at h;exact m1 _ h
  | fv=>rw[hF]at h;exact m1 _ h
 | const v=>exact m1 (.const v) h
 | global g=>exact m1 (.global g) h
 | func f=>exact m1 (.func f) h
theorem HB {d:Nat} {x:Operand} {K K':(Nat->AV)->Prop} (h:yW N F d x K) (hk:∀ F',K F'->K' F'):yW N F d x K':=by
 unfold yW at h |-;cases hb:zU N F d x with
 | none=>rw[hb]at h;exact D3 h hk
 | some p=>rw[hb]at h;exact b8 h hk
theorem rn {x:Operand} {cs:List C} {K K':(Nat->AV)->Prop} (h:oJ F x cs K) (hk:∀ F',K F'->K' F'):oJ F x cs K':=by
 cases x with
 | tmp t=>
  simp only[oJ]at h |-;cases hF:F t with
  | hold k bs=>
   rw[hF]at h;cases k with
   | box=>
    simp only at h |-;cases hb:Nat.ble cs.length bs.length with
    | false=>rw[hb]at h;exact h.elim
    | true=>rw[hb]at h;simp only[cond_true,di]at h |-;exact hk _ h
   | _=>exact h.elim
  | ref t2 off st=>
   rw[hF]at h;cases st with
   | cons s st=>
    simp only at h |-;cases hF2:F t2 with
    | hold k bs=>
     rw[hF2]at h;obtain⟨r,j,e1,e2,e3,hK⟩:=Pu.out h;exact Pu.mk e1 e2 e3 rfl (hk _ hK)
    | _=>rw[hF2]at h;exact h.elim
   | nil=>
    simp only at h |-;cases hF2:F t2 with
    | hold k bs=>
     rw[hF2]at h;cases k with
     | box=>
      simp only at h |-;cases hb:Nat.ble (off+cs.length) bs.length with
      | false=>rw[hb]at h;exact h.elim
      | true=>rw[hb]at h;simp only[cond_true,di]at h |-;exact hk _ h
     | _=>exact h.elim
    | _=>rw[hF2]at h;exact h.elim
  | _=>rw[hF]at h;exact h.elim
 | _=>exact h.elim
theorem EJ {T:Nat} {x y:Operand} {K K':(Nat->AV)->Prop} (h:lR TE F T x y K) (hk:∀ F',K F'->K' F'):lR TE F T x y K':=by
 unfold lR at h |-;split at h
 ·rename_i i hT
  obtain⟨ag,cs,h1,h2⟩:=ci h;refine h2 F (im.refl _ _) _ ?_;cases hl:Nat.beq cs.length i.size with
  | false=>rw[hl]at h1;exact h1.elim
  | true=>
   rw[hl]at h1;simp only[cond_true]at h1 |-;cases hn:aV cs with
   | true=>rw[hn]at h1;exact rn h1 hk
   | false=>
    rw[hn]at h1;simp only[cond_false]at h1 |-;refine fk h1 fun F' ag' cs' h=>?_
    cases hl':Nat.beq cs'.length i.size with
    | false=>rw[hl']at h;exact h.elim
    | true=>rw[hl']at h;exact rn h hk
 ·exact h.elim
theorem Eg {g:Option (Nat × Bool)} {K1 K0 K1' K0':(Nat->AV)->Prop} (h:eP F ops g K1 K0) (h1:∀ F,K1 F->K1' F) (h0:∀ F,K0 F->K0' F):eP F ops g K1' K0':=by
 unfold eP at h |-;split at h
 ·exact h1 _ h
 ·rename_i j want
  split at h
  ·rename_i d hd
   split at h
   ·rename_i b hF
    replace h:=Bf.out h;cases b<;>cases want<;>first|exact .in_ (h1 _ h)|exact .in_ (h0 _ h)
   ·exact h0 _ h
   ·exact h.elim
  ·exact h.elim
theorem rT {x:Operand} {K K':(Nat->AV)->Option Nat->List C->Prop} (h:sZ F x K) (hk:∀ F' ag cs,K F' ag cs->K' F' ag cs):sZ F x K':=by
 obtain⟨ag,cs,h1,h2⟩:=ci h;refine h2 F (im.refl _ _) _ ?_;cases hn:aV cs with
 | true=>rw[hn]at h1;exact hk _ _ _ h1
 | false=>rw[hn]at h1;exact fk h1 hk
theorem ix {pl:Nat->Option (Nat × Nat)} : ∀ {parts:List (Nat × Operand)} {cs:List C} {K K':(Nat->AV)->List C->Prop} {F:Nat->AV},fillW pl parts cs K F->(∀ F' cs,K F' cs->K' F' cs)->fillW pl parts cs K' F
 | [],cs,K,K',F,h,hk=>hk _ _ h
 | p::rest,cs,K,K',F,h,hk=>by
  simp only[fillW]at h |-;split at h
  case h_2=>exact h.elim
  rename_i q hq;refine rT h fun F' ag xs h=>?_
  cases hb:(Nat.beq xs.length q.2&&Nat.ble (q.1+q.2) cs.length) with
  | false=>rw[hb]at h;exact h.elim
  | true=>
   rw[hb]at h;simp only[cond_true,di]at h |-;exact ix h hk
theorem Bq {d T:Nat} {parts:List (Nat × Operand)} {K K':(Nat->AV)->Prop} (h:jw TE N F d T parts K) (hk:∀ F',K F'->K' F'):jw TE N F d T parts K':=by
 unfold jw at h |-;split at h
 case h_2=>exact h.elim
 rename_i size bytes zero flds hT;cases ha:vu TE flds with
 | false=>rw[ha]at h;exact h.elim
 | true=>rw[ha]at h;exact ix h fun F' cs h=>b8 h hk
theorem zJ {d T n:Nat} {parts:List (Nat × Operand)} {K K':(Nat->AV)->Prop} (h:eY TE N F d T n parts K) (hk:∀ F',K F'->K' F'):eY TE N F d T n parts K':=by
 obtain⟨e,ie,h,hs⟩:=iA h;refine hs _ ?_;cases hb:Nat.ble (n*ie.size) 16777216 with
 | false=>rw[hb]at h;exact h.elim
 | true=>
  rw[hb]at h;simp only[cond_true]at h |-;split at h
  ·exact b8 h hk
  ·rw[di]at h |-
   refine ix h fun F' cs h=>?_
   rw[nB]at h |-;exact b8 h hk
  ·exact h.elim
theorem BS {y:Operand} {K K':Bool->(Nat->AV)->List (List C)->Prop} (h:zk F y K) (hk:∀ b F' xr,K b F' xr->K' b F' xr):zk F y K':=by
 unfold zk at h |-;split at h
 ·refine fk h fun F' ag cs h=>?_
  match ag,cs,h with
  | none,[.s .own rows],h=>exact hk _ _ _ h
 ·obtain⟨ag,cs,h1,h2⟩:=ci h
  refine h2 F (im.refl _ _) _ ?_
  match ag,cs,h1 with
  | none,[.s o rows],h=>exact hk _ _ _ h
  | none,[.z],h=>exact hk _ _ _ h
theorem yx {x:Operand} {K K':(Nat->AV)->List (List C)->Prop} (h:yq F x K) (hk:∀ F' xr,K F' xr->K' F' xr):yq F x K':=by
 obtain⟨ag,cs,h1,h2⟩:=ci h;refine h2 F (im.refl _ _) _ ?_
 match ag,cs,h1 with
 | none,[.z],h=>exact hk _ _ h
 | none,[.s .own _],h=>
  refine fk h fun F' ag cs h=>?_
  match ag,cs,h with
  | none,[.s .own rows],h=>exact hk _ _ h
theorem GU {d T:Nat} {x y:Operand} {K K':(Nat->AV)->Prop} (h:y1 TE N F d T x y K) (hk:∀ F',K F'->K' F'):y1 TE N F d T x y K':=by
 obtain⟨e,ie,h,hs⟩:=iA h;refine hs _ (BS h fun b F' xr h=>yx h fun F'' rows h=>?_);obtain⟨h1,h2,h3,h4,h5,h6⟩:=h.out;exact Ap.mk h1 h2 h3 h4 h5 rfl (b8 h6 hk)
theorem AE {d T:Nat} {x:Operand} {K K':(Nat->AV)->Prop} (h:oh TE N F d T x K) (hk:∀ F',K F'->K' F'):oh TE N F d T x K':=by
 unfold oh at h |-;split at h
 case h_2=>exact h.elim
 refine fk h fun F' ag cs h=>?_
 split at h
 ·exact b8 h hk
 ·exact h.elim
theorem E3 {d:Nat} {x:Operand} {K K':(Nat->AV)->Prop} (h:ij N F d x K) (hk:∀ F',K F'->K' F'):ij N F d x K':=by
 have std:∀ {y:Operand},bm F y (fun av=>bL N F d av K)->bm F y (fun av=>bL N F d av K'):=fun h=>xS h fun av h=>b8 h hk
 cases x with
 | tmp t=>
  simp only[ij]at h |-;split at h
  ·rename_i sh cs hF
   cases hn:aV cs with
   | true=>rw[hn]at h;exact b8 h hk
   | false=>rw[hn]at h;exact b8 h hk
  all_goals exact std h
 | const v=>simp only[ij]at h |-;exact std h
 | global g=>simp only[ij]at h |-;exact std h
 | func f=>simp only[ij]at h |-;exact std h
theorem DW {d:Nat} {x:Operand} {K K':(Nat->AV)->Prop} (h:r6 N F d x K) (hk:∀ F',K F'->K' F'):r6 N F d x K':=by
 unfold r6 at h |-;split at h
 case h_2=>exact h.elim
 split at h
 case h_2=>exact h.elim
 obtain⟨h0,h1⟩:=h.out;exact Nt.mk (fun e=>b8 (h0 e) hk) fun l1 k l2 e=>b8 (h1 l1 k l2 e) hk
theorem BK {d:Nat} {x:Operand} {K K':(Nat->AV)->Prop} (h:nM N F d x K) (hk:∀ F',K F'->K' F'):nM N F d x K':=by
 unfold nM at h |-;split at h
 case h_2=>exact h.elim
 split at h
 case h_2=>exact h.elim
 exact b8 h hk
theorem Kf {d:Nat} {op:Op} {K K':(Nat->AV)->Prop} (h:nl P TE N d op K F) (hk:∀ F',K F'->K' F'):nl P TE N d op K' F:=by
 cases op with
 | assign x=>exact HB h hk
 | box T x=>simp only[nl,K5]at h |-;exact rT h fun F' ag cs h=>b8 h hk
 | build T ps=>exact Bq h hk
 | buildSlice T n ps=>exact zJ h hk
 | range T x=>exact AE h hk
 | move x=>exact E3 h hk
 | next x str=>
  cases str with
  | true=>exact h.elim
  | false=>exact DW h hk
 | entry x=>exact BK h hk
 | call c=>
  simp only[nl]at h |-;cases ha:pO c with
  | none=>rw[ha]at h;exact rA h fun av h=>b8 h hk
  | some p=>rw[ha]at h;exact GU h hk
 | _=>simp only[nl]at h |-;exact rA h fun av h=>b8 h hk
theorem gK {t off n:Nat} {st:cm} {K K':(Nat->AV)->List C->Prop} (h:lendAt F t off st n K) (hk:∀ F' cs,K F' cs->K' F' cs):lendAt F t off st n K':=by
 unfold lendAt at h |-;split at h
 case h_2=>exact h.elim
 split at h
 ·rename_i k bs _ _
  cases hb:Nat.ble (off+n) bs.length with
  | false=>rw[hb]at h;exact h.elim
  | true=>
   rw[hb]at h;simp only[cond_true,di]at h |-;exact hk _ _ h
 ·obtain⟨r,j,h1,h2,h3,hK⟩:=Lq.out h
  refine .mk_ ?_;exact⟨r,j,_,_,h1,h2,h3,rfl,rfl,hk _ _ hK⟩
theorem dr:∀ {xs:List (Operand × Nat)} {K K':(Nat->AV)->List (MA × w6)->Prop} {F:Nat->AV},lendP xs K F->(∀ F' l,K F' l->K' F' l)->lendP xs K' F
 | [],K,K',F,h,hk=>hk _ _ h
 | (x,0)::xs,K,K',F,h,hk=>dr (xs:=xs) h fun F' l h=>hk _ _ h
 | (x,1)::xs,K,K',F,h,hk=>by
  simp only[lendP]at h |-;split at h
  case h_2=>exact h.elim
  split at h
  ·exact gK h fun F' cs h=>dr h fun F'' l h=>hk _ _ h
  ·exact gK h fun F' cs h=>dr h fun F'' l h=>hk _ _ h
  ·exact gK h fun F' cs h=>dr h fun F'' l h=>hk _ _ h
  ·exact h.elim
 | (x,n+2)::xs,K,K',F,h,hk=>by
  simp only[lendP]at h |-;split at h
  case h_2=>exact h.elim
  split at h
  ·split at h
   ·exact dr h fun F'' l h=>hk _ _ h
   ·exact h.elim
  ·exact dr h fun F'' l h=>hk _ _ h
  ·exact h.elim
theorem jW:∀ {l:List (MA × w6)} {xs:List Operand} {K K':Bool->List MA->Prop},valsP F l xs K->(∀ b A,K b A->K' b A)->valsP F l xs K'
 | [],[],K,K',h,hk=>hk _ _ h
 | (m,.no)::l,x::xs,K,K',h,hk=>by
  obtain⟨ag,cs,h1,h2⟩:=ci h;refine h2 F (im.refl _ _) _ (jW h1 fun b A h=>?_);cases hn:aV cs with
  | true=>rw[hn]at h;exact hk _ _ h
  | false=>rw[hn]at h;exact hk _ _ h
 | (m,.at_ t off st)::l,x::xs,K,K',h,hk=>jW (l:=l) (xs:=xs) h fun b A h=>hk _ _ h
 | (m,.box t)::l,x::xs,K,K',h,hk=>jW (l:=l) (xs:=xs) h fun b A h=>hk _ _ h
 | [],_::_,K,K',h,hk=>h.elim
 | (m,.no)::l,[],K,K',h,hk=>h.elim
 | (m,.at_ t off st)::l,[],K,K',h,hk=>h.elim
 | (m,.box t)::l,[],K,K',h,hk=>h.elim
theorem dE {K K':(Nat->AV)->Prop} (hk:∀ F',K F'->K' F'):∀ {l:List (MA × w6)} {B:List MA} {F:Nat->AV},iq l B K F->iq l B K' F
 | [],[],F,h=>hk _ h
 | [],_::_,F,h=>h.elim
 | (m,.no)::l,[],F,h=>h.elim
 | (m,.at_ t off st)::l,[],F,h=>h.elim
 | (m,.box t)::l,[],F,h=>h.elim
 | (m,.no)::l,.val _ _::B,F,h=>dE hk (l:=l) (B:=B) h
 | (m,.no)::l,.mut _ _::B,F,h=>dE hk (l:=l) (B:=B) h
 | (m,.no)::l,.ptr _::B,F,h=>dE hk (l:=l) (B:=B) h
 | (m,.at_ t off st)::l,.val _ _::B,F,h=>h.elim
 | (m,.at_ t off st)::l,.ptr _::B,F,h=>h.elim
 | (m,.box t)::l,.val _ _::B,F,h=>h.elim
 | (m,.box t)::l,.mut _ _::B,F,h=>h.elim
 | (m,.at_ t off st)::l,.mut ag out::B,F,h=>by
  simp only[iq]at h |-;split at h
  case h_2=>exact h.elim
  split at h
  ·rename_i k bs _ _
   cases hb:Nat.ble (off+out.length) bs.length with
   | false=>rw[hb]at h;exact h.elim
   | true=>
    rw[hb]at h;simp only[cond_true,di]at h |-;exact dE hk h
  ·obtain⟨r,j,e1,e2,e3,hK⟩:=Pu.out h
   exact Pu.mk e1 e2 e3 rfl (dE hk hK)
 | (m,.box t)::l,.ptr out::B,F,h=>by
  simp only[iq]at h |-;split at h
  ·exact dE hk h
  ·exact h.elim
theorem E1 {d:Option Nat} {f:Nat} {args:List Operand} {modes:List Nat} {K K':(Nat->AV)->Prop} (h:n7 P N F d f args modes K) (hk:∀ F',K F'->K' F'):n7 P N F d f args modes K':=by
 unfold n7 at h |-;refine dr h fun F' l h=>?_
 cases hb:(uI l&&Nat.beq args.length modes.length) with
 | false=>rw[hb]at h;exact h.elim
 | true=>
  rw[hb]at h;refine jW h fun b A h=>?_
  obtain⟨sh,B,k,rcs,h1,h2,h3⟩:=cu.out h;refine cu.mk h1 h2 (dE (fun F'' h=>?_) h3);cases d with
  | none=>exact hk _ h
  | some d=>exact b8 h hk
theorem nZ {F:Nat->AV} {x:Operand} {K K':Nat->Nat->Prop} (h:DU F x K) (hk:∀ t o,K t o->K' t o):DU F x K':=by
 obtain⟨s,t,off,rfl,hF,hK⟩:=ul h;simp only[DU,hF];exact hk _ _ hK
theorem Hc {d:Option Nat} {t:Nat} {cs:List C} {o0 n0 o1 n1:Nat} {K K':(Nat->AV)->Prop} {k:Kd} {rcs:List C} {B:List MA} (h:Bk N F d t cs o0 n0 o1 n1 K k rcs B) (hk:∀ F',K F'->K' F'):Bk N F d t cs o0 n0 o1 n1 K' k rcs B:=by
 unfold Bk at h |-;split at h
 case h_2=>exact h.elim
 rename_i c0 c1;cases hl:(Nat.beq c0.length n0&&Nat.beq c1.length n1) with
 | false=>rw[hl]at h;exact h.elim
 | true=>
  rw[hl]at h;simp only[cond_true,di]at h |-;cases d with
  | none=>exact hk _ h
  | some d=>exact b8 h hk
theorem DO {d:Option Nat} {f:Nat} {args:List Operand} {n0 n1:Nat} {K K':(Nat->AV)->Prop} (h:lM P N F d f args n0 n1 K) (hk:∀ F',K F'->K' F'):lM P N F d f args n0 n1 K':=by
 unfold lM at h |-;split at h
 case h_2=>exact h.elim
 refine nZ h fun t o0 h=>nZ h fun t' o1 h=>?_
 split at h
 case h_2=>exact h.elim
 rename_i cs hF;cases hb:(Nat.beq t' t&&Nat.ble (o0+n0) o1&&Nat.ble (o1+n1) cs.length) with
 | false=>rw[hb]at h;exact h.elim
 | true=>
  rw[hb]at h;simp only[cond_true,di]at h |-;obtain⟨sh,B,k,rcs,h1,h2,h3⟩:=cu.out h;exact cu.mk h1 h2 (Hc h3 hk)
theorem Ex {d:Option Nat} {f:Nat} {args:List Operand} {modes:List Nat} {K K':(Nat->AV)->Prop} (h:lH P N F d f args modes K) (hk:∀ F',K F'->K' F'):lH P N F d f args modes K':=by
 unfold lH at h |-;split
 ·rename_i p hp;rw[hp]at h;exact DO h hk
 ·rename_i hp;rw[hp]at h;exact E1 h hk
theorem sX {t off:Nat} {z:Int} {v:Value} {K K':(Nat->AV)->Prop} (h:putMap F t off z v K) (hk:∀ F',K F'->K' F'):putMap F t off z v K':=by
 unfold putMap at h |-;cases hF:F t with
 | hold k bs=>
  rw[hF]at h;simp only at h |-;cases hc:bs[off]? with
  | none=>rw[hc]at h;exact h.elim
  | some c=>
   rw[hc]at h;cases c with
   | m es=>
    simp only at h |-;have:=h.out;refine Mu.mk rfl ?_;simp only[di]at this |-;exact hk _ this
   | _=>exact h.elim
 | _=>rw[hF]at h;exact h.elim
theorem AD {T:Nat} {x y v:Operand} {K K':(Nat->AV)->Prop} (h:nY TE F T x y v K) (hk:∀ F',K F'->K' F'):nY TE F T x y v K':=by
 unfold nY at h |-;split at h
 case h_2=>exact h.elim
 obtain⟨z,h1,l1⟩:=hB h;refine l1 F (im.refl F _) _ ?_;obtain⟨z2,h2,l2⟩:=hB h1;refine l2 F (im.refl F _) _ ?_;split at h2
 case h_2=>exact h2.elim
 split at h2
 case h_2=>exact h2.elim
 split at h2
 ·exact sX h2 hk
 ·exact sX h2 hk
 ·exact h2.elim
theorem jE {o:Oper} {K K':(Nat->AV)->Prop} (h:jo P TE N ops o K F) (hk:∀ F',K F'->K' F'):jo P TE N ops o K' F:=by
 unfold jo at h |-;refine Eg h (fun F h=>?_) (fun F h=>?_)
 ·split at h
  ·exact Ex h hk
  ·split at h
   ·split at h
    ·exact EJ h hk
    ·exact AD h hk
    ·exact h.elim
   ·exact Kf h hk
 ·split at h
  ·exact hk _ h
  ·exact b8 h hk
theorem zO {m:Nat} (hok:NL ops m) {K:(Nat->AV)->Prop} (hm:m<=ops.size):∀ (l:List Oper) (k:Nat) (listed:Array Bool) (F:Nat->AV),(∀ j,l[j]? = ops[k+j]?)->listed.size=ops.size->(∀ j,j<ops.size->listed.getD j true=decide (j<k))->xO ops m F listed->DC ops listed->
  HS P TE N ops (m - k) l K F->EU P TE N ops m K l.length listed F
 | [],k,listed,F,hl,hs,hli,_,_,hp=>by
  have hk:ops.size<=k:=by
   rcases Nat.lt_or_ge k ops.size with h|h
   ·have:=hl 0;simp[h]at this
   ·exact h
  refine⟨?_,?_⟩
  ·apply List.eq_nil_iff_forall_not_mem.2
   intro j hj;obtain⟨h1,o,ho,-⟩:=mem_ready.1 hj;have hlt:=(R2.1 ho).1;rw[hli j hlt]at h1;simp at h1;omega
  ·cases hmk:m - k with
   | zero=>rw[hmk]at hp;exact hp
   | succ x=>rw[hmk]at hp;exact hp
 | o::l,k,listed,F,hl,hs,hli,hcl,hdc,hp=>by
  have h0:ops[k]? = some o:=by simpa using (hl 0).symm
  have hk:=(R2.1 h0).1;have hready:k∈Region.ready .any ops listed:=mem_ready.2 ⟨by rw[hli k hk];simp,o,h0,fun e he hb=>by
    have:=hok.back k o h0 e he hb;have h1:=hli e.on (by omega);rw[show decide (e.on<k)=true by simpa using this]at h1;have h2:e.on<listed.size:=by omega
    simp[h2]at h1 |-;exact h1⟩
  have hl':∀ j,l[j]? = ops[k+1+j]?:=fun j=>by have:=hl (j+1);simpa[Nat.add_assoc,Nat.add_comm 1 j] using this
  have hli':∀ j,j<ops.size->(listed.setIfInBounds k true).getD j true=decide (j<k+1):=fun j hj=>by
   by_cases hjk:j=k
   ·subst hjk;simp[hs,hj]
   ·rw[getD_set_ne true (Ne.symm hjk),hli j hj]
    simp only[decide_eq_decide];omega
  show EU P TE N ops m K (l.length+1) listed F;by_cases hkm:k<m
  ·have e1:m - k=(m - (k+1))+1:=by omega
   rw[e1]at hp;obtain⟨mv,d,av,hy,hp⟩:=nX (show jL P TE N ops o (HS P TE N ops (m - (k+1)) l K) F from hp) (fun d hd=>hcl.dst k o d hkm h0 (by rw[hli k hk];simp) hd) (fun T s g1 g2 g3=>hcl.mv k o T s hkm h0 (by rw[hli k hk];simp) g1 g2 g3);refine G8 hok h0 hkm l.length listed F hready hcl hdc hy (zO hok hm l (k+1) _ _ hl' (by simpa using hs) hli' (hcl.put (fun j' o' d' hm' hne' hj' hl'' hd'=>?_) (fun j' o' T s hm' hne' hj' hl'' g1 g2 g3=>?_)) (hdc.put hready) hp)
   ·cases hu:av.uses d' with
    | false=>rfl
    | true=>
     rcases hy.from_ d' hu with h|⟨t,_,h⟩
     ·have:=hok.look j' k o' o d' hm' hkm hne' hj' h0 hd' h
      obtain⟨e,he1,he2,he3⟩:=bV.1 this;have hlt:=hok.back k o h0 e he1 he2;have hj'lt:=(R2.1 hj').1;rw[hli j' hj'lt]at hl'';simp at hl'';omega
     ·rw[hcl.dst j' o' d' hm' hj' hl'' hd' t]at h;cases h
   ·cases hu:av.uses s with
    | false=>rfl
    | true=>
     rcases hy.from_ s hu with h|⟨t,_,h⟩
     ·exact absurd ((fo g3).2 j' k o' o hj' h0 (cG g2) h) hne'
     ·rw[hcl.mv j' o' T s hm' hj' hl'' g1 g2 g3 t]at h;cases h
  ·refine⟨fun h=>(by rw[h]at hready;cases hready),fun j hj=>?_⟩
   have hjk:j=k:=by
    obtain⟨h1,oj,hoj,hall⟩:=mem_ready.1 hj;have hjlt:=(R2.1 hoj).1;rw[hli j hjlt]at h1;simp at h1;rcases Nat.lt_or_ge k j with hlt|hge
    ·exfalso
     have h2:=ml hdc hok.back (hok.tail j (by omega) hjlt k hlt) hjlt fun k' hk'=>by
      rw[aW hoj]at hk';obtain⟨e,he1,he2,rfl⟩:=bV.1 hk';exact hall e he1 he2
     have h3:=hli k hk;have h4:k<listed.size:=by omega
     simp[h4]at h2 h3;rw[h2]at h3;cases h3
    ·omega
   subst hjk;unfold wc;rw[h0];simp only[if_neg hkm];have e0:m - j=0:=by omega
   rw[e0]at hp;have hp':jo P TE N ops o (Ho P TE N ops l K) F:=hp;have hmono:∀ F',Ho P TE N ops l K F'->EU P TE N ops m K l.length (listed.setIfInBounds j true) F':=fun F' hF'=>
    zO hok hm l (j+1) _ F' hl' (by simpa using hs) hli' ⟨fun j' o' d' hm' hj' hl'' hd'=>by
      have hj'lt:=(R2.1 hj').1;rw[hli' j' hj'lt]at hl'';simp at hl'';omega,fun j' o' T s hm' hj' hl''=>by
      have hj'lt:=(R2.1 hj').1;rw[hli' j' hj'lt]at hl'';simp at hl'';omega⟩ (hdc.put hready) (by rw[show m - (j+1)=0 by omega];cases l<;>exact hF')
   exact jE hp' hmono
theorem St.clr (h:St w0 M S0 N F a w) (ds:List Nat):St w0 M S0 N (Ab.clr ds F) a w:=by
 obtain⟨S,φ,h⟩:=h;refine⟨S,φ,fun t=>?_,h.dis,h.disS,h.ex,h.sub,h.sup,h.old,h.size,h.defers,h.par⟩;rw[Aq];cases hb:ds.any (fun d=>(F t).uses d) with
 | true=>trivial
 | false=>
  simp only[cond_false];refine(h.slot t).keep (φ:=φ) (fun t _ _ _=>h.slot t) (fun t' _=>⟨fun k cs he=>?_,rfl,fun _ _ _=>⟨rfl,rfl⟩⟩) (fun _ _ _=>⟨rfl,rfl⟩) (fun _ _ _=>⟨rfl,rfl⟩) (fun _ _ h=>h) (fun _ _ h=>h);rw[Aq];have:ds.any (fun d=>(F t').uses d)=false:=by
   rw[he]
   induction ds with
   | nil=>rfl
   | cons d ds ih=>simp[AV.uses]
  rw[this];exact he
theorem zv (hTE:∀ t i,TE t=some i->bY P t i) (hm:P.follows .mixedOrders=true) {id m:Nat} {ds:List Nat} (hok:((Nat.ble m ops.size&&below m fun j=>match(cB ops j).dst with|some d=>ds.any (Nat.beq d)|none=>true)&&zu ops m)=true) {K:(Nat->AV)->Prop} {Q:Exit->Act->World->Prop} (hp:HS P TE N ops m ops.toList K (Ab.clr ds F)) (hs:St w0 M S0 N F a w)
  (hq:∀ F' a' w',K F'->St w0 M S0 N F' a' w'->Q .normal a' w'):(Code.region id ops true).wp P Q a w:=by
 simp only[I0]at hok;obtain⟨⟨hmle,hds⟩,hok⟩:=hok;have hmle':m<=ops.size:=W0 hmle;refine wp_region_any hm ?_;have hs':St w0 M S0 N (Ab.clr ds F) a {w with drawn:=w.drawn+1}:=by
  have h1:=hs.clr ds;obtain⟨S,φ,h⟩:=h1;exact⟨S,φ,h.more (w1:={w with drawn:=w.drawn+1}) (fun _ _ h=>h) (fun _ _ h=>.inl h) ⟨rfl,rfl,rfl,I2 _,fun _ _ _=>rfl,fun _ _ _ _=>rfl,fun _ _ _ _=>rfl⟩⟩
 refine yD hTE (m:=m) hq ops.size (Array.replicate ops.size false) _ a _ ?_ hs';have hcl:∀ d,ds.any (Nat.beq d)=true->∀ t,(Ab.clr ds F t).uses d=false:=fun d hd t=>by
  rw[Aq];cases hb:ds.any (fun d=>(F t).uses d) with
  | true=>rfl
  | false=>
   simp only[cond_false];cases hu:(F t).uses d with
   | false=>rfl
   | true=>
    obtain⟨d',hd',he⟩:=Z2.1 hd;have he':=P1 he;subst he';have:ds.any (fun d=>(F t).uses d)=true:=Z2.2 ⟨_,hd',hu⟩;rw[this]at hb;cases hb
 have hmem:∀ j o d,j<m->ops[j]? = some o->o.dst=some d->ds.any (Nat.beq d)=true:=fun j o d hj ho hd=>by
  have h1:=fR hds hj;rw[aW ho,hd]at h1;exact h1
 have hD:=A8 hok;have:=zO (P:=P) (TE:=TE) (N:=N) hD (K:=K) hmle' ops.toList 0 (Array.replicate ops.size false) (Ab.clr ds F) (by simp) (by simp) (fun j hj=>by simp[hj]) ⟨fun j o d hj ho _ hd t=>hcl d (hmem j o d hj ho hd) t,fun j o T s hj ho _ _ _ g3 t=>by
   obtain⟨k,ok,hk1,hk2,hk3⟩:=(fo g3).1;obtain⟨e,he1,he2,rfl⟩:=bV.1 hk1;have:=hD.back j o ho e he1 he2;exact hcl s (hmem e.on ok s (by omega) hk2 hk3) t⟩ (fun j oj hj hl=>by
   have hlt:=(R2.1 hj).1;simp[hlt]at hl) hp
 simpa using this
end
section
variable {P:Program} {w0 w w1:World} {M S0 S:ac} {N:eL} {φ:Nat->ac} {F:Nat->AV} {a:Act} {TE:Nat->Option TI} {ops:Array Oper} {ds:List Nat} {nm:Nat->Bool}
def Mp (P:Program) (TE:Nat->Option TI) (ops:Array Oper) (p:Nat) (F:Nat->AV):Prop:=∃ d,(cB ops p).dst=some d/\Er F (cB ops p)=none/\cX P TE F (cB ops p).op fun av=>av=F d
def sM (P:Program) (TE:Nat->Option TI) (N:eL) (ops:Array Oper) (ds:List Nat) (listed:Array Bool) (i:Nat) (K:(Nat->AV)->Prop) (F:Nat->AV):Prop:=
 match ops[i]? with
 | none=>K F
 | some o=>if mD ds o=true then jL P TE N ops o K F else jo P TE N ops o (fun F1=>(∀ p,listed.getD p false=true->mD ds (cB ops p)=true->t7 ops i p=false->Mp P TE ops p F1)/\K F1) F
def AS (P:Program) (TE:Nat->Option TI) (N:eL) (ops:Array Oper) (ds:List Nat) (K:(Nat->AV)->Prop):Nat->Array Bool->(Nat->AV)->Prop
 | 0,listed,F=>Region.ready .any ops listed=[]/\K F
 | fuel+1,listed,F=>(Region.ready .any ops listed=[]->K F)/\∀ i,i∈Region.ready .any ops listed->sM P TE N ops ds listed i (AS P TE N ops ds K fuel (listed.setIfInBounds i true)) F
theorem D2 (hTE:∀ t i,TE t=some i->bY P t i) {listed:Array Bool} {i:Nat} {K:(Nat->AV)->Prop} (hp:sM P TE N ops ds listed i K F) (hs:St w0 M S0 N F a w) {Kc:Act->World->Prop} {Q:Exit->Act->World->Prop}
  (hk:∀ F' a' w',K F'->St w0 M S0 N F' a' w'->Kc a' w'):wpOp P ops Q i Kc a w:=by
 unfold sM at hp;unfold wpOp;cases ho:ops[i]? with
 | none=>rw[ho]at hp;exact hk F a w hp hs
 | some o=>
  rw[ho]at hp;simp only at hp |-;obtain⟨S,φ,h⟩:=hs;have:if Region.wanted o (yielded ops a.tmps) then o.wp P a w Kc Q else Kc (a.put o.dst undef) w:=by
   split at hp
   ·exact h.oneP hTE hp hk
   ·exact h.one hTE (jE hp fun F' h=>h.2) hk
  split
  ·rename_i hw;rw[if_pos hw]at this;exact .inl this
  ·rename_i hw;rw[if_neg hw]at this;exact this
theorem pG (hTE:∀ t i,TE t=some i->bY P t i) {K:(Nat->AV)->Prop} {Q:Exit->Act->World->Prop} (hk:∀ F' a' w',K F'->St w0 M S0 N F' a' w'->Q .normal a' w') :
  ∀ (fuel:Nat) (listed:Array Bool) (F:Nat->AV) (a:Act) (w:World),AS P TE N ops ds K fuel listed F->St w0 M S0 N F a w->wpAny P .any ops Q fuel listed a w
 | 0,_,F,a,w,hp,hs=>⟨hp.1,hk F a w hp.2 hs⟩
 | fuel+1,_,F,a,w,hp,hs=>⟨fun h0=>hk F a w (hp.1 h0) hs,fun i hi=>D2 hTE (hp.2 i hi) hs fun F' a' w' hK hs'=>pG hTE hk fuel _ F' a' w' hK hs'⟩
def cL (ts:List Nat) (F F1:Nat->AV):Prop:=∀ t e,(F1 t).uses e=true->e∈ts\/∃ t',(F t').uses e=true
theorem cL.refl (ts:List Nat) (F:Nat->AV):cL ts F F:=fun t _ h=>.inr ⟨t,h⟩
theorem cL.trans {ts:List Nat} {F F1 F2:Nat->AV} (h1:cL ts F F1) (h2:cL ts F1 F2):cL ts F F2:=fun t e h=>by
 rcases h2 t e h with h|⟨t',h⟩
 ·exact .inl h
 ·exact h1 t' e h
theorem cL.clean {ts:List Nat} {F1:Nat->AV} {d:Nat} (h:cL ts F F1) (hd:d∉ts) (hc:∀ t,(F t).uses d=false):∀ t,(F1 t).uses d=false:=fun t=>by
 cases hu:(F1 t).uses d with
 | false=>rfl
 | true=>
  rcases h t d hu with h|⟨t',h⟩
  ·exact absurd h hd
  ·rw[hc t']at h;cases h
theorem cL.put {ts:List Nat} {dj:Nat} {av:AV} (h:∀ e,av.uses e=true->e∈ts\/∃ t',(F t').uses e=true):cL ts F (put F dj av):=fun t e hu=>by
 by_cases h1:t=dj
 ·subst h1;rw[kV]at hu;exact h e hu
 ·rw[gc _ _ h1]at hu;exact .inr ⟨t,(Ll hu).1⟩
theorem Kz {t e:Nat} {v:AV} (h:(qh t v).uses e=true):v.uses e=true:=by
 cases v with
 | bor t' off st ag=>simp only[qh]at h;cases hb:Nat.beq t' t<;>rw[hb]at h<;>first|exact h|cases h
 | ref t' off st=>cases st<;>simp only[qh]at h<;>first|exact h|(cases hb:Nat.beq t' t<;>rw[hb]at h<;>first|exact h|cases h)
 | _=>exact h
theorem cL.updH {ts:List Nat} {t:Nat} {k:Kd} {cs:List C} : cL ts F (updH F t k cs):=fun s e hu=>by
 unfold Ab.updH at hu;cases hb:Nat.beq s t with
 | true=>rw[hb]at hu;cases hu
 | false=>rw[hb]at hu;exact .inr ⟨s,Kz hu⟩
theorem Jf {t e:Nat} {v:AV} (h:(KB t v).uses e=true):v.uses e=true:=by
 cases v with
 | bor t' off st ag=>simp only[KB]at h;cases hb:Nat.beq t' t<;>rw[hb]at h<;>first|exact h|cases h
 | ref t' off st=>simp only[KB]at h;cases hb:Nat.beq t' t<;>rw[hb]at h<;>first|exact h|cases h
 | _=>exact h
theorem cL.kill {ts:List Nat} {t:Nat} : cL ts F (kill F t):=fun s e hu=>by
 unfold Ab.kill at hu;cases hb:Nat.beq s t with
 | true=>rw[hb]at hu;cases hu
 | false=>rw[hb]at hu;exact .inr ⟨s,Jf hu⟩
theorem cQ {d t:Nat} {av:AV} (h:t≠d):eff none d av F t=F t:=by unfold eff;rw[if_neg h,if_neg (fun e=>by cases e)]
theorem k6 {d:Nat} {mv:Option Nat} {av:AV} : eff mv d av F d=av:=by unfold eff;rw[if_pos rfl]
theorem Jh {d:Nat} : eff none d (F d) F=F:=by
 funext t
 by_cases h:t=d
 ·subst h;rw[k6]
 ·rw[cQ h]
theorem ns {d:Nat} {av:AV} {ts:List Nat} (hd:d∉ts) (hc:∀ t,(F t).uses d=false):im (eff none d av F) F ts:=fun t ht=>by
 have h1:t≠d:=fun e=>hd (e ▸ ht)
 rw[cQ h1];refine⟨rfl,fun t' hu k cs hh=>?_⟩;have h2:t'≠d:=fun e=>by rw[e,hc t]at hu;cases hu
 rwa [cQ h2]at hh
theorem M1 {d dj:Nat} {v av:AV} (hne:dj≠d):put (eff none d v F) dj av=eff none d (kl dj v) (put F dj av):=by
 funext t
 by_cases h1:t=dj
 ·subst h1;rw[kV,cQ hne,kV]
 ·rw[gc _ _ h1]
  by_cases h2:t=d
  ·subst h2;rw[k6,k6]
  ·rw[cQ h2,cQ h2,gc _ _ h1]
theorem Av {d t:Nat} {k':Kd} {v:AV} {cs':List C} (hne:t≠d):updH (eff none d v F) t k' cs'=eff none d (qh t v) (updH F t k' cs'):=by
 funext s
 by_cases h2:s=d
 ·subst h2
  rw[k6];unfold updH;rw[show Nat.beq s t=false by rw[<-t4,Nat.beq_eq];exact Ne.symm hne,k6];rfl
 ·rw[cQ h2]
  unfold updH;rw[cQ h2]
theorem vM {d t:Nat} {k':Kd} {cs':List C} (hne:t≠d):updH F t k' cs' d=qh t (F d):=by
 unfold updH;rw[show Nat.beq d t=false by rw[<-t4,Nat.beq_eq];exact Ne.symm hne];rfl
theorem FC {d t:Nat} {k':Kd} {v:AV} {cs':List C} (hne:t≠d):updN (eff none d v F) t k' cs'=eff none d (KA t v) (updN F t k' cs'):=by
 funext s
 by_cases h2:s=d
 ·subst h2
  rw[k6];unfold updN;rw[show Nat.beq s t=false by rw[<-t4,Nat.beq_eq];exact Ne.symm hne,k6];rfl
 ·rw[cQ h2]
  unfold updN;rw[cQ h2]
theorem A9 {d t:Nat} {k':Kd} {cs':List C} (hne:t≠d):updN F t k' cs' d=KA t (F d):=by
 unfold updN;rw[show Nat.beq d t=false by rw[<-t4,Nat.beq_eq];exact Ne.symm hne];rfl
theorem JR {t e:Nat} {v:AV} (h:(KA t v).uses e=true):v.uses e=true:=by
 cases v with
 | bor t' off st ag=>
  cases st with
  | nil=>exact h
  | cons s st=>simp only[KA]at h;cases hb:Nat.beq t' t<;>rw[hb]at h<;>first|exact h|cases h
 | ref t' off st=>
  cases st with
  | nil=>exact h
  | cons s st=>simp only[KA]at h;cases hb:Nat.beq t' t<;>rw[hb]at h<;>first|exact h|cases h
 | _=>exact h
theorem cL.updN {ts:List Nat} {t:Nat} {k:Kd} {cs:List C} : cL ts F (updN F t k cs):=fun s e hu=>by
 unfold Ab.updN at hu;cases hb:Nat.beq s t with
 | true=>rw[hb]at hu;cases hu
 | false=>rw[hb]at hu;exact .inr ⟨s,JR hu⟩
def Fq (d:Nat) (ts:List Nat) (v:AV) (F:Nat->AV) (K:(Nat->AV)->Prop) (F1:Nat->AV):Prop:=∃ v1,(v=F d->v1=F1 d)/\K (eff none d v1 F1)/\cL ts F F1
def NA (d:Nat) (ts:List Nat) (v:AV) (F:Nat->AV) (K:(Nat->AV)->Option Nat->List C->Prop) (F1:Nat->AV) (ag:Option Nat) (cs:List C):Prop:=∃ v1,(v=F d->v1=F1 d)/\K (eff none d v1 F1) ag cs/\cL ts F F1
theorem Fq.trans {d:Nat} {ts:List Nat} {v v1:AV} {F1 F2:Nat->AV} {K:(Nat->AV)->Prop} (h1:v=F d->v1=F1 d) (u1:cL ts F F1) (h:Fq d ts v1 F1 K F2):Fq d ts v F K F2:=by
 obtain⟨v2,h2,hK,u2⟩:=h;exact⟨v2,fun e=>h2 (h1 e),hK,u1.trans u2⟩
theorem jh {d dj:Nat} {ts:List Nat} {v av:AV} {K:(Nat->AV)->Prop} (h:bL N (eff none d v F) dj av K) (hne:dj≠d) (hav:∀ e,av.uses e=true->e∈ts\/∃ t',(F t').uses e=true):bL N F dj av (Fq d ts v F K):=by
 unfold bL at h |-;cases hb:(N.free dj&&!av.uses dj) with
 | false=>rw[hb]at h;exact h.elim
 | true=>
  rw[hb]at h;simp only[cond_true]at h |-;rw[M1 hne]at h;exact⟨kl dj v,fun e=>by rw[gc _ _ (Ne.symm hne),e],h,cL.put hav⟩
theorem jZ {ts:List Nat} {k:Kd} {cs:List C} : ∀ e,(AV.hold k cs).uses e=true->e∈ts\/∃ t',(F t').uses e=true:=fun e h=>by cases h
theorem DR {p:(Nat->AV)->(AV->Prop)->Prop} {d dj:Nat} {v:AV} {ts0 ts:List Nat} {K:(Nat->AV)->Prop} (h:mC p (eff none d v F) ts0 fun av=>bL N (eff none d v F) dj av K) (hne:dj≠d) (hs:∀ t,t∈ts0->t∈ts) (hd:d∉ts) (hc:∀ t,(F t).uses d=false) :
  p F fun av=>bL N F dj av (Fq d ts v F K):=by
 obtain⟨av,h1,h2,h3⟩:=h;refine h3 F (ns (fun hm=>hd (hs d hm)) hc) _ (jh h1 hne fun e he=>?_);rcases h2 e he with h|⟨t,ht,h⟩
 ·exact .inl (hs e h)
 ·have hne:t≠d:=fun e=>hd (e ▸ hs t ht)
  rw[cQ hne]at h;exact .inr ⟨t,h⟩
theorem qk {d:Nat} {ts:List Nat} {v:AV} {y:Operand} {K:(Nat->AV)->Option Nat->List C->Prop} (h:gh (eff none d v F) y K) (hd:d∉tm y) (hc:∀ t,(F t).uses d=false):gh F y (NA d ts v F K):=by
 have fin:∀ {t:Nat} {k:Kd} {cs:List C} {ag:Option Nat} {xs:List C},t≠d->K (updH (eff none d v F) t k cs) ag xs->NA d ts v F K (updH F t k cs) ag xs:=fun {t k cs ag xs} ht h=>by
  rw[Av ht]at h;exact⟨_,fun e=>by rw[vM ht,e],h,cL.updH⟩
 have te:∀ {t:Nat} {k:Kd} {cs:List C} {ag:Option Nat} {xs:List C},t≠d->K (updN (eff none d v F) t k cs) ag xs->NA d ts v F K (updN F t k cs) ag xs:=fun {t k cs ag xs} ht h=>by
  rw[FC ht]at h;exact⟨_,fun e=>by rw[A9 ht,e],h,cL.updN⟩
 cases y with
 | tmp t=>
  have ht:t≠d:=fun e=>hd (by simp[tm,e])
  simp only[gh]at h |-;rw[cQ ht]at h;cases hF:F t with
  | hold kk bs=>
   rw[hF]at h;cases kk with
   | one=>exact fin ht h
   | agg=>exact fin ht h
   | _=>exact h.elim
  | bor t2 off st ag=>
   rw[hF]at h;have h2:t2≠d:=fun e=>by have:=hc t;rw[hF,e]at this;simp[AV.uses]at this
   cases st with
   | cons s st=>
    simp only at h |-;rw[cQ h2]at h;cases hF2:F t2 with
    | hold kk bs=>
     rw[hF2]at h;obtain⟨r,j,e1,e2,e3,hK⟩:=Lq.out h;exact .mk_ ⟨r,j,_,_,e1,e2,e3,rfl,rfl,te h2 hK⟩
    | _=>rw[hF2]at h;exact h.elim
   | nil=>
    simp only at h |-;rw[cQ h2]at h;cases hF2:F t2 with
    | hold kk bs=>
     rw[hF2]at h;simp only at h |-;cases hb:Nat.ble (off+ag.getD 1) bs.length with
     | false=>rw[hb]at h;exact h.elim
     | true=>rw[hb]at h;exact te h2 h
    | _=>rw[hF2]at h;exact h.elim
  | _=>rw[hF]at h;exact h.elim
 | _=>exact h.elim
theorem Lh {d:Nat} {ts:List Nat} {v:AV} {y:Operand} {K:(Nat->AV)->Option Nat->List C->Prop} (h:sZ (eff none d v F) y K) (hd:d∉tm y) (hc:∀ t,(F t).uses d=false):sZ F y (NA d ts v F K):=by
 obtain⟨ag,xs,h1,h2⟩:=ci h;refine h2 F (ns hd hc) _ ?_;cases hn:aV xs with
 | true=>rw[hn]at h1;exact⟨v,fun e=>e,h1,cL.refl _ _⟩
 | false=>rw[hn]at h1;exact qk h1 hd hc
def Pf (d:Nat) (ts:List Nat) (v:AV) (F:Nat->AV) (K:(Nat->AV)->List C->Prop) (F1:Nat->AV) (cs:List C):Prop:=∃ v1,(v=F d->v1=F1 d)/\K (eff none d v1 F1) cs/\cL ts F F1
theorem uZ {d:Nat} {ts:List Nat} {pl:Nat->Option (Nat × Nat)} (hdt:d∉ts):∀ {parts:List (Nat × Operand)} {cs:List C} {K:(Nat->AV)->List C->Prop} {F:Nat->AV} {v:AV},fillW pl parts cs K (eff none d v F)->(∀ p,p∈parts->d∉tm p.2)->(∀ t,(F t).uses d=false)->
  fillW pl parts cs (Pf d ts v F K) F
 | [],cs,K,F,v,h,_,hc=>⟨v,fun e=>e,h,cL.refl _ _⟩
 | p::rest,cs,K,F,v,h,hd,hc=>by
  simp only[fillW]at h |-;split at h
  case h_2=>exact h.elim
  rename_i q hq;refine rT (Lh (ts:=ts) h (hd p I1) hc) fun F' ag xs h=>?_
  obtain⟨v1,h1,h,u1⟩:=h;cases hb:(Nat.beq xs.length q.2&&Nat.ble (q.1+q.2) cs.length) with
  | false=>rw[hb]at h;exact h.elim
  | true=>
   rw[hb]at h;simp only[cond_true,di]at h |-;refine ix (uZ hdt h (fun p' hp'=>hd p' (Z3 _ hp')) (u1.clean hdt hc)) fun F2 cs2 h2=>?_
   obtain⟨v2,g1,g2,u2⟩:=h2;exact⟨v2,fun e=>g1 (h1 e),g2,u1.trans u2⟩
theorem GO {d dj T:Nat} {ts:List Nat} {v:AV} {parts:List (Nat × Operand)} {K:(Nat->AV)->Prop} (h:jw TE N (eff none d v F) dj T parts K) (hne:dj≠d) (hdt:d∉ts) (hd:∀ p,p∈parts->d∉tm p.2) (hc:∀ t,(F t).uses d=false) :
  jw TE N F dj T parts (Fq d ts v F K):=by
 unfold jw at h |-;split at h
 case h_2=>exact h.elim
 rename_i size bytes zero flds hT;cases ha:vu TE flds with
 | false=>rw[ha]at h;exact h.elim
 | true=>
  rw[ha]at h;refine ix (uZ hdt h hd hc) fun F' cs h=>?_
  obtain⟨v1,h1,h,u1⟩:=h;exact b8 (jh (ts:=ts) h hne jZ) fun F2 h2=>Fq.trans h1 u1 h2
theorem Eh {d dj T n:Nat} {ts:List Nat} {v:AV} {parts:List (Nat × Operand)} {K:(Nat->AV)->Prop} (h:eY TE N (eff none d v F) dj T n parts K) (hne:dj≠d) (hdt:d∉ts) (hd:∀ p,p∈parts->d∉tm p.2) (hc:∀ t,(F t).uses d=false) :
  eY TE N F dj T n parts (Fq d ts v F K):=by
 unfold eY at h |-;obtain⟨e,ie,h,hsel⟩:=iA h;refine hsel _ ?_;cases hb:Nat.ble (n*ie.size) 16777216 with
 | false=>rw[hb]at h;exact h.elim
 | true=>
  rw[hb]at h;simp only[cond_true]at h |-;cases n with
  | zero=>
   cases parts with
   | nil=>exact jh h hne jZ
   | cons=>exact h.elim
  | succ n=>
   simp only[di]at h |-;refine ix (uZ hdt h hd hc) fun F' cs h=>?_
   obtain⟨v1,h1,h,u1⟩:=h;rw[nB]at h |-;exact b8 (jh (ts:=ts) h hne jZ) fun F2 h2=>Fq.trans h1 u1 h2
theorem HR {d dj t:Nat} {ts:List Nat} {v:AV} {K:(Nat->AV)->Prop} (h:ij N (eff none d v F) dj (.tmp t) K) (hne:dj≠d) (hdt:d∉ts) (ht:t∈ts) (hc:∀ t,(F t).uses d=false):ij N F dj (.tmp t) (Fq d ts v F K):=by
 have htd:t≠d:=fun e=>hdt (e ▸ ht)
 have std:bm (eff none d v F) (.tmp t) (fun av=>bL N (eff none d v F) dj av K)->bm F (.tmp t) (fun av=>bL N F dj av (Fq d ts v F K)):=fun h=>
  DR (p:=fun F K=>bm F (.tmp t) K) (iN h) hne (fun t' h'=>by simp[tm]at h';exact h' ▸ ht) hdt hc
 simp only[ij]at h |-;rw[cQ htd]at h;split at h
 ·rename_i sh xs hF
  cases hn:aV xs with
  | true=>rw[hn]at h;exact jh h hne jZ
  | false=>
   rw[hn]at h;simp only[cond_false]at h |-;rw[Av htd]at h;exact b8 (jh (ts:=ts) h hne jZ) fun F2 h2=>Fq.trans (F1:=updH F t (.tup sh) _) (fun e=>by rw[vM htd,e]) cL.updH h2
 all_goals exact std h
theorem Gh {d dj:Nat} {ts:List Nat} {v:AV} {x:Operand} {K:(Nat->AV)->Prop} (h:jj N (eff none d v F) dj x K) (hne:dj≠d) (hdt:d∉ts) (ht:∀ t,t∈tm x->t∈ts) (hc:∀ t,(F t).uses d=false):jj N F dj x (Fq d ts v F K):=by
 have m1:∀ y,(∀ t,t∈tm y->t∈ts)->bm (eff none d v F) y (fun av=>bL N (eff none d v F) dj av K)->bm F y (fun av=>bL N F dj av (Fq d ts v F K)):=fun y hy h=>DR (p:=fun F K=>bm F y K) (iN h) hne hy hdt hc
 have m2:∀ y,(∀ t,t∈tm y->t∈ts)->gh (eff none d v F) y (fun F' ag cs=>bL N F' dj (.hold (jY ag) cs) K)->gh F y (fun F' ag cs=>bL N F' dj (.hold (jY ag) cs) (Fq d ts v F K)):=fun y hy h=>
  fk (qk (ts:=ts) h (fun hm=>hdt (hy d hm)) hc) fun F' ag cs h=>by
   obtain⟨v1,h1,h,u1⟩:=h;exact b8 (jh (ts:=ts) h hne jZ) fun F2 h2=>Fq.trans h1 u1 h2
 cases x with
 | tmp t=>
  have htd:t≠d:=fun e=>hdt (e ▸ ht t (by simp[tm]))
  unfold jj at h |-;simp only at h |-;rw[cQ htd]at h;cases hF:F t with
  | hold k cs=>
   rw[hF]at h;cases k with
   | one=>
    simp only at h |-;cases hn:aV cs with
    | true=>rw[hn]at h;exact m1 (.tmp t) ht h
    | false=>rw[hn]at h;exact m2 (.tmp t) ht h
   | agg=>
    simp only at h |-;cases hn:aV cs with
    | true=>rw[hn]at h;exact m1 (.tmp t) ht h
    | false=>rw[hn]at h;exact m2 (.tmp t) ht h
   | tup sh=>exact m1 _ ht h
   | box=>exact m1 _ ht h
  | bor t2 off st ag=>
   rw[hF]at h;simp only at h |-;cases hn:N.al dj with
   | true=>rw[hn]at h;exact m1 (.tmp t) ht h
   | false=>rw[hn]at h;exact m2 (.tmp t) ht h
  | dead=>rw[hF]at h;exact m1 _ ht h
  | ref=>rw[hF]at h;exact m1 _ ht h
  | iref=>rw[hF]at h;exact m1 _ ht h
  | fn=>rw[hF]at h;exact m1 _ ht h
  | fv=>rw[hF]at h;exact m1 _ ht h
 | const c=>exact m1 (.const c) ht h
 | global g=>exact m1 (.global g) ht h
 | func f=>exact m1 (.func f) ht h
theorem LK {d t:Nat} {v:AV} (ht:t≠d):kill (eff none d v F) t=eff none d (KB t v) (kill F t):=by
 funext s
 by_cases e:s=d
 ·subst e
  rw[k6,gG _ (Ne.symm ht),k6]
 ·rw[cQ e]
  by_cases e2:s=t
  ·subst e2;rw[l8,l8]
  ·rw[gG _ e2,gG _ e2,cQ e]
theorem MG {d dj:Nat} {ts:List Nat} {v:AV} {x:Operand} {K:(Nat->AV)->Prop} (h:yW N (eff none d v F) dj x K) (hne:dj≠d) (hdt:d∉ts) (ht:∀ t,t∈tm x->t∈ts) (hc:∀ t,(F t).uses d=false):yW N F dj x (Fq d ts v F K):=by
 have hbt:zU N (eff none d v F) dj x=zU N F dj x:=by
  cases x with
  | tmp t=>
   have htd:t≠d:=fun e=>hdt (e ▸ ht t (by simp[tm]))
   have he:eff none d v F t=F t:=cQ htd;unfold zU;simp only;rw[he]
  | _=>rfl
 unfold yW at h |-;rw[hbt]at h;cases hb:zU N F dj x with
 | none=>rw[hb]at h;exact Gh h hne hdt ht hc
 | some p=>
  rw[hb]at h;simp only at h |-;obtain⟨rfl,hF⟩:=y5 hb;have htd:p.1≠d:=fun e=>hdt (e ▸ ht p.1 (by simp[tm]))
  rw[LK htd]at h;exact b8 (jh (ts:=ts) h hne jZ) fun F2 h2=>Fq.trans (F1:=kill F p.1) (fun e=>by rw[gG _ (Ne.symm htd),e]) cL.kill h2
theorem Ff {d:Nat} {ts:List Nat} {v:AV} {x:Operand} {cs:List C} {K:(Nat->AV)->Prop} (h:oJ (eff none d v F) x cs K) (hd:d∉tm x) (hc:∀ t,(F t).uses d=false):oJ F x cs (Fq d ts v F K):=by
 have fin:∀ {t:Nat} {k:Kd} {cs:List C},t≠d->K (updH (eff none d v F) t k cs)->Fq d ts v F K (updH F t k cs):=fun {t k cs} ht h=>by
  rw[Av ht]at h;exact⟨_,fun e=>by rw[vM ht,e],h,cL.updH⟩
 have te:∀ {t:Nat} {k:Kd} {cs:List C},t≠d->K (updN (eff none d v F) t k cs)->Fq d ts v F K (updN F t k cs):=fun {t k cs} ht h=>by
  rw[FC ht]at h;exact⟨_,fun e=>by rw[A9 ht,e],h,cL.updN⟩
 have finP:∀ {t:Nat} {k:Kd} {cs:List C},t≠d->K (L2 (eff none d v F) t k cs)->Fq d ts v F K (L2 F t k cs):=fun {t k cs} ht h=>by
  cases k with
  | box=>exact fin ht h
  | _=>exact te ht h
 cases x with
 | tmp t=>
  have ht:t≠d:=fun e=>hd (by simp[tm,e])
  simp only[oJ]at h |-;rw[cQ ht]at h;cases hF:F t with
  | hold k bs=>
   rw[hF]at h;cases k with
   | box=>
    simp only at h |-;cases hb:Nat.ble cs.length bs.length with
    | false=>rw[hb]at h;exact h.elim
    | true=>rw[hb]at h;simp only[cond_true,di]at h |-;exact fin ht h
   | _=>exact h.elim
  | ref t2 off st=>
   rw[hF]at h;have h2:t2≠d:=fun e=>by have:=hc t;rw[hF,e]at this;simp[AV.uses]at this
   cases st with
   | cons s st=>
    simp only at h |-;rw[cQ h2]at h;cases hF2:F t2 with
    | hold k bs=>
     rw[hF2]at h;obtain⟨r,j,e1,e2,e3,hK⟩:=Pu.out h;exact Pu.mk e1 e2 e3 rfl (finP h2 hK)
    | _=>rw[hF2]at h;exact h.elim
   | nil=>
    simp only at h |-;rw[cQ h2]at h;cases hF2:F t2 with
    | hold k bs=>
     rw[hF2]at h;cases k with
     | box=>
      simp only at h |-;cases hb:Nat.ble (off+cs.length) bs.length with
      | false=>rw[hb]at h;exact h.elim
      | true=>rw[hb]at h;simp only[cond_true,di]at h |-;exact fin h2 h
     | _=>exact h.elim
    | _=>rw[hF2]at h;exact h.elim
  | _=>rw[hF]at h;exact h.elim
 | _=>exact h.elim
theorem H4 {d T:Nat} {ts:List Nat} {v:AV} {x y:Operand} {K:(Nat->AV)->Prop} (h:lR TE (eff none d v F) T x y K) (hdt:d∉ts) (hx:d∉tm x) (hy:d∉tm y) (hc:∀ t,(F t).uses d=false):lR TE F T x y (Fq d ts v F K):=by
 unfold lR at h |-;split at h
 ·rename_i i hT
  obtain⟨ag,cs,h1,h2⟩:=ci h;refine h2 F (ns hy hc) _ ?_;cases hl:Nat.beq cs.length i.size with
  | false=>rw[hl]at h1;exact h1.elim
  | true=>
   rw[hl]at h1;simp only[cond_true]at h1 |-;cases hn:aV cs with
   | true=>rw[hn]at h1;exact Ff h1 hx hc
   | false=>
    rw[hn]at h1;simp only[cond_false]at h1 |-;refine fk (qk (ts:=ts) h1 hy hc) fun F' ag' cs' h=>?_
    obtain⟨v1,h1,h,u1⟩:=h;cases hl':Nat.beq cs'.length i.size with
    | false=>rw[hl']at h;exact h.elim
    | true=>rw[hl']at h;exact rn (Ff (ts:=ts) h hx (u1.clean hdt hc)) fun F2 h2=>Fq.trans h1 u1 h2
 ·exact h.elim
theorem M7 {d:Nat} {v:AV} {y:Operand} (hd:d∉tm y):lA (eff none d v F) y=lA F y:=by
 cases y with
 | tmp t=>exact cQ fun e=>hd (by simp[tm,e])
 | _=>rfl
theorem Ms {d:Nat} {ts:List Nat} {v:AV} {y:Operand} {K:Bool->(Nat->AV)->List (List C)->Prop} (h:zk (eff none d v F) y K) (hd:d∉tm y) (hc:∀ t,(F t).uses d=false):zk F y fun fl F1 rows=>∃ v1,(v=F d->v1=F1 d)/\K fl (eff none d v1 F1) rows/\cL ts F F1:=by
 have hev:=M7 (F:=F) (v:=v) hd;unfold zk at h |-;rw[hev]at h;split at h
 ·refine fk (qk (ts:=ts) h hd hc) fun F1 ag cs h=>?_
  obtain⟨v1,h1,h,u1⟩:=h;split at h
  ·exact⟨v1,h1,h,u1⟩
  ·exact h.elim
 ·rw[<-hev]at h
  obtain⟨ag,xs,h1,h2⟩:=ci h;refine h2 F (ns hd hc) _ ?_;split at h1
  ·exact⟨v,fun e=>e,h1,cL.refl _ _⟩
  ·exact⟨v,fun e=>e,h1,cL.refl _ _⟩
  ·exact h1.elim
theorem LS {d:Nat} {ts:List Nat} {v:AV} {y:Operand} {K:(Nat->AV)->List (List C)->Prop} (h:yq (eff none d v F) y K) (hd:d∉tm y) (hc:∀ t,(F t).uses d=false):yq F y fun F1 rows=>∃ v1,(v=F d->v1=F1 d)/\K (eff none d v1 F1) rows/\cL ts F F1:=by
 obtain⟨ag,xs,h1,h2⟩:=ci h;refine h2 F (ns hd hc) _ ?_;split at h1
 ·exact⟨v,fun e=>e,h1,cL.refl _ _⟩
 ·refine fk (qk (ts:=ts) h1 hd hc) fun F1 ag cs h=>?_
  obtain⟨v1,h1,h,u1⟩:=h;split at h
  ·exact⟨v1,h1,h,u1⟩
  ·exact h.elim
 ·exact h1.elim
theorem KG {d dj T:Nat} {ts:List Nat} {v:AV} {x y:Operand} {K:(Nat->AV)->Prop} (h:y1 TE N (eff none d v F) dj T x y K) (hne:dj≠d) (hdt:d∉ts) (hx:d∉tm x) (hy:d∉tm y) (hc:∀ t,(F t).uses d=false):y1 TE N F dj T x y (Fq d ts v F K):=by
 obtain⟨e,ie,h,hsel⟩:=iA h;refine hsel _ (BS (Ms (ts:=ts) h hy hc) fun fl F1 xr h=>?_);obtain⟨v1,h1,h,u1⟩:=h;refine yx (LS (ts:=ts) h hx (u1.clean hdt hc)) fun F2 rows h=>?_
 obtain⟨v2,h2,h,u2⟩:=h;obtain⟨a1,a2,a3,a4,a5,h⟩:=Ap.out h;refine Ap.mk a1 a2 a3 a4 a5 rfl (b8 (jh (ts:=ts) h hne jZ) fun F3 h3=>?_);exact Fq.trans h1 u1 (Fq.trans h2 u2 h3)
theorem H9 {oj:Oper} {d:Nat} {v:AV} {K:(Nat->AV)->Prop} (hg:oj.guard=none) (hk:MH oj.op=true) (hne:oj.dst≠some d) (hl:d∉oj.looksAt ops) (hc:∀ t,(F t).uses d=false) (h:jo P TE N ops oj K (eff none d v F)) :
  jo P TE N ops oj (Fq d (oj.looksAt ops) v F K) F:=by
 unfold jo eP at h |-;rw[hg]at h |-;simp only at h |-;have hsub:∀ t,t∈cM oj.op->t∈oj.looksAt ops:=fun t ht=>fL oj t ht
 have pur:∀ dj,dj≠d->cX P TE (eff none d v F) oj.op (fun av=>bL N (eff none d v F) dj av K)->cX P TE F oj.op fun av=>bL N F dj av (Fq d (oj.looksAt ops) v F K):=fun dj hne h=>
  DR (p:=fun F K=>cX P TE F oj.op K) (lr h) hne hsub hl hc
 have dne:∀ dj,oj.dst=some dj->dj≠d:=fun dj hd e=>hne (e ▸ hd)
 have tmI:∀ x,x∈oj.op.operands.toList->∀ t,t∈tm x->t∈oj.looksAt ops:=fun x hx t ht=>hsub t (List.mem_flatMap.2 ⟨x,hx,ht⟩)
 cases hop:oj.op with
 | store T x y=>
  rw[hop]at h tmI;simp only[GS]at h |-;cases hd:oj.dst with
  | some dj=>rw[hd]at h;simp only[nl]at h;exact h.elim
  | none=>
   rw[hd]at h;simp only at h |-;exact H4 h hl (fun hm=>hl (tmI x (by simp[Op.operands]) d hm)) (fun hm=>hl (tmI y (by simp[Op.operands]) d hm)) hc
 | move x=>
  rw[hop]at h tmI;cases hd:oj.dst with
  | none=>rw[hd]at h;exact h.elim
  | some dj=>
   rw[hd]at h;cases x with
   | tmp t=>
    simp only[GS,nl]at h |-;exact HR h (dne dj hd) hl (tmI (.tmp t) (by simp[Op.operands]) t (by simp[tm])) hc
   | _=>rw[hop]at hk;cases hk
 | assign x=>
  rw[hop]at h tmI;cases hd:oj.dst with
  | none=>rw[hd]at h;exact h.elim
  | some dj=>
   rw[hd]at h;simp only[GS,nl]at h |-;exact MG h (dne dj hd) hl (tmI x (by simp[Op.operands])) hc
 | build T ps=>
  rw[hop]at h tmI;cases hd:oj.dst with
  | none=>rw[hd]at h;exact h.elim
  | some dj=>
   rw[hd]at h;simp only[GS,nl]at h |-;refine GO h (dne dj hd) hl (fun p hp hm=>hl (tmI p.2 ?_ d hm)) hc;simp only[Op.operands];simpa using ⟨p.1,by simpa using hp⟩
 | buildSlice T n ps=>
  rw[hop]at h tmI;cases hd:oj.dst with
  | none=>rw[hd]at h;exact h.elim
  | some dj=>
   rw[hd]at h;simp only[GS,nl]at h |-;refine Eh h (dne dj hd) hl (fun p hp hm=>hl (tmI p.2 ?_ d hm)) hc;simp only[Op.operands];simpa using ⟨p.1,by simpa using hp⟩
 | extract x i=>rw[hop]at h pur;cases hd:oj.dst with|none=>rw[hd]at h;exact h.elim|some dj=>rw[hd]at h;exact pur dj (dne dj hd) h
 | load T x=>rw[hop]at h pur;cases hd:oj.dst with|none=>rw[hd]at h;exact h.elim|some dj=>rw[hd]at h;exact pur dj (dne dj hd) h
 | fieldAddr T x i=>rw[hop]at h pur;cases hd:oj.dst with|none=>rw[hd]at h;exact h.elim|some dj=>rw[hd]at h;exact pur dj (dne dj hd) h
 | field T x i=>rw[hop]at h pur;cases hd:oj.dst with|none=>rw[hd]at h;exact h.elim|some dj=>rw[hd]at h;exact pur dj (dne dj hd) h
 | binOp o T x y T2=>rw[hop]at h pur;cases hd:oj.dst with|none=>rw[hd]at h;exact h.elim|some dj=>rw[hd]at h;exact pur dj (dne dj hd) h
 | unOp o T x=>rw[hop]at h pur;cases hd:oj.dst with|none=>rw[hd]at h;exact h.elim|some dj=>rw[hd]at h;exact pur dj (dne dj hd) h
 | call c=>
  rw[hop]at hk h tmI;cases ha:pO c with
  | none=>simp[MH,ha]at hk
  | some p=>
   have hcc:=vo ha;subst hcc;cases hd:oj.dst with
   | none=>rw[hd]at h;exact h.elim
   | some dj=>
    rw[hd]at h;simp only[GS,nl,ha]at h |-;exact KG h (dne dj hd) hl (fun hm=>hl (tmI p.2.1 (by simp[Op.operands,Call.operands]) d hm)) (fun hm=>hl (tmI p.2.2 (by simp[Op.operands,Call.operands]) d hm)) hc
 | _=>rw[hop]at hk;cases hk
theorem M8 {oj:Oper} {d:Nat} {K:(Nat->AV)->Prop} (hg:oj.guard=none) (hk:MH oj.op=true) (hne:oj.dst≠some d) (hl:d∉oj.looksAt ops) (hc:∀ t,(F t).uses d=false) (h:jo P TE N ops oj K F) :
  jo P TE N ops oj (fun F1=>K F1/\cL (oj.looksAt ops) F F1) F:=by
 refine jE (H9 (d:=d) (v:=F d) hg hk hne hl hc (by rw[Jh];exact h)) fun F1 h1=>?_
 obtain⟨v1,e,hK,u⟩:=h1;rw[e rfl,Jh]at hK;exact⟨hK,u⟩
theorem cL.setH {ts:List Nat} {t:Nat} {k:Kd} {cs:List C} : cL ts F (setH F t (.hold k cs)):=fun s e hu=>by
 unfold Ab.setH at hu;cases hb:Nat.beq s t with
 | true=>rw[hb]at hu;cases hu
 | false=>rw[hb]at hu;exact .inr ⟨s,hu⟩
theorem F9 {ts:List Nat} {d:Nat} {k:Kd} {rcs:List C} {K:(Nat->AV)->Prop} (h:bL N F d (.hold k rcs) K):bL N F d (.hold k rcs) fun F1=>K F1/\cL ts F F1:=by
 unfold bL at h |-;cases hb:(N.free d&&!(AV.hold k rcs).uses d) with
 | false=>rw[hb]at h;exact h.elim
 | true=>rw[hb]at h;exact⟨h,cL.put fun e he=>by cases he⟩
theorem qX {ts:List Nat} {t off n:Nat} {st:cm} {K:(Nat->AV)->List C->Prop} (h:lendAt F t off st n K):lendAt F t off st n fun F1 cs=>K F1 cs/\cL ts F F1:=by
 unfold lendAt at h |-;split at h
 case h_2=>exact h.elim
 split at h
 ·rename_i k bs _ _
  cases hb:Nat.ble (off+n) bs.length with
  | false=>rw[hb]at h;exact h.elim
  | true=>
   rw[hb]at h;simp only[cond_true,di]at h |-;exact⟨h,cL.updH⟩
 ·obtain⟨r,j,h1,h2,h3,hK⟩:=Lq.out h
  refine .mk_ ?_;exact⟨r,j,_,_,h1,h2,h3,rfl,rfl,hK,cL.updH⟩
theorem jK {ts:List Nat} : ∀ {xs:List (Operand × Nat)} {K:(Nat->AV)->List (MA × w6)->Prop} {F:Nat->AV},lendP xs K F->lendP xs (fun F1 l=>K F1 l/\cL ts F F1) F
 | [],K,F,h=>⟨h,cL.refl _ _⟩
 | (x,0)::xs,K,F,h=>jK (xs:=xs) h
 | (x,1)::xs,K,F,h=>by
  simp only[lendP]at h |-;split at h
  case h_2=>exact h.elim
  split at h
  ·exact gK (qX (ts:=ts) h) fun F1 cs h=>dr (jK (ts:=ts) h.1) fun F2 l h2=>⟨h2.1,h.2.trans h2.2⟩
  ·exact gK (qX (ts:=ts) h) fun F1 cs h=>dr (jK (ts:=ts) h.1) fun F2 l h2=>⟨h2.1,h.2.trans h2.2⟩
  ·exact gK (qX (ts:=ts) h) fun F1 cs h=>dr (jK (ts:=ts) h.1) fun F2 l h2=>⟨h2.1,h.2.trans h2.2⟩
  ·exact h.elim
 | (x,n+2)::xs,K,F,h=>by
  simp only[lendP]at h |-;split at h
  case h_2=>exact h.elim
  split at h
  ·split at h
   ·exact dr (jK (ts:=ts) h) fun F2 l h2=>⟨h2.1,cL.kill.trans h2.2⟩
   ·exact h.elim
  ·exact dr (jK (ts:=ts) h) fun F2 l h2=>⟨h2.1,cL.kill.trans h2.2⟩
  ·exact h.elim
theorem jQ {ts:List Nat} {K:(Nat->AV)->Prop} : ∀ {l:List (MA × w6)} {B:List MA} {F:Nat->AV},iq l B K F->iq l B (fun F1=>K F1/\cL ts F F1) F
 | [],[],F,h=>⟨h,cL.refl _ _⟩
 | [],_::_,F,h=>h.elim
 | (m,.no)::l,[],F,h=>h.elim
 | (m,.at_ t off st)::l,[],F,h=>h.elim
 | (m,.box t)::l,[],F,h=>h.elim
 | (m,.no)::l,.val _ _::B,F,h=>jQ (l:=l) (B:=B) h
 | (m,.no)::l,.mut _ _::B,F,h=>jQ (l:=l) (B:=B) h
 | (m,.no)::l,.ptr _::B,F,h=>jQ (l:=l) (B:=B) h
 | (m,.at_ t off st)::l,.val _ _::B,F,h=>h.elim
 | (m,.at_ t off st)::l,.ptr _::B,F,h=>h.elim
 | (m,.box t)::l,.val _ _::B,F,h=>h.elim
 | (m,.box t)::l,.mut _ _::B,F,h=>h.elim
 | (m,.at_ t off st)::l,.mut ag out::B,F,h=>by
  simp only[iq]at h |-;split at h
  case h_2=>exact h.elim
  split at h
  ·rename_i k bs _ _
   cases hb:Nat.ble (off+out.length) bs.length with
   | false=>rw[hb]at h;exact h.elim
   | true=>
    rw[hb]at h;simp only[cond_true,di]at h |-;exact dE (fun F2 h2=>⟨h2.1,cL.updH.trans h2.2⟩) (jQ (ts:=ts) h)
  ·obtain⟨r,j,e1,e2,e3,hK⟩:=Pu.out h
   exact Pu.mk e1 e2 e3 rfl (dE (fun F2 h2=>⟨h2.1,cL.updH.trans h2.2⟩) (jQ (ts:=ts) hK))
 | (m,.box t)::l,.ptr out::B,F,h=>by
  simp only[iq]at h |-;split at h
  ·exact dE (fun F2 h2=>⟨h2.1,cL.setH.trans h2.2⟩) (jQ (ts:=ts) h)
  ·exact h.elim
theorem HW {ts:List Nat} {d:Option Nat} {f:Nat} {args:List Operand} {modes:List Nat} {K:(Nat->AV)->Prop} (h:n7 P N F d f args modes K):n7 P N F d f args modes fun F1=>K F1/\cL ts F F1:=by
 unfold n7 at h |-;refine dr (jK (ts:=ts) h) fun F' l h=>?_
 obtain⟨h,u1⟩:=h;cases hb:(uI l&&Nat.beq args.length modes.length) with
 | false=>rw[hb]at h;exact h.elim
 | true=>
  rw[hb]at h;refine jW h fun b A h=>?_
  obtain⟨sh,B,k,rcs,h1,h2,h3⟩:=cu.out h;refine cu.mk h1 h2 (dE (fun F'' h=>?_) (jQ (ts:=ts) h3));obtain⟨h,u2⟩:=h;cases d with
  | none=>exact⟨h,u1.trans u2⟩
  | some d=>exact b8 (F9 (ts:=ts) h) fun F2 h2=>⟨h2.1,(u1.trans u2).trans h2.2⟩
theorem Ld {ts:List Nat} {d:Option Nat} {t:Nat} {cs:List C} {o0 n0 o1 n1:Nat} {K:(Nat->AV)->Prop} {k:Kd} {rcs:List C} {B:List MA} (h:Bk N F d t cs o0 n0 o1 n1 K k rcs B):Bk N F d t cs o0 n0 o1 n1 (fun F1=>K F1/\cL ts F F1) k rcs B:=by
 unfold Bk at h |-;split at h
 case h_2=>exact h.elim
 rename_i c0 c1;cases hl:(Nat.beq c0.length n0&&Nat.beq c1.length n1) with
 | false=>rw[hl]at h;exact h.elim
 | true=>
  rw[hl]at h;simp only[cond_true,di]at h |-;cases d with
  | none=>exact⟨h,cL.kill.trans cL.setH⟩
  | some d=>exact b8 (F9 (ts:=ts) h) fun F2 h2=>⟨h2.1,(cL.kill.trans cL.setH).trans h2.2⟩
theorem J9 {ts:List Nat} {d:Option Nat} {f:Nat} {args:List Operand} {n0 n1:Nat} {K:(Nat->AV)->Prop} (h:lM P N F d f args n0 n1 K):lM P N F d f args n0 n1 fun F1=>K F1/\cL ts F F1:=by
 unfold lM at h |-;split at h
 case h_2=>exact h.elim
 refine nZ h fun t o0 h=>nZ h fun t' o1 h=>?_
 split at h
 case h_2=>exact h.elim
 rename_i cs hF;cases hb:(Nat.beq t' t&&Nat.ble (o0+n0) o1&&Nat.ble (o1+n1) cs.length) with
 | false=>rw[hb]at h;exact h.elim
 | true=>
  rw[hb]at h;simp only[cond_true,di]at h |-;obtain⟨sh,B,k,rcs,h1,h2,h3⟩:=cu.out h;exact cu.mk h1 h2 (Ld h3)
theorem Kt {ts:List Nat} {d:Option Nat} {f:Nat} {args:List Operand} {modes:List Nat} {K:(Nat->AV)->Prop} (h:lH P N F d f args modes K):lH P N F d f args modes fun F1=>K F1/\cL ts F F1:=by
 unfold lH at h |-;split
 ·rename_i p hp;rw[hp]at h;exact J9 h
 ·rename_i hp;rw[hp]at h;exact HW h
theorem Ls {oj:Oper} {K:(Nat->AV)->Prop} (hg:oj.guard=none) (hk:Fa oj.op=true) (h:jo P TE N ops oj K F):jo P TE N ops oj (fun F1=>K F1/\cL (oj.looksAt ops) F F1) F:=by
 have pur:∀ d,oj.dst=some d->cX P TE F oj.op (fun av=>bL N F d av K)->cX P TE F oj.op fun av=>bL N F d av fun F1=>K F1/\cL (oj.looksAt ops) F F1:=fun d hd h=>by
  have h0:fQ P TE N ops oj K F:=by unfold fQ eP;rw[hg,hd];exact h
  obtain⟨d',av,hy,hK⟩:=vr h0;have hd':=hy.dst;rw[hd]at hd';simp only[T0]at hd';subst hd';have h1:=hy.at_ F (im.refl _ _) (fun F1=>K F1/\cL (oj.looksAt ops) F F1) ⟨hK,cL.put fun e he=>(hy.from_ e he).imp id fun⟨t,_,h⟩=>⟨t,h⟩⟩;unfold fQ eP at h1;rw[hg,hd]at h1;exact h1
 unfold jo eP at h |-;rw[hg]at h |-;simp only at h |-;cases hop:oj.op with
 | call c=>
  rw[hop]at h hk;cases hm:GS N F (.call c) with
  | some p=>rw[hm]at h;exact Kt h
  | none=>
   rw[hm]at h;simp only at h |-;have hap:pO c=none:=by
    simp only[Fa]at hk;unfold pO;cases hc:c.callee with
    | value=>rfl
    | _=>simp[hc]at hk
   cases hd:oj.dst with
   | none=>rw[hd]at h;exact h.elim
   | some d=>
    rw[hd]at h;simp only[nl,hap]at h |-;have h2:=pur d hd;rw[hop]at h2;exact h2 h
 | _=>rw[hop]at hk;cases hk
theorem LB {oj:Oper} {d:Nat} {K:(Nat->AV)->Prop} (hg:oj.guard=none) (hk:(MH oj.op || Fa oj.op)=true) (hne:oj.dst≠some d) (hl:d∉oj.looksAt ops) (hc:∀ t,(F t).uses d=false) (h:jo P TE N ops oj K F) :
  jo P TE N ops oj (fun F1=>K F1/\cL (oj.looksAt ops) F F1) F:=by
 rw[R4]at hk;rcases hk with hk|hk
 ·exact M8 hg hk hne hl hc h
 ·exact Ls hg hk h
structure kJ (ops:Array Oper) (ds:List Nat) (F:Nat->AV) (listed:Array Bool):Prop where
 dst:∀ (j:Nat) (o:Oper) (d:Nat),mD ds o=true->ops[j]? = some o->listed.getD j true=false->o.dst=some d->∀ t,(F t).uses d=false
 mv:∀ (j:Nat) (o:Oper) (T:Option Nat) (s:Nat),mD ds o=true->ops[j]? = some o->listed.getD j true=false->o.guard=none->mj o.op=some (T,s)->ip ops o s=true->∀ t,(F t).uses s=false
theorem kJ.put {j d:Nat} {mv:Option Nat} {listed:Array Bool} {av:AV} (h:kJ ops ds F listed) (hav:∀ j' o' d',mD ds o'=true->j'≠j->ops[j']? = some o'->listed.getD j' true=false->o'.dst=some d'->av.uses d'=false)
  (hmv:∀ j' o' T s,mD ds o'=true->j'≠j->ops[j']? = some o'->listed.getD j' true=false->o'.guard=none->mj o'.op=some (T,s)->ip ops o' s=true->av.uses s=false) :
  kJ ops ds (eff mv d av F) (listed.setIfInBounds j true):=by
 refine⟨fun j' o' d' hm hj' hl hd' t=>?_,fun j' o' T s hm hj' hl hg hmo hso t=>?_⟩
 ·have hne:=gJ hl
  rw[getD_set_ne true (Ne.symm hne)]at hl;exact iL (hav j' o' d' hm hne hj' hl hd') (h.dst j' o' d' hm hj' hl hd' t)
 ·have hne:=gJ hl
  rw[getD_set_ne true (Ne.symm hne)]at hl;exact iL (hmv j' o' T s hm hne hj' hl hg hmo hso) (h.mv j' o' T s hm hj' hl hg hmo hso t)
theorem uO {o:Oper} (h:Nc o=true):o.guard=none:=by
 unfold Nc at h;cases hg:o.guard with
 | none=>rfl
 | some p=>rw[hg]at h;cases h
theorem JY {ts:List Nat} {d:Nat} (h:(!ts.any (Nat.beq d))=true):d∉ts:=fun hm=>by
 have:ts.any (Nat.beq d)=true:=Z2.2 ⟨d,hm,Nat.beq_refl d⟩;rw[this]at h;cases h
theorem Ka {oj oa:Oper} {d:Nat} {nb:Bool} (h:MZ ops oj oa nb=true) (hd:oa.dst=some d):oj.guard=none/\MH oj.op=true/\oj.dst≠some d/\d∉oj.looksAt ops/\oa.guard=none/\d∉oa.looksAt ops/\(nb=true\/∀ T s,mj oa.op=some (T,s)->ip ops oa s=false):=by
 unfold MZ at h;rw[hd]at h;simp only[I0]at h;obtain⟨⟨⟨⟨⟨⟨h1,h2⟩,h3⟩,h4⟩,h5⟩,h6⟩,h7⟩:=h;refine⟨uO h1,h2,fun e=>?_,JY h4,uO h5,JY h6,?_⟩
 ·rw[e]at h3;simp at h3
 ·rw[R4]at h7
  rcases h7 with h7|h7
  ·exact .inl h7
  ·exact .inr fun T s e=>by rw[e]at h7;simpa using h7
theorem Jt {j i:Nat} (h:t7 ops j i=true):mt ops j i:=qx j _ (fun _ hi'=>.one (uv hi')) i h
theorem FQ {o:Oper} (h:mD ds o=true):∃ d,o.dst=some d/\ds.any (Nat.beq d)=true:=by
 unfold mD at h;cases hd:o.dst with
 | none=>rw[hd]at h;cases h
 | some d=>rw[hd]at h;exact⟨d,rfl,h⟩
structure Nm (ops:Array Oper) (ds:List Nat) (nm:Nat->Bool):Prop where
 back:∀ (j:Nat) (oj:Oper),ops[j]? = some oj->∀ e∈oj.after,Region.binds .any e=true->e.on<j
 apart:∀ (i j:Nat) (oi oj:Oper),mD ds oi=true->mD ds oj=true->i≠j->ops[i]? = some oi->ops[j]? = some oj->cK oj i=true\/cK oi j=true\/oi.apart ops oj=true
 look:∀ (i j:Nat) (oi oj:Oper) (d:Nat),mD ds oi=true->i≠j->ops[i]? = some oi->ops[j]? = some oj->oi.dst=some d->d∈oj.looksAt ops->cK oj i=true
 differ:∀ (i j:Nat) (oi oj:Oper) (d:Nat),mD ds oi=true->mD ds oj=true->i≠j->ops[i]? = some oi->ops[j]? = some oj->oi.dst=some d->oj.dst≠some d
 nf:∀ (i j:Nat) (oi oj:Oper),mD ds oi=true->mD ds oj=false->i≠j->ops[i]? = some oi->ops[j]? = some oj->t7 ops j i=true\/t7 ops i j=true\/MZ ops oj oi (nm i)=true
 mvs:∀ (j:Nat) (oj:Oper) (T:Option Nat) (s:Nat),mD ds oj=true->ops[j]? = some oj->mj oj.op=some (T,s)->ip ops oj s=true->ds.any (Nat.beq s)=true
theorem nh {listed:Array Bool} {j i:Nat} {oj:Oper} (hok:Nm ops ds nm) (hdc:DC ops listed) (hoj:ops[j]? = some oj) (hall:∀ e∈oj.after,Region.binds .any e=true->listed.getD e.on false=true) (hr:t7 ops j i=true):listed.getD i false=true:=
 ml hdc hok.back (Jt hr) (R2.1 hoj).1 fun k hk=>by
  rw[aW hoj]at hk;obtain⟨e,he1,he2,rfl⟩:=bV.1 hk;exact hall e he1 he2
theorem unl {listed:Array Bool} {k:Nat} (h1:listed.getD k true=false) (h2:listed.getD k false=true):False:=by
 rcases Nat.lt_or_ge k listed.size with h'|h'
 ·simp[h']at h1 h2;rw[h1]at h2;cases h2
 ·simp[Array.getElem?_eq_none h']at h2
theorem im.trans {F1 F2:Nat->AV} {ts:List Nat} (h1:im F F1 ts) (h2:im F1 F2 ts):im F F2 ts:=fun t ht=>by
 obtain⟨a1,a2⟩:=h1 t ht;obtain⟨b1,b2⟩:=h2 t ht;refine⟨b1.trans a1,fun t' hu k cs hh=>b2 t' (by rw[a1];exact hu) k cs (a2 t' hu k cs hh)⟩
theorem kJ.us {j:Nat} {oj:Oper} {F1:Nat->AV} {listed:Array Bool} (hok:Nm ops ds nm) (h:kJ ops ds F listed) (hoj:ops[j]? = some oj) (hall:∀ e∈oj.after,Region.binds .any e=true->listed.getD e.on false=true) (u:cL (oj.looksAt ops) F F1):kJ ops ds F1 (listed.setIfInBounds j true):=by
 refine⟨fun j' o' d' hm hj' hl hd'=>u.clean (fun hlk=>?_) (h.dst j' o' d' hm hj' ?_ hd'),fun j' o' T s hm hj' hl hg hmo hso=>u.clean (fun hlk=>?_) (h.mv j' o' T s hm hj' ?_ hg hmo hso)⟩
 ·have hne:=gJ hl
  rw[getD_set_ne true (Ne.symm hne)]at hl;have:=hok.look j' j o' oj d' hm hne hj' hoj hd' hlk;obtain⟨e,he1,he2,rfl⟩:=bV.1 this;exact unl hl (hall e he1 he2)
 ·have hne:=gJ hl
  rwa [getD_set_ne true (Ne.symm hne)]at hl
 ·have hne:=gJ hl
  exact hne ((fo hso).2 j' j o' oj hj' hoj (cG hmo) hlk)
 ·have hne:=gJ hl
  rwa [getD_set_ne true (Ne.symm hne)]at hl
theorem MC {p d:Nat} {v:AV} {F1:Nat->AV} {op:Oper} (hop:ops[p]? = some op) (hd:d∉op.looksAt ops) (hc:∀ t,(F1 t).uses d=false) (hne:op.dst≠some d) (h:Mp P TE ops p (eff none d v F1)):Mp P TE ops p F1:=by
 obtain⟨dp,h1,h2,h3⟩:=h;rw[aW hop]at h1 h2 h3;refine⟨dp,by rw[aW hop];exact h1,?_,?_⟩
 ·rw[aW hop]
  rw[<-h2];exact tR (ops:=ops) (ns hd hc)
 ·rw[aW hop]
  obtain⟨av,e1,-,e3⟩:=lr h3;rw[cQ (fun e=>hne (by rw[h1,e]))]at e1;exact e3 F1 (ns (fun hm=>hd (fL op d hm)) hc) _ e1
theorem Ep (hok:Nm ops ds nm) {i d:Nat} {oi:Oper} {K:(Nat->AV)->Prop} (hi:ops[i]? = some oi) (him:mD ds oi=true) :
  ∀ (fuel:Nat) (listed:Array Bool) (F:Nat->AV) (mv:Option Nat) (av:AV),i∈Region.ready .any ops listed->kJ ops ds F listed->DC ops listed->Yl P TE N ops oi F mv d av->(nm i=true->mv=none)->AS P TE N ops ds K fuel (listed.setIfInBounds i true) (eff mv d av F)->AS P TE N ops ds K (fuel+1) listed F:=by
 have self:∀ (listed:Array Bool) (F:Nat->AV) (mv:Option Nat) (av:AV),i∈Region.ready .any ops listed->kJ ops ds F listed->Yl P TE N ops oi F mv d av->∀ K':(Nat->AV)->Prop,K' (eff mv d av F)->jL P TE N ops oi K' F:=fun listed F mv av hr hcl hy K' hK=>by
  have hiun:=(mem_ready.1 hr).1;refine hy.at_ F (im.refl _ _) (hcl.dst i oi d him hi hiun hy.dst) (fun s hs=>?_) K' hK;obtain⟨h1,⟨T,h2⟩,h3⟩:=hy.mvl s hs;exact hcl.mv i oi T s him hi hiun h1 h2 h3
 intro fuel
 induction fuel with
 | zero=>
  intro listed F mv av hr hcl hdc hy hnm H;refine⟨fun h=>(by rw[h]at hr;cases hr),fun j hj=>?_⟩;by_cases hji:j=i
  ·subst hji
   unfold sM;rw[hi];simp only[if_pos him];exact self listed F mv av hr hcl hy _ H
  ·have:=ready_mono hj hji
   rw[H.1]at this;cases this
 | succ fuel ih=>
  intro listed F mv av hr hcl hdc hy hnm H;refine⟨fun h=>(by rw[h]at hr;cases hr),fun j hj=>?_⟩;by_cases hji:j=i
  ·subst hji
   unfold sM;rw[hi];simp only[if_pos him];exact self listed F mv av hr hcl hy _ H
  ·have h1:=H.2 j (ready_mono hj hji)
   obtain⟨hjun,oj,hoj,hall⟩:=mem_ready.1 hj;obtain⟨hiun,oi',hoi',halli⟩:=mem_ready.1 hr;rw[hi]at hoi';simp only[T0]at hoi';subst hoi';have noedge:∀ k ok,ops[k]? = some ok->listed.getD k true=false->cK oj k=false:=fun k ok hk hkun=>by
    rw[<-t4];intro he;obtain⟨e,he1,he2,he3⟩:=bV.1 he;exact unl hkun (he3 ▸ hall e he1 he2)
   have noedge':∀ k ok,ops[k]? = some ok->listed.getD k true=false->cK oi k=false:=fun k ok hk hkun=>by
    rw[<-t4];intro he;obtain⟨e,he1,he2,he3⟩:=bV.1 he;exact unl hkun (he3 ▸ halli e he1 he2)
   have cd:∀ t,(F t).uses d=false:=hcl.dst i oi d him hi hiun hy.dst
   unfold sM at h1 |-;rw[hoj]at h1 |-;simp only at h1 |-;by_cases hjm:mD ds oj=true
   case neg=>
    rw[if_neg hjm]at h1 |-;have hji1:t7 ops j i=false:=by
     rw[<-t4];exact fun h=>unl hiun (nh hok hdc hoj hall h)
    have hij1:t7 ops i j=false:=by
     rw[<-t4];exact fun h=>unl hjun (nh hok hdc hi halli h)
    have hfb:MZ ops oj oi (nm i)=true:=by
     rcases hok.nf i j oi oj him (by simpa using hjm) (Ne.symm hji) hi hoj with h|h|h
     ·rw[hji1]at h;cases h
     ·rw[hij1]at h;cases h
     ·exact h
    obtain⟨g1,g2,g3,g4,g5,g6,g7⟩:=Ka hfb hy.dst;have hmv:mv=none:=by
     cases mv with
     | none=>rfl
     | some s=>
      obtain⟨-,⟨T,q1⟩,q2⟩:=hy.mvl s rfl;rcases g7 with g7|g7
      ·exact hnm g7
      ·rw[g7 T s q1]at q2;cases q2
    subst hmv;refine jE (H9 g1 g2 g3 g4 cd h1) fun F1 hF1=>?_
    obtain⟨v,-,⟨hchk,hrun⟩,u⟩:=hF1;have cd1:∀ t,(F1 t).uses d=false:=u.clean g4 cd
    have hisz:i<listed.size:=by
     rcases Nat.lt_or_ge i listed.size with h|h
     ·exact h
     ·simp[Array.getElem?_eq_none h]at hiun
    have hrd:Mp P TE ops i (eff none d v F1):=hchk i (by simp[hisz]) (by rw[aW hi];exact him) hji1;refine⟨fun p hp1 hp2 hp3=>?_,ih (listed.setIfInBounds j true) F1 none v (ready_mono hr (Ne.symm hji)) (hcl.us hok hoj hall u) (hdc.put hj) ?_ (fun _=>rfl) (by rw[Array.setIfInBounds_comm _ _ hji];exact hrun)⟩
    ·have hpi:p≠i:=fun e=>by subst e;exact unl hiun hp1
     have hpl:p<ops.size:=by
      rcases Nat.lt_or_ge p ops.size with h|h
      ·exact h
      ·rw[show cB ops p=default by simp[cB,V4,Array.getElem?_eq_none h]]at hp2
       cases hp2
     have h0:ops[p]? = some ops[p]:=T4 hpl;have hp2':=hp2;rw[aW h0]at hp2';refine MC h0 (fun hlk=>?_) cd1 (hok.differ i p oi _ d him hp2' (Ne.symm hpi) hi h0 hy.dst) (hchk p (getD_set_true hp1) hp2 hp3);have:=hok.look i p oi _ d him (Ne.symm hpi) hi h0 hy.dst hlk;exact unl hiun (hdc p _ h0 hp1 i this)
    ·obtain⟨dp,q1,q2,q3⟩:=hrd
     rw[aW hi]at q1 q2 q3;have hdp:dp=d:=by rw[hy.dst]at q1;simpa using q1.symm
     subst hdp;rw[k6]at q3;obtain⟨av',e1,e2,e3⟩:=lr q3;subst e1;have agr1:im (eff none dp av' F1) F1 (oi.looksAt ops):=ns g6 cd1;have fromv:d6 F1 (oi.looksAt ops) av':=fun e he=>by
      rcases e2 e he with h|⟨t,ht,h⟩
      ·exact .inl (fL oi e h)
      ·have htl:=fL (ops:=ops) oi t ht
       have hne:t≠dp:=fun e=>g6 (e ▸ htl)
       rw[cQ hne]at h;exact .inr ⟨t,htl,h⟩
     have hself:av'.uses dp=false:=by
      cases hu:av'.uses dp with
      | false=>rfl
      | true=>
       rcases fromv dp hu with h|⟨t,_,h⟩
       ·exact absurd h g6
       ·rw[cd1 t]at h;cases h
     refine⟨hy.dst,hy.lt,hself,fromv,fun s hs=>(by cases hs),fun F' hA hd' _ K' hK=>?_⟩;have agr2:=agr1.trans hA;unfold jL;rw[tR agr2,q2];simp only;unfold fQ eP;rw[g5,hy.dst];simp only;refine e3 F' (agr2.mono fun t ht=>fL oi t ht) _ ?_;unfold bL;rw[hy.lt,hself];show K' (put F' dp av');rw[zS av' hd'];exact hK
   rw[if_pos hjm]at h1 |-;have hap:oi.apart ops oj=true:=by
    rcases hok.apart i j oi oj him hjm (Ne.symm hji) hi hoj with h|h|h
    ·rw[noedge i oi hi hiun]at h;cases h
    ·rw[noedge' j oj hoj hjun]at h;cases h
    ·exact h
   obtain⟨ap1,ap2,ap3⟩:=Oper.apart_spec hap;have hdl:d∉oj.looksAt ops:=ap1 d hy.dst;have cdj':∀ dj,oj.dst=some dj->∀ t,(F t).uses dj=false:=fun dj hdj=>hcl.dst j oj dj hjm hoj hjun hdj
   have cmv:∀ s,mv=some s->(∀ t,(F t).uses s=false)/\s∉oj.looksAt ops/\s∈oi.looksAt ops:=fun s hs=>by
    obtain⟨g1,⟨T,g2⟩,g3⟩:=hy.mvl s hs;exact⟨hcl.mv i oi T s him hi hiun g1 g2 g3,fun hl=>hji ((fo g3).2 i j oi oj hi hoj (cG g2) hl).symm,cG g2⟩
   have cmvj:∀ T s,oj.guard=none->mj oj.op=some (T,s)->ip ops oj s=true->(∀ t,(F t).uses s=false)/\s∉oi.looksAt ops/\s∈oj.looksAt ops:=fun T s g1 g2 g3=>
    ⟨hcl.mv j oj T s hjm hoj hjun g1 g2 g3,fun hl=>hji ((fo g3).2 i j oi oj hi hoj hl (cG g2)).symm,cG g2⟩
   have avno:∀ e,e∉oi.looksAt ops->(∀ t,(F t).uses e=false)->av.uses e=false:=fun e h1 h2=>by
    cases hu:av.uses e with
    | false=>rfl
    | true=>
     rcases hy.from_ e hu with h|⟨t,_,h⟩
     ·exact absurd h h1
     ·rw[h2 t]at h;cases h
   obtain⟨mvj,dj,avj,hyj,hKj⟩:=nX h1 (fun dj hdj t=>iL (avno dj (ap3 dj hdj) (cdj' dj hdj)) (cdj' dj hdj t)) (fun T s g1 g2 g3 t=>by
     obtain⟨c1,c2,-⟩:=cmvj T s g1 g2 g3;exact iL (avno s c2 c1) (c1 t))
   have hdne:d≠dj:=fun e=>ap2 d hy.dst (by rw[hyj.dst,e])
   have hdjl:dj∉oi.looksAt ops:=ap3 dj hyj.dst;have cdj:∀ t,(F t).uses dj=false:=cdj' dj hyj.dst
   have cmj:∀ s,mvj=some s->(∀ t,(F t).uses s=false)/\s∉oi.looksAt ops/\s∈oj.looksAt ops:=fun s hs=>by
    obtain⟨g1,⟨T,g2⟩,g3⟩:=hyj.mvl s hs;exact cmvj T s g1 g2 g3
   have lookj:∀ t,t∈oj.looksAt ops->eff mv d av F t=F t:=fun t ht=>by
    unfold eff;have e1:t≠d:=fun e=>hdl (e ▸ ht)
    have e2:mv≠some t:=fun e=>(cmv t e).2.1 ht
    rw[if_neg e1,if_neg e2]
   have looki:∀ t,t∈oi.looksAt ops->eff mvj dj avj F t=F t:=fun t ht=>by
    unfold eff;have e1:t≠dj:=fun e=>hdjl (e ▸ ht)
    have e2:mvj≠some t:=fun e=>(cmj t e).2.1 ht
    rw[if_neg e1,if_neg e2]
   have avjno:∀ e,e∉oj.looksAt ops->(∀ t,(F t).uses e=false)->avj.uses e=false:=fun e h1 h2=>by
    cases hu:avj.uses e with
    | false=>rfl
    | true=>
     rcases hyj.from_ e hu with h|⟨t,ht,h⟩
     ·exact absurd h h1
     ·rw[lookj t ht,h2 t]at h;cases h
   have agrj:im (eff mv d av F) F (oj.looksAt ops):=fun t ht=>by
    rw[lookj t ht];refine⟨rfl,fun t' hu k cs hh=>?_⟩;have hne':t'≠d:=fun e=>by rw[e,cd t]at hu;cases hu
    have hnm:mv≠some t':=fun e=>by rw[(cmv t' e).1 t]at hu;cases hu
    unfold eff at hh;rw[if_neg hne',if_neg hnm]at hh;exact hh
   refine hyj.at_ F agrj cdj (fun s hs=>(cmj s hs).1) _ (ih (listed.setIfInBounds j true) (eff mvj dj avj F) mv av (ready_mono hr (Ne.symm hji)) (hcl.put (fun j' o' d' hm' hne' hj' hl' hd'=>?_) (fun j' o' T s hm' hne' hj' hl' g1 g2 g3=>?_)) (hdc.put hj) ?_ hnm ?_)
   ·refine avjno d' (fun h=>?_) (hcl.dst j' o' d' hm' hj' hl' hd')
    have:=hok.look j' j o' oj d' hm' hne' hj' hoj hd' h;rw[noedge j' o' hj' hl']at this;cases this
   ·exact avjno s (fun h=>hne' ((fo g3).2 j' j o' oj hj' hoj (cG g2) h)) (hcl.mv j' o' T s hm' hj' hl' g1 g2 g3)
   ·refine⟨hy.dst,hy.lt,hy.self,fun e he=>?_,hy.mvl,fun F' hA hd' hs' K' hK=>hy.at_ F' (fun t ht=>?_) hd' hs' K' hK⟩
    ·rcases hy.from_ e he with h|⟨t,ht,h⟩
     ·exact .inl h
     ·exact .inr ⟨t,ht,by rw[looki t ht];exact h⟩
    ·obtain⟨a1,a2⟩:=hA t ht
     rw[looki t ht]at a1 a2;refine⟨a1,fun t' hu k cs hh=>a2 t' hu k cs ?_⟩;have hne':t'≠dj:=fun e=>by rw[e,cdj t]at hu;cases hu
     have hnm:mvj≠some t':=fun e=>by rw[(cmj t' e).1 t]at hu;cases hu
     unfold eff;rw[if_neg hne',if_neg hnm];exact hh
   ·rw[Array.setIfInBounds_comm _ _ hji]
    have:eff mv d av (eff mvj dj avj F)=eff mvj dj avj (eff mv d av F):=by
     funext t
     unfold eff;by_cases e1:t=d
     ·have g1:t≠dj:=fun e=>hdne (e1.symm.trans e)
      have g2:mvj≠some t:=fun e=>hdl (e1 ▸ (cmj t e).2.2)
      simp only[if_pos e1,if_neg g1,if_neg g2]
     ·rw[if_neg e1]
      by_cases e2:t=dj
      ·have g2:mv≠some t:=fun e=>hdjl (e2 ▸ (cmv t e).2.2)
       simp only[if_pos e2,if_neg g2]
      ·simp only[if_neg e2,if_neg e1]
       by_cases e3:mv=some t
       ·by_cases e4:mvj=some t
        ·simp only[if_pos e3,if_pos e4]
        ·simp only[if_pos e3,if_neg e4]
       ·by_cases e4:mvj=some t
        ·simp only[if_neg e3,if_pos e4]
        ·simp only[if_neg e3,if_neg e4]
    rw[this];exact hKj
theorem y9:∀ {fl:List Nat} {X:Prop} {F:Nat->AV},Jj P TE ops fl X F->X/\∀ p,p∈fl->Mp P TE ops p F
 | [],X,F,h=>⟨h,fun p hp=>by cases hp⟩
 | p::l,X,F,h=>by
  simp only[Jj]at h;unfold N5 at h;cases hd:(cB ops p).dst with
  | none=>rw[hd]at h;exact h.elim
  | some d=>
   rw[hd]at h;simp only at h;cases hm:Er F (cB ops p) with
   | some q=>rw[hm]at h;exact h.elim
   | none=>
    rw[hm]at h;simp only at h;obtain⟨av,h1,-,-⟩:=lr h;obtain⟨e,hX,hall⟩:=(show av=F d/\X/\∀ p,p∈l->Mp P TE ops p F from⟨h1.out.1,y9 h1.out.2⟩)
    refine⟨hX,fun p' hp'=>?_⟩;rcases List.mem_cons.1 hp' with rfl|hp'
    ·exact⟨d,hd,hm,rA h fun av h=>h.out.1⟩
    ·exact hall p' hp'
theorem nH {l:List (Nat × List Nat)} {i:Nat} : ow l i=true↔∃ p,p∈l/\p.1=i:=by
 unfold ow;rw[Z2];exact⟨fun⟨p,h1,h2⟩=>⟨p,h1,P1 h2⟩,fun⟨p,h1,h2⟩=>⟨p,h1,by rw[h2];exact Nat.beq_refl i⟩⟩
theorem jy {k:Nat × List Nat} {l:List (Nat × List Nat)} {i:Nat} : ow (k::l) i=(Nat.beq k.1 i || ow l i):=rfl
theorem zN (hok:Nm ops ds nm) {K:(Nat->AV)->Prop} : ∀ (l:List (Nat × List Nat)) (listed:Array Bool) (F:Nat->AV),B9 ops ds l=true->listed.size=ops.size->(∀ j,j<ops.size->listed.getD j true = !ow l j)->kJ ops ds F listed->DC ops listed->
  G5 P TE N ops ds nm l K F->AS P TE N ops ds K l.length listed F
 | [],listed,F,_,hs,hli,_,_,hp=>by
  refine⟨?_,hp⟩;apply List.eq_nil_iff_forall_not_mem.2;intro j hj;obtain⟨h1,o,ho,-⟩:=mem_ready.1 hj;have hlt:=(R2.1 ho).1;rw[hli j hlt]at h1;cases h1
 | k::l,listed,F,hsch,hs,hli,hcl,hdc,hp=>by
  simp only[B9,I0]at hsch;obtain⟨⟨⟨⟨q1,q2⟩,q3⟩,q4⟩,q5⟩:=hsch;have hk:k.1<ops.size:=by simpa[Nat.blt_eq] using q1
  have h0:ops[k.1]? = some ops[k.1]:=T4 hk;have hrf:∀ i,i<ops.size->listed.getD i true=true->listed.getD i false=true:=fun i hi h=>by
   have h2:i<listed.size:=by omega
   simp[h2]at h |-;exact h
  have hready:k.1∈Region.ready .any ops listed:=mem_ready.2 ⟨by rw[hli k.1 hk,jy,Nat.beq_refl];rfl,_,h0,fun e he hb=>by
    have hlt:=hok.back k.1 _ h0 e he hb;have hx:=q3;rw[aW h0]at hx;have h3:=v3.1 hx e (by simpa using he);rw[hb]at h3;refine hrf e.on (by omega) ?_;rw[hli e.on (by omega),jy];simpa using h3⟩
  have hli':∀ j,j<ops.size->(listed.setIfInBounds k.1 true).getD j true = !ow l j:=fun j hj=>by
   by_cases hjk:j=k.1
   ·subst hjk
    have:ow l k.1=false:=by simpa using q2
    rw[this];simp[hs,hj]
   ·rw[getD_set_ne true (Ne.symm hjk),hli j hj,jy,show Nat.beq k.1 j=false by rw[<-t4,Nat.beq_eq];exact Ne.symm hjk];rfl
  show AS P TE N ops ds K (l.length+1) listed F;simp only[G5]at hp;rw[aW h0]at hp q4;have hun:listed.getD k.1 true=false:=(mem_ready.1 hready).1;cases hfr:mD ds ops[k.1] with
  | true=>
   rw[hfr]at hp;simp only[cond_true]at hp;obtain⟨mv,d,av,hy,hp,hnm⟩:=G6 hp (fun d hd=>hcl.dst k.1 _ d hfr h0 hun hd) (fun T s g1 g2 g3=>hcl.mv k.1 _ T s hfr h0 hun g1 g2 g3);have hall:∀ e∈ops[k.1].after,Region.binds .any e=true->listed.getD e.on false=true:=by
    obtain⟨-,o',ho',hall⟩:=mem_ready.1 hready;rw[h0]at ho';simp only[T0]at ho';subst ho';exact hall
   refine Ep hok h0 hfr l.length listed F mv av hready hcl hdc hy hnm (zN hok l _ _ q5 (by simpa using hs) hli' (hcl.put (fun j' o' d' hm' hne' hj' hl'' hd'=>?_) (fun j' o' T s hm' hne' hj' hl'' g1 g2 g3=>?_)) (hdc.put hready) hp)
   ·cases hu:av.uses d' with
    | false=>rfl
    | true=>
     rcases hy.from_ d' hu with h|⟨t,_,h⟩
     ·have:=hok.look j' k.1 o' _ d' hm' hne' hj' h0 hd' h
      obtain⟨e,he1,he2,he3⟩:=bV.1 this;exact(unl hl'' (he3 ▸ hall e he1 he2)).elim
     ·rw[hcl.dst j' o' d' hm' hj' hl'' hd' t]at h;cases h
   ·cases hu:av.uses s with
    | false=>rfl
    | true=>
     rcases hy.from_ s hu with h|⟨t,_,h⟩
     ·exact absurd ((fo g3).2 j' k.1 o' _ hj' h0 (cG g2) h) hne'
     ·rw[hcl.mv j' o' T s hm' hj' hl'' g1 g2 g3 t]at h;cases h
  | false=>
   rw[hfr]at hp q4;simp only[cond_false]at hp;simp only[Bool.false_or,I0]at q4;obtain⟨⟨r1,r2⟩,r3⟩:=q4;refine⟨fun h=>(by rw[h]at hready;cases hready),fun j hj=>?_⟩;obtain⟨hjun,oj,hoj,hall⟩:=mem_ready.1 hj;have hjlt:=(R2.1 hoj).1;have hjk:j=k.1:=by
    rw[hli j hjlt,jy]at hjun;cases hb:Nat.beq k.1 j with
    | true=>exact(P1 hb).symm
    | false=>
     rw[hb]at hjun;obtain⟨p,hp1,rfl⟩:=nH.1 (show ow l j=true by simpa using hjun);exact(unl hun (nh hok hdc hoj hall (v3.1 r1 p hp1))).elim
   subst hjk;rw[h0]at hoj;simp only[T0]at hoj;subst hoj;unfold sM;rw[h0];simp only[hfr,if_neg (show ¬false=true by decide)];have post:∀ F1,Jj P TE ops k.2 (G5 P TE N ops ds nm l K F1) F1->kJ ops ds F1 (listed.setIfInBounds k.1 true)->(∀ p,listed.getD p false=true->mD ds (cB ops p)=true->t7 ops k.1 p=false->Mp P TE ops p F1)/\AS P TE N ops ds K l.length (listed.setIfInBounds k.1 true) F1:=fun F1 hch hcl1=>by
    obtain⟨hrun,hrd⟩:=y9 hch;refine⟨fun p hp1 hp2 hp3=>hrd p ?_,zN hok l _ _ q5 (by simpa using hs) hli' hcl1 (hdc.put hready) hrun⟩;have hpl:p<ops.size:=by
     rcases Nat.lt_or_ge p ops.size with h|h
     ·exact h
     ·rw[show cB ops p=default by simp[cB,V4,Array.getElem?_eq_none h]]at hp2
      cases hp2
    have h4:=fR r2 hpl;rw[hp2,hp3]at h4;have hml:ow l p=false:=by
     rw[<-t4];intro hm;have:listed.getD p true=false:=by rw[hli p hpl,jy,hm];simp
     exact unl this hp1
    rw[hml]at h4;simp only[Bool.not_true,Bool.false_or]at h4;obtain⟨x,hx1,hx2⟩:=Z2.1 h4;exact P1 hx2 ▸ hx1
   cases hlater:l.any (fun j=>mD ds (cB ops j.1)) with
   | false=>
    refine jE hp fun F1 hch=>post F1 hch ⟨fun j' o' d' hm' hj' hl'' hd'=>?_,fun j' o' T s hm' hj' hl''=>?_⟩
    all_goals
     exfalso;have hj'lt:=(R2.1 hj').1;rw[hli' j' hj'lt]at hl'';obtain⟨p,hp1,rfl⟩:=nH.1 (show ow l j'=true by simpa using hl'');have:l.any (fun j=>mD ds (cB ops j.1))=true:=Z2.2 ⟨p,hp1,by rw[aW hj'];exact hm'⟩;rw[this]at hlater;cases hlater
   | true=>
    rw[hlater]at r3;simp only[Bool.not_true,Bool.false_or,I0]at r3;obtain⟨x,hx1,hx2⟩:=Z2.1 hlater;have hxun:listed.getD x.1 true=false/\x.1<ops.size:=by
     have hlt:x.1<ops.size:=by
      rcases Nat.lt_or_ge x.1 ops.size with h|h
      ·exact h
      ·rw[show cB ops x.1=default by simp[cB,V4,Array.getElem?_eq_none h]]at hx2
       cases hx2
     refine⟨?_,hlt⟩;rw[hli x.1 hlt,jy,nH.2 ⟨x,hx1,rfl⟩];simp
    have hx0:ops[x.1]? = some ops[x.1]:=T4 hxun.2;rw[aW hx0]at hx2;obtain⟨d,hd,hdd⟩:=FQ hx2;have hxk:x.1≠k.1:=fun e=>by
     have:ow l k.1=true:=nH.2 ⟨x,hx1,e⟩;rw[this]at q2;cases q2
    refine jE (LB (d:=d) (uO r3.1) r3.2 (fun e=>?_) (fun hlk=>?_) (hcl.dst x.1 _ d hx2 hx0 hxun.1 hd) hp) fun F1 h1=>post F1 h1.1 (hcl.us hok h0 hall h1.2)
    ·unfold mD at hfr
     rw[e]at hfr;simp only at hfr;rw[hdd]at hfr;cases hfr
    ·have:=hok.look x.1 k.1 _ _ d hx2 hxk hx0 h0 hd hlk
     obtain⟨e,he1,he2,he3⟩:=bV.1 this;exact unl hxun.1 (he3 ▸ hall e he1 he2)
theorem Af {sch:List (Nat × List Nat)} (h:zY ops ds sch=true):Nm ops ds (NC sch)/\B9 ops ds sch=true/\sch.length=ops.size/\∀ j,j<ops.size->ow sch j=true:=by
 unfold zY at h;simp only[I0]at h;obtain⟨⟨hb0,hlen⟩,hsch⟩:=h;have hb:=fun j (hj:j<ops.size)=>fR hb0 hj
 have pr:∀ (i j:Nat) (oi oj:Oper),i≠j->ops[i]? = some oi->ops[j]? = some oj->xJ ops ds (NC sch) i j=true:=fun i j oi oj hne h1 h2=>by
  have:=hb j (R2.1 h2).1;simp only[I0]at this;have:=fR this.2 (R2.1 h1).1;rw[show Nat.beq i j=false by rw[<-t4,Nat.beq_eq];exact hne]at this;exact this
 refine⟨⟨fun j oj hj e he hbe=>?_,fun i j oi oj f1 f2 hne h1 h2=>?_,fun i j oi oj d f1 hne h1 h2 hd hl=>?_,fun i j oi oj d f1 f2 hne h1 h2 hd he=>?_,fun i j oi oj f1 f2 hne h1 h2=>?_,fun j oj T s f1 hj hmo hso=>?_⟩,hsch,P1 hlen,fun j hj=>?_⟩
 ·have:=hb j (R2.1 hj).1
  rw[aW hj]at this;simp only[I0]at this;have:=v3.1 this.1.1.1 e (by simpa using he);rw[hbe]at this;simpa[Nat.blt_eq] using this
 ·have:=pr i j oi oj hne h1 h2
  unfold xJ at this;rw[aW h1,aW h2,f1,f2]at this;simp only[cond_true,I0,R4]at this;rcases this.1.1 with(h|h)|h
  ·exact .inl h
  ·exact .inr (.inl h)
  ·exact .inr (.inr h)
 ·have:=pr i j oi oj hne h1 h2
  unfold xJ at this;rw[aW h1,aW h2,f1]at this;have hlk:rX ops i j=true:=by
   unfold rX;rw[aW h1,hd];simp only;rw[aW h2];exact Z2.2 ⟨d,hl,Nat.beq_refl d⟩
  rw[hlk]at this;cases f2:mD ds oj with
  | true=>
   rw[f2]at this;simp only[cond_true,I0,Bool.not_true,Bool.false_or]at this;exact this.1.2
  | false=>
   rw[f2]at this;simp only[cond_true,cond_false,I0,Bool.not_true,Bool.false_or]at this;exact this.2
 ·have:=pr i j oi oj hne h1 h2
  unfold xJ at this;rw[aW h1,aW h2,f1,f2,hd,he]at this;simp[Nat.beq_refl]at this
 ·have:=pr i j oi oj hne h1 h2
  unfold xJ at this;rw[aW h1,aW h2,f1,f2]at this;simp only[cond_true,cond_false,I0,R4]at this;rcases this.1 with(h|h)|h
  ·exact .inl h
  ·exact .inr (.inl h)
  ·exact .inr (.inr h)
 ·have:=hb j (R2.1 hj).1
  rw[aW hj]at this;simp only[I0]at this;have:=this.1.2;rw[f1,hmo]at this;simp only[hso,Bool.not_true,Bool.false_or]at this;exact this
 ·have:=hb j hj
  simp only[I0]at this;exact this.1.1.2
theorem nP {l:List Nat} {j:Nat} : yX l j=true↔j∈l:=by
 unfold yX;rw[Z2];exact⟨fun⟨x,h1,h2⟩=>P1 h2 ▸ h1,fun h=>⟨j,h,Nat.beq_refl j⟩⟩
theorem Bo {p:Nat->Prop} : ∀ {l:List Nat} {i:Nat},NM p i l->∀ j,j∈i::l->p j
 | [],i,h,j,hj=>by rw[X0.1 hj];exact h
 | k::l,i,h,j,hj=>by
  rcases List.mem_cons.1 hj with rfl|hj
  ·exact h.1
  ·exact Bo h.2 j hj
theorem AO {l:List Nat} {K:Prop} {p:Nat->Prop} (h:NE l K p):(l=[]->K)/\∀ j∈l,p j:=by
 cases l with
 | nil=>exact⟨fun _=>h,fun j hj=>by cases hj⟩
 | cons i l=>exact⟨fun e=>(by cases e),Bo h⟩
theorem oZ {listed:Array Bool} {done:List Nat} (hs:listed.size=ops.size) (hli:∀ j,j<ops.size->listed.getD j true=yX done j) (hb:∀ k∈done,k<ops.size) {j:Nat} : j∈Region.ready .any ops listed↔j∈HL ops done:=by
 have hrf:∀ i,listed.getD i false=yX done i:=fun i=>by
  by_cases hi:i<ops.size
  ·rw[<-hli i hi]
   have h2:i<listed.size:=by omega
   simp[h2]
  ·have h2:listed.getD i false=false:=by simp[Array.getElem?_eq_none (show listed.size<=i by omega)]
   rw[h2]
   symm
   rw[<-t4,nP];exact fun hm=>hi (hb i hm)
 rw[mem_ready];unfold HL;rw[P3,List.mem_range,I0];constructor
 ·rintro⟨h1,o,ho,hall⟩
  have hlt:=(R2.1 ho).1;refine⟨hlt,by rw[<-hli j hlt,h1];rfl,v3.2 fun e he=>?_⟩;rw[aW ho]at he;cases hbe:Region.binds .any e with
  | false=>rfl
  | true=>
   have:=hall e (by simpa using he) hbe;rw[hrf]at this;simpa using this
 ·rintro⟨hlt,h1,h2⟩
  refine⟨by rw[hli j hlt];simpa using h1,ops[j],T4 hlt,fun e he hbe=>?_⟩;have:=v3.1 h2 e (by rw[aW (T4 hlt)];simpa using he);rw[hbe]at this;rw[hrf];simpa using this
theorem Mb {K:(Nat->AV)->Prop} : ∀ (n:Nat) (done:List Nat) (listed:Array Bool) (F:Nat->AV),listed.size=ops.size->(∀ j,j<ops.size->listed.getD j true=yX done j)->(∀ k∈done,k<ops.size)->MK P TE N ops K n done F->AS P TE N ops [] K n listed F
 | 0,done,listed,F,hs,hli,hb,h=>by
  obtain⟨h1,h2⟩:=AO h;have he:HL ops done=[]:=List.eq_nil_iff_forall_not_mem.2 fun j hj=>h2 j hj
  exact⟨List.eq_nil_iff_forall_not_mem.2 fun j hj=>(by rw[oZ hs hli hb,he]at hj;cases hj),h1 he⟩
 | n+1,done,listed,F,hs,hli,hb,h=>by
  obtain⟨h1,h2⟩:=AO h;refine⟨fun he=>h1 (List.eq_nil_iff_forall_not_mem.2 fun j hj=>(by rw[<-oZ hs hli hb,he]at hj;cases hj)),fun i hi=>?_⟩;have hi':=(oZ hs hli hb).1 hi;have h3:=h2 i hi';have hlt:i<ops.size:=List.mem_range.1 (P3.1 hi').1;have h0:ops[i]? = some ops[i]:=T4 hlt;unfold sM;rw[h0];simp only;rw[aW h0]at h3;have hf:mD [] ops[i]=false:=by unfold mD;split<;>rfl
  rw[if_neg (by rw[hf];decide)];refine jE h3 fun F1 hF=>⟨fun p _ hp=>?_,Mb n (i::done) _ F1 (by simpa using hs) (fun j hj=>?_) (fun k hk=>?_) hF⟩
  ·have:mD [] (cB ops p)=false:=by unfold mD;split<;>rfl
   rw[this]at hp;cases hp
  ·by_cases e:j=i
   ·subst e
    rw[show yX (j::done) j=true from nP.2 (I1 ..)];simp[hs,hj]
   ·rw[getD_set_ne true (Ne.symm e),hli j hj]
    rw[U3,nP,nP,List.mem_cons];exact⟨.inr,fun h=>h.resolve_left e⟩
  ·rcases List.mem_cons.1 hk with rfl|hk
   ·exact hlt
   ·exact hb k hk
theorem vt (hTE:∀ t i,TE t=some i->bY P t i) (hm:P.follows .mixedOrders=true) {id:Nat} {tb:List (Nat × Nat × List Nat)} (hok:ma tb id ops=true) {K:(Nat->AV)->Prop} {Q:Exit->Act->World->Prop} (hp:DD P TE N tb id ops K F) (hs:St w0 M S0 N F a w)
  (hq:∀ F' a' w',K F'->St w0 M S0 N F' a' w'->Q .normal a' w'):(Code.region id ops true).wp P Q a w:=by
 unfold ma at hok;unfold DD at hp;cases htb:vN tb id with
 | none=>rw[htb]at hok;cases hok
 | some p=>
  obtain⟨m,L⟩:=p;rw[htb]at hok hp;simp only at hok hp;cases hm3:Nat.ble 65536 m with
  | true=>
   rw[hm3]at hp;refine wp_region_any hm ?_;have hs':St w0 M S0 N F a {w with drawn:=w.drawn+1}:=by
    obtain⟨S,φ,h⟩:=hs;exact⟨S,φ,h.more (w1:={w with drawn:=w.drawn+1}) (fun _ _ h=>h) (fun _ _ h=>.inl h) ⟨rfl,rfl,rfl,I2 _,fun _ _ _=>rfl,fun _ _ _ _=>rfl,fun _ _ _ _=>rfl⟩⟩
   refine pG hTE (ds:=[]) hq ops.size (Array.replicate ops.size false) _ a _ ?_ hs';exact Mb ops.size [] _ F (by simp) (fun j hj=>by simp[hj,yX]) (fun k hk=>by cases hk) hp
  | false=>
  rw[hm3]at hok hp;simp only[cond_false]at hok hp;cases hm2:Nat.ble 256 m with
  | false=>
   rw[hm2]at hok hp;exact zv hTE hm hok hp hs hq
  | true=>
   rw[hm2]at hok hp;simp only[cond_true,Fc]at hok hp;generalize L.take (m - 256)=ds at hok hp;generalize dec (L.drop (m - 256))=sch at hok hp;obtain⟨hn,hsch,hlen,hmem⟩:=Af hok;refine wp_region_any hm ?_;have hs':St w0 M S0 N (Ab.clr ds F) a {w with drawn:=w.drawn+1}:=by
    have h1:=hs.clr ds;obtain⟨S,φ,h⟩:=h1;exact⟨S,φ,h.more (w1:={w with drawn:=w.drawn+1}) (fun _ _ h=>h) (fun _ _ h=>.inl h) ⟨rfl,rfl,rfl,I2 _,fun _ _ _=>rfl,fun _ _ _ _=>rfl,fun _ _ _ _=>rfl⟩⟩
   refine pG hTE (ds:=ds) hq ops.size (Array.replicate ops.size false) _ a _ ?_ hs';have hcl:∀ d,ds.any (Nat.beq d)=true->∀ t,(Ab.clr ds F t).uses d=false:=fun d hd t=>by
    rw[Aq];cases hb:ds.any (fun d=>(F t).uses d) with
    | true=>rfl
    | false=>
     simp only[cond_false];cases hu:(F t).uses d with
     | false=>rfl
     | true=>
      obtain⟨d',hd',he⟩:=Z2.1 hd;have he':=P1 he;subst he';have:ds.any (fun d=>(F t).uses d)=true:=Z2.2 ⟨_,hd',hu⟩;rw[this]at hb;cases hb
   rw[<-hlen];refine zN hn sch _ _ hsch (by simp[hlen]) (fun j hj=>by rw[hmem j hj];simp[hlen,hj]) ⟨fun j o d f1 ho _ hd t=>?_,fun j o T s f1 ho _ _ g2 g3 t=>hcl s (hn.mvs j o T s f1 ho g2 g3) t⟩ (fun j oj hj hl=>by
     have hlt:=(R2.1 hj).1;simp[hlen,hlt]at hl) hp
   obtain⟨d',hd',hdd⟩:=FQ f1;rw[hd]at hd';simp only[T0]at hd';subst hd';exact hcl d hdd t
end
def iY:List (Option Nat)->Kd
 | [ag]=>jY ag
 | sh=>.tup sh
def n8:ResultVar->Nat
 | .tmp t=>t
 | .cell t _=>t
def D5 (tmps:Array Value):ResultVar->Sem Value
 | .tmp t=>pure (tmps.getD t undef)
 | .cell a t=>do loadVar t (<-asAddr (tmps.getD a undef))
def resOne (TE:Nat->Option TI) (F:Nat->AV) (r:ResultVar) (K:Option Nat->List C->Prop):Prop:=
 match r with
 | .tmp t=>(match F t with
   | .hold .one cs=>K none cs
   | .hold .agg cs=>K (some cs.length) cs
   | _=>False)
 | .cell t T=>match TE T with
  | some i=>bif i.agg || Nat.beq i.size 1 then(match F t with
    | .hold .box cs=>bif Nat.beq cs.length i.size then K (ot i) cs else False
    | _=>False) else False
  | none=>False
def resA (TE:Nat->Option TI) (F:Nat->AV):List ResultVar->List Nat->(List (Option Nat)->List C->Prop)->Prop
 | [],_,K=>K [] []
 | r::rs,seen,K=>bif seen.any (Nat.beq (n8 r)) then False else resOne TE F r fun ag cs=>resA TE F rs (n8 r::seen) fun sh cs'=>K (ag::sh) (cs++cs')
def NR:RA->AV
 | .val ag cs=>.hold (jY ag) cs
 | .ptr cs=>.iref cs 0
 | .fn Ok=>.fv Ok
def tz:Nat->List RA->List (Nat × AV)
 | _,[]=>[]
 | i,A::As=>(i,NR A)::tz (i+1) As
inductive Hr:C->C->Prop
 |rfl_ (c:C):Hr c c
 |z_:Hr .z (.s .own [])
 |own_ (rows rows':List (List C)) (hl:rows.length=rows'.length) (hk:∀ (i:Nat) (r r':List C),rows[i]? = some r->rows'[i]? = some r'->r.length=r'.length)
   (hr:∀ (i j:Nat) (r r':List C) (c c':C),rows[i]? = some r->rows'[i]? = some r'->r[j]? = some c->r'[j]? = some c'->Hr c c'):Hr (.s .own rows) (.s .own rows')
def H5 (cs cs':List C):Prop:=cs.length=cs'.length/\∀ (j:Nat) (c c':C),cs[j]? = some c->cs'[j]? = some c'->Hr c c'
theorem H5.nil:H5 [] []:=⟨rfl,fun j c c' h=>by simp at h⟩
theorem H5.cons {c c':C} {cs cs':List C} (h:Hr c c') (hs:H5 cs cs'):H5 (c::cs) (c'::cs'):=by
 refine⟨by simp[hs.1],fun j y y' h1 h2=>?_⟩;cases j with
 | zero=>simp at h1 h2;subst h1 h2;exact h
 | succ j=>exact hs.2 j y y' (by simpa using h1) (by simpa using h2)
theorem Hr.rep {n:Nat} {r r':List C} (h:H5 r r'):Hr (.s .own (List.replicate n r)) (.s .own (List.replicate n r')):=by
 refine .own_ _ _ (by simp) (fun i a b h1 h2=>?_) (fun i j a b c c' h1 h2 h3 h4=>?_)
 ·have e1:=List.mem_replicate.1 (O1 h1)
  have e2:=List.mem_replicate.1 (O1 h2);rw[e1.2,e2.2];exact h.1
 ·have e1:=List.mem_replicate.1 (O1 h1)
  have e2:=List.mem_replicate.1 (O1 h2);rw[e1.2]at h3;rw[e2.2]at h4;exact h.2 j c c' h3 h4
theorem L9 {w:World} {S Y:ac} {c:C} {v:Value} (h:dP w S Y c v):∀ c',Hr c c'->dP w S Y c' v:=by
 induction h with
 | z F a=>
  intro c' hd;cases hd with
  | rfl_=>exact .z _ _
  | z_=>exact .nil _ _ _ trivial
 | nil F o a ho=>
  intro c' hd;cases hd with
  | rfl_=>exact .nil _ _ _ ho
  | own_ rows rows' hl=>obtain rfl:rows'=[]:=z5 (by simpa using hl.symm);exact .nil _ _ _ trivial
 | own F o g k n cap rows u f ho hn hk hcap hpos hF hu hf hd hc ih=>
  intro c' hd';cases hd' with
  | rfl_=>exact .own _ o g k n cap rows u f ho hn hk hcap hpos hF hu hf hd hc
  | own_ rows rows' hl hk2 hr=>
   have hrow:∀ (i:Nat) (r':List C),rows'[i]? = some r'->∃ r,rows[i]? = some r:=fun i r' hi=>⟨_,Q1 (by have:=(R1.1 hi).1;omega)⟩
   refine .own _ .own g k n cap rows' u f trivial (hl.symm.trans hn) (fun r' hr'=>?_) hcap hpos hF hu hf hd (fun i j r' c' hi hj=>?_)
   ·obtain⟨i,hi⟩:=List.mem_iff_getElem?.1 hr'
    obtain⟨r,hri⟩:=hrow i r' hi;rw[<-hk2 i r r' hri hi];exact hk r (O1 hri)
   ·obtain⟨r,hri⟩:=hrow i r' hi
    have hlen:=hk2 i r r' hri hi;have hjl:=(R1.1 hj).1;have hcj:r[j]? = some (r[j]'(by omega)):=Q1 (by omega);exact ih i j r _ hri hcj _ (hr i j r r' _ c' hri hi hcj hj)
 | v F x h1=>intro c' hd;cases hd;exact .v _ _ h1
 | x F u h1=>intro c' hd;cases hd;exact .x _ _ h1
 | imm F g off k n cap rows u hn hk hcap hS hc ih=>intro c' hd;cases hd;exact .imm _ g off k n cap rows u hn hk hcap hS hc
 | m F b clock es ents hF hb he hv hst=>intro c' hd;cases hd;exact .m _ b clock es ents hF hb he hv hst
 | it F r b since c0 clock seen ents cur left hF hr hb hst hc hv hl hcur=>intro c' hd;cases hd;exact .it _ r b since c0 clock seen ents cur left hF hr hb hst hc hv hl hcur
def WK (cs cs':List C):Prop:=Jm cs cs'\/H5 cs cs'
inductive iW (k k':Kd) (cs cs':List C):Prop
 |mk_ (h:k=k'/\WK cs cs')
theorem lf:∀ (cs:List C),Jm cs cs
 | []=>trivial
 | c::cs=>by
  refine⟨?_,lf cs⟩;cases c with
  | s o rows=>cases o<;>rfl
  | x=>trivial
  | _=>rfl
theorem iW.mk {k k':Kd} {cs cs':List C} (h1:k=k') (h2:cs=cs'):iW k k' cs cs':=by refine .mk_ ?_;exact⟨h1,.inl (h2 ▸ lf cs)⟩
theorem iW.wk {k k':Kd} {cs cs':List C} (h1:k=k') (h2:Jm cs cs'):iW k k' cs cs':=.mk_ ⟨h1,.inl h2⟩
theorem iW.dk {k k':Kd} {cs cs':List C} (h1:k=k') (h2:H5 cs cs'):iW k k' cs cs':=.mk_ ⟨h1,.inr h2⟩
theorem iW.out {k k':Kd} {cs cs':List C} (h:iW k k' cs cs'):k=k'/\WK cs cs':=by obtain⟨h⟩:=h;exact h
theorem WK.len {cs cs':List C} (h:WK cs cs'):cs.length=cs'.length:=h.elim (fun h=>(qS h).1) (fun h=>h.1)
theorem WK.row {w:World} {S Y:ac} {cs cs':List C} {u:Nat->Value} (hc:WK cs cs') (h:cF w S Y cs u):cF w S Y cs' u:=by
 rcases hc with hc|hc
 ·exact zl hc h
 ·obtain⟨f,h1,h2,h3⟩:=h
  refine⟨f,fun j c' hj=>?_,fun j hj=>h2 j (by rw[hc.1];exact hj),fun j j' hj hj'=>h3 j j' (by rw[hc.1];exact hj) (by rw[hc.1];exact hj')⟩;have hjl:=(R1.1 hj).1;have hcj:cs[j]? = some (cs[j]'(by rw[hc.1];exact hjl)):=Q1 (by rw[hc.1];exact hjl);exact L9 (h1 j _ hcj) c' (hc.2 j _ c' hcj hj)
def Lr (TE:Nat->Option TI) (rs:List ResultVar) (k:Kd) (rcs:List C):Exit->(Nat->AV)->Prop:=fun e F=>
 match e with
 | .normal=>resA TE F rs [] fun sh cs=>iW (iY sh) k cs rcs
 | .ret=>resA TE F rs [] fun sh cs=>iW (iY sh) k cs rcs
 | _=>False
def LG (F:Nat->AV) (t:Nat) (rcs:List C):Prop:=
 match F t with
 | .hold .box cs=>iW .box .box cs rcs
 | .ref t1 0 []=>(match F t1 with
   | .hold .box cs=>iW .box .box cs rcs
   | _=>False)
 | _=>False
def Nv (t:Nat) (rcs:List C):Exit->(Nat->AV)->Prop:=fun e F=>
 match e with
 | .normal=>LG F t rcs
 | .ret=>LG F t rcs
 | _=>False
section
variable {P:Program} {w0 w w1:World} {M S0 S:ac} {N:eL} {φ:Nat->ac} {F:Nat->AV} {a:Act} {TE:Nat->Option TI}
theorem bh.resOne (h:bh w0 M S0 N S φ F a w) (hTE:∀ t i,TE t=some i->bY P t i) {r:ResultVar} {K:Option Nat->List C->Prop} (hp:resOne TE F r K) :
  ∃ ag cs v,K ag cs/\bN w S (φ (n8 r)) ag cs v/\(D5 a.tmps r).run P w=.ok v w:=by
 cases r with
 | tmp t=>
  have hs:=h.slot t;simp only[Ab.resOne]at hp;cases hF:F t with
  | hold k cs=>
   rw[hF]at hp hs;obtain⟨X1,Y,h1,h2,h3,h4,h5⟩:=hs;cases k with
   | one=>exact⟨none,cs,tvs a t,hp,⟨h4,_,rfl,h5.mono (fun _ _ h=>h) h2⟩,rfl⟩
   | agg=>
    obtain⟨arr,hv,hsz⟩:=h4;refine⟨some cs.length,cs,tvs a t,hp,⟨rfl,bS w .agg (tvs a t),?_,h5.mono (fun _ _ h=>h) h2⟩,rfl⟩;rw[hv];have:=oq arr;rw[hsz]at this;exact this
   | _=>exact hp.elim
  | _=>rw[hF]at hp;exact hp.elim
 | cell t T=>
  have hs:=h.slot t;simp only[Ab.resOne]at hp;split at hp
  case h_2=>exact hp.elim
  rename_i i hT;have ht:=hTE _ _ hT;cases ha:(i.agg || Nat.beq i.size 1) with
  | false=>rw[ha]at hp;exact hp.elim
  | true=>
   rw[ha]at hp;simp only[cond_true]at hp;cases hF:F t with
   | hold k cs=>
    rw[hF]at hp hs;cases k with
    | box=>
     simp only at hp;cases hl:Nat.beq cs.length i.size with
     | false=>rw[hl]at hp;exact hp.elim
     | true=>
      rw[hl]at hp;have hl':=P1 hl;obtain⟨X1,Y,h1,h2,h3,⟨g,o,hv,hb⟩,h5⟩:=hs;have hcell:∀ d,d<i.size->cel w g (o+d)=some (bS w .box (tvs a t) d):=fun d hd=>by
       obtain⟨-,⟨z,hz⟩,-⟩:=hb d (by omega);rw[hv];simp only[bS,hz,Option.getD_some]
      have hrun:=ur (w:=w) ht ha hcell;refine⟨_,cs,_,hp,⟨by rw[mE ha];exact hl',_,rfl,h5.mono (fun _ _ h=>h) h2⟩,?_⟩;have hv':a.tmps.getD t undef=.pointer (some ⟨g,o,none⟩):=hv;simp only[D5,hv',asAddr];exact hrun
    | _=>exact hp.elim
   | _=>rw[hF]at hp;exact hp.elim
theorem Et {ag:Option Nat} {cs:List C} {v:Value} {Y:ac} (h:bN w S Y ag cs v):∃ u,v.cells.toList=(List.range cs.length).map u/\cF w S Y cs u/\v=mkv ag u:=by
 obtain⟨hl,u,rfl,hr⟩:=h;refine⟨u,?_,hr,rfl⟩;rw[nJ (fun e=>by subst e;exact hr.one (by simp at hl;omega)),hl]
theorem DX {Y1 Y2:ac} {cs cs':List C} {u u':Nat->Value} (h:cF w S Y1 cs u) (h':cF w S Y2 cs' u') (hd:∀ b o,Y1 b o->¬Y2 b o) :
  cF w S (fun b o=>Y1 b o\/Y2 b o) (cs++cs') (fun j=>if j<cs.length then u j else u' (j - cs.length)):=by
 obtain⟨f,h1,h2,h3⟩:=h;obtain⟨f',h1',h2',h3'⟩:=h';refine⟨fun j=>if j<cs.length then f j else f' (j - cs.length),fun j c hj=>?_,fun j hj b o hb=>?_,fun j j' hj hj' hne b o hb hb'=>?_⟩
 ·by_cases hl:j<cs.length
  ·simp only[if_pos hl];rw[Q3 hl]at hj;exact h1 j c hj
  ·simp only[if_neg hl];rw[R3 (by omega)]at hj;exact h1' _ c hj
 ·rw[P2]at hj
  by_cases hl:j<cs.length
  ·rw[if_pos hl]at hb;exact .inl (h2 j hl b o hb)
  ·rw[if_neg hl]at hb;exact .inr (h2' _ (by omega) b o hb)
 ·rw[P2]at hj hj'
  by_cases hl:j<cs.length
  ·rw[if_pos hl]at hb
   by_cases hl':j'<cs.length
   ·rw[if_pos hl']at hb';exact h3 j j' hl hl' hne b o hb hb'
   ·rw[if_neg hl']at hb';exact hd b o (h2 j hl b o hb) (h2' _ (by omega) b o hb')
  ·rw[if_neg hl]at hb
   by_cases hl':j'<cs.length
   ·rw[if_pos hl']at hb';exact hd b o (h2 j' hl' b o hb') (h2' _ (by omega) b o hb)
   ·rw[if_neg hl']at hb';exact h3' _ _ (by omega) (by omega) (by omega) b o hb hb'
theorem bh.resA (h:bh w0 M S0 N S φ F a w) (hTE:∀ t i,TE t=some i->bY P t i):∀ {rs:List ResultVar} {seen:List Nat} {K:List (Option Nat)->List C->Prop},resA TE F rs seen K->
  ∃ sh cs vs u,K sh cs/\(rs.mapM (D5 a.tmps)).run P w=.ok vs w/\vC sh vs/\sh.length=rs.length/\oN sh=cs.length/\
   (vs.flatMap fun v=>v.cells.toList)=(List.range cs.length).map u/\(∀ ag,sh=[ag]->∃ v,vs=[v]/\bN w S (fun b o=>∃ t,t∉seen/\φ t b o) ag cs v)/\cF w S (fun b o=>∃ t,t∉seen/\φ t b o) cs u
 | [],seen,K,hp=>⟨[],[],[],fun _=>undef,hp,rfl,trivial,rfl,rfl,rfl,fun _ h=>by simp at h,cF.nil _ _ _ _⟩
 | r::rs,seen,K,hp=>by
  simp only[Ab.resA]at hp;cases hseen:seen.any (Nat.beq (n8 r)) with
  | true=>rw[hseen]at hp;exact hp.elim
  | false=>
   rw[hseen]at hp;simp only[cond_false]at hp;have hns:n8 r∉seen:=fun hm=>by
    have:seen.any (Nat.beq (n8 r))=true:=Z2.2 ⟨_,hm,Nat.beq_refl _⟩;rw[this]at hseen;cases hseen
   obtain⟨ag,cs,v,hp,hv,hrun⟩:=h.resOne hTE hp;obtain⟨sh,cs',vs,u',hK,hrun',hT,hln,hL,hcells,-,hrow⟩:=bh.resA h hTE hp;obtain⟨u,hcv,hr,hmk⟩:=Et hv;have hd:∀ b o,φ (n8 r) b o->¬∃ t,t∉n8 r::seen/\φ t b o:=fun b o hb ⟨t,ht,hb'⟩=>h.dis _ _ (fun e=>ht (by rw[<-e];simp)) b o hb hb'
   refine⟨ag::sh,cs++cs',v::vs,fun j=>if j<cs.length then u j else u' (j - cs.length),hK,?_,?_,by simp[hln],?_,?_,?_,?_⟩
   ·rw[List.mapM_cons]
    simp only[Sem.run_bind,hrun,Result.andThen_ok,hrun',Sem.run_pure]
   ·obtain⟨hl,-⟩:=hv
    cases ag with
    | none=>
     refine⟨?_,hT⟩;rw[hmk];have h1:(u 0).oneCell'=true:=hr.one (by simp at hl;omega);show(u 0).cells = #[u 0];cases hu:u 0<;>first|(rw[hu]at h1;cases h1;done)|rfl
    | some n=>exact⟨⟨_,by rw[hmk];rfl,by simp⟩,hT⟩
   ·rw[oR,P2,hL,hv.1]
   ·simp only[W4,hcv,hcells,P2]
    apply List.ext_getElem?;intro j;by_cases hj:j<cs.length
    ·rw[Q3 (by simpa using hj)];simp[hj,Nat.lt_add_right]
    ·rw[R3 (by simp;omega)]
     by_cases hj2:j - cs.length<cs'.length
     ·simp[hj,hj2,show j<cs.length+cs'.length by omega]
     ·simp[hj2,show ¬j<cs.length+cs'.length by omega]
   ·intro ag' hag
    simp only[List.cons.injEq]at hag;obtain⟨rfl,rfl⟩:=hag;cases vs with
    | cons _ _=>exact hT.elim
    | nil=>
     have:cs'=[]:=z5 (by simpa[oN] using hL.symm);subst this;exact⟨v,rfl,by rw[List.append_nil];exact hv.mono (fun _ _ h=>h) (fun b o hb=>⟨_,hns,hb⟩)⟩
   ·exact(DX hr hrow hd).mono (fun _ _ h=>h) (fun b o hb=>hb.elim (fun hb=>⟨_,hns,hb⟩) (fun⟨t,ht,hb⟩=>⟨t,fun hm=>ht (Z3 _ hm),hb⟩))
theorem rd:∀ {A:List RA} {vs:List Value} (i:Nat),w7 w S A vs->∀ t,(lay (tz i A) t=.dead)\/(∃ A0 v,i<=t/\vs[t - i]? = some v/\lay (tz i A) t=NR A0/\ny w S A0 v)
 | [],_,i,_,t=>.inl rfl
 | A0::A,[],i,h,t=>h.elim
 | A0::A,v::vs,i,h,t=>by
  simp only[tz,lay];cases hb:Nat.beq t i with
  | true=>
   have:=P1 hb;subst this;exact .inr ⟨A0,v,I2 _,by simp,rfl,h.1⟩
  | false=>
   have hne:t≠i:=fun e=>by subst e;rw[Nat.beq_refl]at hb;cases hb
   rcases rd (i+1) h.2 t with h1|⟨A1,v',h1,h2,h3⟩
   ·exact .inl h1
   ·refine .inr ⟨A1,v',by omega,?_,h3⟩
    rw[show t - i=(t - (i+1))+1 by omega];simpa using h2
theorem ny.slot {A:RA} {v:Value} (h:ny w S A v) {tv:Nat->Value} : cn w S F tv NO (NR A) v:=by
 cases A with
 | val ag cs=>exact bN.slot h
 | ptr cs=>obtain⟨g,b,u,e1,e2,e3⟩:=h;exact⟨g,b,u,by rw[e1,Nat.add_zero],e2,e3⟩
 | fn Ok=>exact h
theorem zZ:∀ {A:List RA} {vs:List Value},w7 w S A vs->A.length=vs.length
 | [],[],_=>rfl
 | _::_,_::_,h=>by simp[zZ h.2]
 | [],_::_,h=>h.elim
 | _::_,[],h=>h.elim
theorem Gk {D : Nat -> Array Oper -> ((Nat -> AV) -> Prop) -> (Nat -> AV) -> Prop} {f : Nat} {fn : Func} {c : Code} {sh : Bool} {A : List RA} {k : Kd} {rcs : List C} (hTE : ∀ t i, TE t = some i -> bY P t i) (hf : P.funcs[f]? = some fn) (hn : (fn.name == "runtime.NumGoroutine") = false)
  (hb:fn.body=some c) {ck:Nat->Array Oper->Bool} (hD:vj P N ck D) (hc:fy ck c=true) (hN:A.length+(fn.ntmps - A.length)=N.n) (hkp:N.kp=[]) (hsh:sh=true\/gk rcs) (hp:aw P TE N D c (Lr TE fn.results.toList k rcs) (lay (tz 0 A))):ao P f sh A k rcs:=by
 refine⟨⟨fn,hf,hn,by rw[hb];rfl⟩,fun w S vs hS hA=>?_⟩;have hlen:=zZ hA;refine calls_of_wp hf hb ?_;have hst:St w NO S N (lay (tz 0 A)) {tmps:=vs.toArray++Array.replicate (fn.ntmps - vs.toArray.size) undef,defers:=[]} w:=by
  refine⟨S,fun _=>NO,fun t=>?_,fun _ _ _ _ _ h=>h.elim,fun _ _ _ h=>h.elim,fun _ _ _ h=>h.elim,fun _ _ h=>h,fun b o h=>⟨hS b o h,.inl h⟩,bH.refl _ _,by simp;omega,rfl,fun p hp=>by rw[hkp]at hp;cases hp⟩;rcases rd 0 hA t with h1|⟨A0,v,-,h2,h3,h4⟩
  ·rw[h1];trivial
  ·rw[h3]
   have hv:tvs {tmps:=vs.toArray++Array.replicate (fn.ntmps - vs.toArray.size) undef,defers:=[]} t=v:=by
    have hlt:=(R1.1 h2).1;simp only[tvs,V4];rw[Array.getElem?_append_left (by simpa using hlt)];simp only[List.getElem?_toArray];rw[show vs[t]? = some v by simpa using h2];rfl
   rw[hv];exact h4.slot
 refine ib hTE hD c hc _ _ _ _ w hp hst fun e F' a' w' he hs'=>?_
 obtain⟨S',φ',h⟩:=hs';have fin:resA TE F' fn.results.toList [] (fun sh cs=>iW (iY sh) k cs rcs)->a'.defers=[]/\∃ v,(results fn a'.tmps).run P w'=.ok v w'/\(∃ v',Ending.returned v=.returned v'/\bH NO w w'/\∃ X S1:ac,(∀ b o,X b o->b<w'.heap.size/\w.heap.size<=b)/\
     (∀ b o,S1 b o->(sh=true/\S b o)\/(b<w'.heap.size/\w.heap.size<=b))/\(∀ b o,X b o->¬S1 b o)/\f7 w' NO k rcs.length v'/\cF w' S1 X rcs (bS w' k v')):=by
  intro hr;obtain⟨shs,cs,vs',u,hfin,hrun,hT,hln,hL,hcells,hone,hrow⟩:=h.resA hTE hr;obtain⟨rfl,hwk⟩:=hfin.out;refine⟨h.defers,?_⟩;have hrun2:(results fn a'.tmps).run P w'=.ok (if h:vs'.toArray.size=1 then vs'.toArray[0] else .tuple vs'.toArray) w':=by
   have e:results fn a'.tmps=(do let vs <-fn.results.mapM (D5 a'.tmps);pure (if h:vs.size=1 then vs[0] else .tuple vs)):=by
    unfold results
    congr 1
   rw[e,<-Array.toArray_toList (xs:=fn.results),List.mapM_toArray];simp only[Sem.run_bind,Sem.run_map,hrun,Result.andThen_ok,Sem.run_pure]
  refine⟨_,hrun2,_,rfl,h.old,fun b o=>∃ t,φ' t b o,fun b o=>(sh=true/\S' b o)\/(S' b o/\w.heap.size<=b),fun b o ⟨t,hb⟩=>⟨(h.ex t b o hb).1,(h.ex t b o hb).2.resolve_right (fun h=>h)⟩,fun b o hb=>?_,fun b o ⟨t,hb⟩ hb'=>h.disS t b o hb (hb'.elim (·.2) (·.1)),?_⟩
  ·rcases hb with⟨h1,h2⟩|⟨h1,h2⟩
   ·rcases(h.sup b o h2).2 with h3|h3|h3
    ·exact .inl ⟨h1,h3⟩
    ·exact .inr ⟨(h.sup b o h2).1,h3⟩
    ·exact h3.elim
   ·exact .inr ⟨(h.sup b o h1).1,h2⟩
  ·have hk:f7 w' NO (iY shs) cs.length (if h:vs'.toArray.size=1 then vs'.toArray[0] else .tuple vs'.toArray)/\cF w' S' (fun b o=>∃ t,φ' t b o) cs (bS w' (iY shs) (if h:vs'.toArray.size=1 then vs'.toArray[0] else .tuple vs'.toArray)):=by
    have hall:∀ b o,(∃ t,t∉([]:List Nat)/\φ' t b o)->∃ t,φ' t b o:=fun b o ⟨t,_,hb⟩=>⟨t,hb⟩
    match shs,hT,hone,hL with
    | [],hT,_,hL=>
     cases vs' with
     | cons _ _=>exact hT.elim
     | nil=>
      have:cs=[]:=z5 (by simpa[oN] using hL.symm);subst this;exact⟨⟨_,rfl,trivial,rfl⟩,cF.nil _ _ _ _⟩
    | [ag],_,hone,_=>
     obtain⟨v,rfl,hv⟩:=hone ag rfl;have:=(hv.mono (fun _ _ h=>h) hall).slot (F:=F') (tv:=tvs a');obtain⟨X1,Y,h1,h2,h3,h4,h5⟩:=this;refine⟨?_,h5.mono (fun _ _ h=>h) h2⟩;cases ag<;>exact h4
    | ag::ag2::sh,hT,_,hL=>
     have hsz:¬vs'.toArray.size=1:=by
      match vs',hT with
      | [],hT=>simp
      | [v],hT=>cases ag<;>cases ag2<;>exact hT.2.elim
      | _::_::_,_=>simp
     rw[dif_neg hsz];refine⟨⟨_,rfl,hT,hL⟩,(hrow.mono (fun _ _ h=>h) hall).congr fun j hj=>?_⟩;simp only[bS,iY,kU,hcells];simp[List.getD,hj]
   replace hk:=And.intro hk.1 (hwk.row hk.2);refine⟨by rw[<-hwk.len];exact hk.1,?_⟩;rcases hsh with h1|h1
   ·exact hk.2.mono (fun b o hb=>.inl ⟨h1,hb⟩) (fun _ _ h=>h)
   ·exact(hk.2.fresh h1).mono (fun _ _ h=>h.elim) (fun _ _ h=>h)
 cases e with
 | normal=>exact fin he
 | ret=>exact fin he
 | _=>exact he.elim
theorem Gt {D : Nat -> Array Oper -> ((Nat -> AV) -> Prop) -> (Nat -> AV) -> Prop} {f t : Nat} {fn : Func} {c : Code} {A : List RA} {rcs : List C} (hTE : ∀ t i, TE t = some i -> bY P t i) (hf : P.funcs[f]? = some fn) (hn : (fn.name == "runtime.NumGoroutine") = false)
  (hb:fn.body=some c) {ck:Nat->Array Oper->Bool} (hD:vj P N ck D) (hc:fy ck c=true) (hN:A.length+(fn.ntmps - A.length)=N.n) (hkp:N.kp=[]) (hr:fn.results = #[.tmp t]) (hp:aw P TE N D c (Nv t rcs) (lay (tz 0 A))):pB P f true A .box rcs:=by
 refine⟨⟨fn,hf,hn,by rw[hb];rfl⟩,fun w S vs hS hA=>?_⟩;have hlen:=zZ hA;refine calls_of_wp hf hb ?_;have hst:St w NO S N (lay (tz 0 A)) {tmps:=vs.toArray++Array.replicate (fn.ntmps - vs.toArray.size) undef,defers:=[]} w:=by
  refine⟨S,fun _=>NO,fun t=>?_,fun _ _ _ _ _ h=>h.elim,fun _ _ _ h=>h.elim,fun _ _ _ h=>h.elim,fun _ _ h=>h,fun b o h=>⟨hS b o h,.inl h⟩,bH.refl _ _,by simp;omega,rfl,fun p hp=>by rw[hkp]at hp;cases hp⟩;rcases rd 0 hA t with h1|⟨A0,v,-,h2,h3,h4⟩
  ·rw[h1];trivial
  ·rw[h3]
   have hv:tvs {tmps:=vs.toArray++Array.replicate (fn.ntmps - vs.toArray.size) undef,defers:=[]} t=v:=by
    have hlt:=(R1.1 h2).1;simp only[tvs,V4];rw[Array.getElem?_append_left (by simpa using hlt)];simp only[List.getElem?_toArray];rw[show vs[t]? = some v by simpa using h2];rfl
   rw[hv];exact h4.slot
 refine ib hTE hD c hc _ _ _ _ w hp hst fun e F' a' w' he hs'=>?_
 obtain⟨S',φ',h⟩:=hs';have fin:LG F' t rcs->a'.defers=[]/\∃ v,(results fn a'.tmps).run P w'=.ok v w'/\(∃ v',Ending.returned v=.returned v'/\bH NO w w'/\∃ X S1:ac,(∀ b o,X b o->b<w'.heap.size/\w.heap.size<=b)/\
     (∀ b o,S1 b o->(true=true/\S b o)\/(b<w'.heap.size/\w.heap.size<=b))/\(∀ b o,X b o->¬S1 b o)/\∃ X1 Y:ac,(∀ b o,X1 b o->X b o)/\(∀ b o,Y b o->X b o)/\(∀ b o,X1 b o->¬Y b o)/\f7 w' X1 .box rcs.length v'/\cF w' S1 Y rcs (bS w' .box v')):=by
  intro hq;have core:∃ (t1:Nat) (cs:List C),tvs a' t=tvs a' t1/\F' t1=.hold .box cs/\iW .box .box cs rcs:=by
   unfold LG at hq;split at hq
   ·rename_i cs hF
    exact⟨t,cs,rfl,hF,hq⟩
   ·rename_i t1 hF2
    split at hq
    case h_2=>exact hq.elim
    rename_i cs hF;refine⟨t1,cs,?_,hF,hq⟩;have hs2:=h.slot t;rw[hF2]at hs2;obtain⟨k0,cs0,r0,j0,g0,o0,e1,-,e3,e4⟩:=hs2;have hs:=h.slot t1;rw[hF]at hs;rw[hF]at e1;simp only[AV.hold.injEq]at e1;obtain⟨rfl,rfl⟩:=e1;obtain⟨X1,Y,h1,h2,h3,⟨g,o,hv,-⟩,h5⟩:=hs;rw[hv]at e3;simp only[plc,mX,Y3,T0,Prod.mk.injEq]at e3;rw[e4,hv,<-e3.1,<-e3.2]
    rfl
   ·exact hq.elim
  obtain⟨t1,cs,htt,hF,hq⟩:=core;have hwk:=hq.out.2;have hs:=h.slot t1;rw[hF]at hs;obtain⟨X1,Y,h1,h2,h3,h4,h5⟩:=hs;refine⟨h.defers,tvs a' t1,?_,tvs a' t1,rfl,h.old,φ' t1,fun b o=>S' b o/\(S b o\/w.heap.size<=b),fun b o hb=>⟨(h.ex t1 b o hb).1,(h.ex t1 b o hb).2.resolve_right (fun h=>h)⟩,fun b o hb=>?_,fun b o hb hb'=>h.disS t1 b o hb hb'.1,X1,Y,h1,h2,h3,?_,?_⟩
  ·rw[<-htt];simp[results,hr,tvs]
  ·rcases hb.2 with h6|h6
   ·exact .inl ⟨rfl,h6⟩
   ·exact .inr ⟨(h.sup b o hb.1).1,h6⟩
  ·rw[<-hwk.len];exact h4
  ·exact(hwk.row h5).mono (fun b o hb=>⟨hb,by
     rcases(h.sup b o hb).2 with h6|h6|h6
     · exact .inl h6
     · exact .inr h6
     · exact h6.elim⟩) (fun _ _ h=>h)
 cases e with
 | normal=>exact fin he
 | ret=>exact fin he
 | _=>exact he.elim
end
def DF (P:Program) (TE:Nat->Option TI) (N:eL) (tb:List (Nat × Nat × List Nat)) (id:Nat) (ops:Array Oper) (K:(Nat->AV)->Prop) (F:Nat->AV):Prop:=
 match vN tb (id+1048576) with
 | some (t,offs)=>pS t offs (DD P TE N tb id ops K) F
 | none=>DD P TE N tb id ops K F
theorem po {P:Program} {TE:Nat->Option TI} (hTE:∀ t i,TE t=some i->bY P t i) (hm:P.follows .mixedOrders=true) (N:eL) (tb:List (Nat × Nat × List Nat)):vj P N (ma tb) (DF P TE N tb):=
 fun _ _ hok _ _ _ _ _ _ _ _ hp hs hq=>by
  unfold DF at hp;split at hp
  ·obtain⟨F',hK,hs'⟩:=tZ hp hs
   exact vt hTE hm hok hK hs' hq
  ·exact vt hTE hm hok hp hs hq
def FL:List (Nat × TI)->Nat->Option TI
 | [],_=>none
 | p::l,t=>bif Nat.beq t p.1 then some p.2 else FL l t
def M3 (P:Program):List (Nat × TI)->Prop
 | []=>True
 | p::l=>bY P p.1 p.2/\M3 P l
theorem B1 {P:Program} : ∀ {l:List (Nat × TI)},M3 P l->∀ t i,FL l t=some i->bY P t i
 | [],_,t,i,h=>by cases h
 | p::l,hl,t,i,h=>by
  simp only[FL]at h;cases hb:Nat.beq t p.1 with
  | true=>
   rw[hb]at h;simp only[cond_true,T0]at h;have:=P1 hb;subst this h;exact hl.1
  | false=>rw[hb]at h;exact B1 hl.2 t i h
def ti3:TI:=⟨1,8,[.v (.int .i64 0)],.sc (.int .i64)⟩
theorem tok3:bY Tryz.prog 3 ti3:=⟨by kernel_rfl,by simp[ti3,aI,Value.oneCell'],⟨Tryz.underlying3,trivial⟩⟩
def ti4:TI:=⟨1,1,[.v (.bool false)],.sc .bool⟩
theorem tok4:bY Tryz.prog 4 ti4:=⟨by kernel_rfl,by simp[ti4,aI,Value.oneCell'],⟨Tryz.underlying4,trivial⟩⟩
def ti2:TI:=⟨1,8,[.v (.int .i64 0)],.sc (.int .i64)⟩
theorem tok2:bY Tryz.prog 2 ti2:=⟨by kernel_rfl,by simp[ti2,aI,Value.oneCell'],⟨Tryz.underlying2,trivial⟩⟩
def ti5:TI:=⟨1,1,[.v (.int .u8 0)],.sc (.int .u8)⟩
theorem tok5:bY Tryz.prog 5 ti5:=⟨by kernel_rfl,by simp[ti5,aI,Value.oneCell'],⟨Tryz.underlying5,trivial⟩⟩
def ti6:TI:=⟨1,1,[.v (.int .u8 0)],.sc (.int .u8)⟩
theorem tok6:bY Tryz.prog 6 ti6:=⟨by kernel_rfl,by simp[ti6,aI,Value.oneCell'],⟨Tryz.underlying6,trivial⟩⟩
def ti7:TI:=⟨4,24,[.v (.int .i64 0),.v (.int .i64 0),.v (.bool false),.v (.int .u8 0)],.st [(0,2),(1,3),(2,4),(3,6)]⟩
theorem tok7:bY Tryz.prog 7 ti7:=⟨by kernel_rfl,by simp[ti7,aI,Value.oneCell'],⟨_,Tryz.underlying7,rfl⟩⟩
def ti8:TI:=⟨4,24,[.v (.int .i64 0),.v (.int .i64 0),.v (.bool false),.v (.int .u8 0)],.st [(0,2),(1,3),(2,4),(3,6)]⟩
theorem tok8:bY Tryz.prog 8 ti8:=⟨by kernel_rfl,by simp[ti8,aI,Value.oneCell'],⟨_,Tryz.underlying8,rfl⟩⟩
def ti9:TI:=⟨1,16,[.v (.string ⟨#[]⟩)],.sc .string⟩
theorem tok9:bY Tryz.prog 9 ti9:=⟨by kernel_rfl,by simp[ti9,aI,Value.oneCell'],⟨Tryz.underlying9,trivial⟩⟩
def ti10:TI:=⟨1,16,[.v (.string ⟨#[]⟩)],.sc .string⟩
theorem tok10:bY Tryz.prog 10 ti10:=⟨by kernel_rfl,by simp[ti10,aI,Value.oneCell'],⟨Tryz.underlying10,trivial⟩⟩
def ti11:TI:=⟨1,16,[.v (.string ⟨#[]⟩)],.sc .string⟩
theorem tok11:bY Tryz.prog 11 ti11:=⟨by kernel_rfl,by simp[ti11,aI,Value.oneCell'],⟨Tryz.underlying11,trivial⟩⟩
def ti12:TI:=⟨1,8,[.v (.int .u64 0)],.sc (.int .u64)⟩
theorem tok12:bY Tryz.prog 12 ti12:=⟨by kernel_rfl,by simp[ti12,aI,Value.oneCell'],⟨Tryz.underlying12,trivial⟩⟩
def ti13:TI:=⟨2,24,[.v (.string ⟨#[]⟩),.v (.int .u64 0)],.st [(0,9),(1,12)]⟩
theorem tok13:bY Tryz.prog 13 ti13:=⟨by kernel_rfl,by simp[ti13,aI,Value.oneCell'],⟨_,Tryz.underlying13,rfl⟩⟩
def ti14:TI:=⟨2,24,[.v (.string ⟨#[]⟩),.v (.int .u64 0)],.st [(0,9),(1,12)]⟩
theorem tok14:bY Tryz.prog 14 ti14:=⟨by kernel_rfl,by simp[ti14,aI,Value.oneCell'],⟨_,Tryz.underlying14,rfl⟩⟩
def ti21:TI:=⟨1,4,[.v (.int .i32 0)],.sc (.int .i32)⟩
theorem tok21:bY Tryz.prog 21 ti21:=⟨by kernel_rfl,by simp[ti21,aI,Value.oneCell'],⟨Tryz.underlying21,trivial⟩⟩
def ti22:TI:=⟨1,24,[.z],.sl 5⟩
theorem tok22:bY Tryz.prog 22 ti22:=⟨by kernel_rfl,by simp[ti22,aI,Value.oneCell'],Tryz.underlying22⟩
def ti24:TI:=⟨1,24,[.z],.sl 33⟩
theorem tok24:bY Tryz.prog 24 ti24:=⟨by kernel_rfl,by simp[ti24,aI,Value.oneCell'],Tryz.underlying24⟩
def ti25:TI:=⟨1,24,[.z],.sl 4⟩
theorem tok25:bY Tryz.prog 25 ti25:=⟨by kernel_rfl,by simp[ti25,aI,Value.oneCell'],Tryz.underlying25⟩
def ti26:TI:=⟨2,48,[.z,.z],.st [(0,24),(1,25)]⟩
theorem tok26:bY Tryz.prog 26 ti26:=⟨by kernel_rfl,by simp[ti26,aI,Value.oneCell'],⟨_,Tryz.underlying26,rfl⟩⟩
def ti27:TI:=⟨2,48,[.z,.z],.st [(0,24),(1,25)]⟩
theorem tok27:bY Tryz.prog 27 ti27:=⟨by kernel_rfl,by simp[ti27,aI,Value.oneCell'],⟨_,Tryz.underlying27,rfl⟩⟩
def ti28:TI:=⟨1,24,[.z],.sl 134⟩
theorem tok28:bY Tryz.prog 28 ti28:=⟨by kernel_rfl,by simp[ti28,aI,Value.oneCell'],Tryz.underlying28⟩
def ti29:TI:=⟨1,24,[.z],.st [(0,28)]⟩
theorem tok29:bY Tryz.prog 29 ti29:=⟨by kernel_rfl,by simp[ti29,aI,Value.oneCell'],⟨_,Tryz.underlying29,rfl⟩⟩
def ti30:TI:=⟨1,24,[.z],.st [(0,28)]⟩
theorem tok30:bY Tryz.prog 30 ti30:=⟨by kernel_rfl,by simp[ti30,aI,Value.oneCell'],⟨_,Tryz.underlying30,rfl⟩⟩
def ti31:TI:=⟨3,72,[.z,.z,.z],.st [(0,27),(2,30)]⟩
theorem tok31:bY Tryz.prog 31 ti31:=⟨by kernel_rfl,by simp[ti31,aI,Value.oneCell'],⟨_,Tryz.underlying31,rfl⟩⟩
def ti32:TI:=⟨3,72,[.z,.z,.z],.st [(0,27),(2,30)]⟩
theorem tok32:bY Tryz.prog 32 ti32:=⟨by kernel_rfl,by simp[ti32,aI,Value.oneCell'],⟨_,Tryz.underlying32,rfl⟩⟩
def ti33:TI:=⟨1,24,[.z],.sl 3⟩
theorem tok33:bY Tryz.prog 33 ti33:=⟨by kernel_rfl,by simp[ti33,aI,Value.oneCell'],Tryz.underlying33⟩
def ti34:TI:=⟨5,104,[.z,.z,.z,.v (.int .i64 0),.z],.st [(0,32),(3,3),(4,33)]⟩
theorem tok34:bY Tryz.prog 34 ti34:=⟨by kernel_rfl,by simp[ti34,aI,Value.oneCell'],⟨_,Tryz.underlying34,rfl⟩⟩
def ti35:TI:=⟨5,104,[.z,.z,.z,.v (.int .i64 0),.z],.st [(0,32),(3,3),(4,33)]⟩
theorem tok35:bY Tryz.prog 35 ti35:=⟨by kernel_rfl,by simp[ti35,aI,Value.oneCell'],⟨_,Tryz.underlying35,rfl⟩⟩
def ti36:TI:=⟨1,24,[.z],.sl 131⟩
theorem tok36:bY Tryz.prog 36 ti36:=⟨by kernel_rfl,by simp[ti36,aI,Value.oneCell'],Tryz.underlying36⟩
def ti37:TI:=⟨1,24,[.z],.sl 75⟩
theorem tok37:bY Tryz.prog 37 ti37:=⟨by kernel_rfl,by simp[ti37,aI,Value.oneCell'],Tryz.underlying37⟩
def ti38:TI:=⟨1,24,[.z],.sl 173⟩
theorem tok38:bY Tryz.prog 38 ti38:=⟨by kernel_rfl,by simp[ti38,aI,Value.oneCell'],Tryz.underlying38⟩
def ti39:TI:=⟨1,24,[.z],.sl 71⟩
theorem tok39:bY Tryz.prog 39 ti39:=⟨by kernel_rfl,by simp[ti39,aI,Value.oneCell'],Tryz.underlying39⟩
def ti40:TI:=⟨1,24,[.z],.sl 105⟩
theorem tok40:bY Tryz.prog 40 ti40:=⟨by kernel_rfl,by simp[ti40,aI,Value.oneCell'],Tryz.underlying40⟩
def ti41:TI:=⟨1,24,[.z],.sl 212⟩
theorem tok41:bY Tryz.prog 41 ti41:=⟨by kernel_rfl,by simp[ti41,aI,Value.oneCell'],Tryz.underlying41⟩
def ti42:TI:=⟨2,48,[.z,.z],.st [(0,41),(1,24)]⟩
theorem tok42:bY Tryz.prog 42 ti42:=⟨by kernel_rfl,by simp[ti42,aI,Value.oneCell'],⟨_,Tryz.underlying42,rfl⟩⟩
def ti43:TI:=⟨2,48,[.z,.z],.st [(0,41),(1,24)]⟩
theorem tok43:bY Tryz.prog 43 ti43:=⟨by kernel_rfl,by simp[ti43,aI,Value.oneCell'],⟨_,Tryz.underlying43,rfl⟩⟩
def ti44:TI:=⟨1,24,[.z],.sl 185⟩
theorem tok44:bY Tryz.prog 44 ti44:=⟨by kernel_rfl,by simp[ti44,aI,Value.oneCell'],Tryz.underlying44⟩
def ti45:TI:=⟨2,32,[.v (.int .i64 0),.z],.st [(0,3),(1,44)]⟩
theorem tok45:bY Tryz.prog 45 ti45:=⟨by kernel_rfl,by simp[ti45,aI,Value.oneCell'],⟨_,Tryz.underlying45,rfl⟩⟩
def ti46:TI:=⟨2,32,[.v (.int .i64 0),.z],.st [(0,3),(1,44)]⟩
theorem tok46:bY Tryz.prog 46 ti46:=⟨by kernel_rfl,by simp[ti46,aI,Value.oneCell'],⟨_,Tryz.underlying46,rfl⟩⟩
def ti47:TI:=⟨3,40,[.v (.int .i64 0),.v (.int .i64 0),.z],.st [(0,3),(1,3),(2,33)]⟩
theorem tok47:bY Tryz.prog 47 ti47:=⟨by kernel_rfl,by simp[ti47,aI,Value.oneCell'],⟨_,Tryz.underlying47,rfl⟩⟩
def ti48:TI:=⟨3,40,[.v (.int .i64 0),.v (.int .i64 0),.z],.st [(0,3),(1,3),(2,33)]⟩
theorem tok48:bY Tryz.prog 48 ti48:=⟨by kernel_rfl,by simp[ti48,aI,Value.oneCell'],⟨_,Tryz.underlying48,rfl⟩⟩
def ti49:TI:=⟨5,56,[.v (.int .i64 0),.v (.int .i64 0),.z,.v (.int .i64 0),.v (.int .i64 0)],.st [(0,48),(3,3),(4,3)]⟩
theorem tok49:bY Tryz.prog 49 ti49:=⟨by kernel_rfl,by simp[ti49,aI,Value.oneCell'],⟨_,Tryz.underlying49,rfl⟩⟩
def ti50:TI:=⟨5,56,[.v (.int .i64 0),.v (.int .i64 0),.z,.v (.int .i64 0),.v (.int .i64 0)],.st [(0,48),(3,3),(4,3)]⟩
theorem tok50:bY Tryz.prog 50 ti50:=⟨by kernel_rfl,by simp[ti50,aI,Value.oneCell'],⟨_,Tryz.underlying50,rfl⟩⟩
def ti51:TI:=⟨24,400,[.z,.z,.z,.v (.int .i64 0),.z,.z,.z,.z,.z,.z,.z,.z,.v (.int .i64 0),.z,.v (.int .i64 0),.v (.int .i64 0),.v (.int .i64 0),.v (.int .i64 0),.v (.bool false),.v (.int .i64 0),.v (.int .i64 0),.z,.v (.int .i64 0),.v (.int .i64 0)],.st [(0,35),(5,36),(6,37),(7,38),(8,39),(9,40),(10,43),(12,46),(14,3),(15,3),(16,3),(17,3),(18,4),(19,50)]⟩
theorem tok51:bY Tryz.prog 51 ti51:=⟨by kernel_rfl,by simp[ti51,aI,Value.oneCell'],⟨_,Tryz.underlying51,rfl⟩⟩
def ti52:TI:=⟨24,400,[.z,.z,.z,.v (.int .i64 0),.z,.z,.z,.z,.z,.z,.z,.z,.v (.int .i64 0),.z,.v (.int .i64 0),.v (.int .i64 0),.v (.int .i64 0),.v (.int .i64 0),.v (.bool false),.v (.int .i64 0),.v (.int .i64 0),.z,.v (.int .i64 0),.v (.int .i64 0)],.st [(0,35),(5,36),(6,37),(7,38),(8,39),(9,40),(10,43),(12,46),(14,3),(15,3),(16,3),(17,3),(18,4),(19,50)]⟩
theorem tok52:bY Tryz.prog 52 ti52:=⟨by kernel_rfl,by simp[ti52,aI,Value.oneCell'],⟨_,Tryz.underlying52,rfl⟩⟩
def ti53:TI:=⟨1,24,[.z],.sl 330⟩
theorem tok53:bY Tryz.prog 53 ti53:=⟨by kernel_rfl,by simp[ti53,aI,Value.oneCell'],Tryz.underlying53⟩
def ti54:TI:=⟨2,32,[.v (.int .i64 0),.z],.st [(0,3),(1,53)]⟩
theorem tok54:bY Tryz.prog 54 ti54:=⟨by kernel_rfl,by simp[ti54,aI,Value.oneCell'],⟨_,Tryz.underlying54,rfl⟩⟩
def ti55:TI:=⟨2,32,[.v (.int .i64 0),.z],.st [(0,3),(1,53)]⟩
theorem tok55:bY Tryz.prog 55 ti55:=⟨by kernel_rfl,by simp[ti55,aI,Value.oneCell'],⟨_,Tryz.underlying55,rfl⟩⟩
def ti56:TI:=⟨26,432,[.z,.z,.z,.v (.int .i64 0),.z,.z,.z,.z,.z,.z,.z,.z,.v (.int .i64 0),.z,.v (.int .i64 0),.v (.int .i64 0),.v (.int .i64 0),.v (.int .i64 0),.v (.bool false),.v (.int .i64 0),.v (.int .i64 0),.z,.v (.int .i64 0),.v (.int .i64 0),.v (.int .i64 0),.z],.st [(0,52),(24,55)]⟩
theorem tok56:bY Tryz.prog 56 ti56:=⟨by kernel_rfl,by simp[ti56,aI,Value.oneCell'],⟨_,Tryz.underlying56,rfl⟩⟩
def ti57:TI:=⟨26,432,[.z,.z,.z,.v (.int .i64 0),.z,.z,.z,.z,.z,.z,.z,.z,.v (.int .i64 0),.z,.v (.int .i64 0),.v (.int .i64 0),.v (.int .i64 0),.v (.int .i64 0),.v (.bool false),.v (.int .i64 0),.v (.int .i64 0),.z,.v (.int .i64 0),.v (.int .i64 0),.v (.int .i64 0),.z],.st [(0,52),(24,55)]⟩
theorem tok57:bY Tryz.prog 57 ti57:=⟨by kernel_rfl,by simp[ti57,aI,Value.oneCell'],⟨_,Tryz.underlying57,rfl⟩⟩
def ti65:TI:=⟨8,64,[.v (.int .i64 0),.v (.int .i64 0),.v (.int .i64 0),.v (.int .i64 0),.v (.int .i64 0),.v (.int .i64 0),.v (.int .i64 0),.v (.int .i64 0)],.st [(0,3),(1,3),(2,3),(3,3),(4,3),(5,3),(6,3),(7,3)]⟩
theorem tok65:bY Tryz.prog 65 ti65:=⟨by kernel_rfl,by simp[ti65,aI,Value.oneCell'],⟨_,Tryz.underlying65,rfl⟩⟩
def ti66:TI:=⟨8,64,[.v (.int .i64 0),.v (.int .i64 0),.v (.int .i64 0),.v (.int .i64 0),.v (.int .i64 0),.v (.int .i64 0),.v (.int .i64 0),.v (.int .i64 0)],.st [(0,3),(1,3),(2,3),(3,3),(4,3),(5,3),(6,3),(7,3)]⟩
theorem tok66:bY Tryz.prog 66 ti66:=⟨by kernel_rfl,by simp[ti66,aI,Value.oneCell'],⟨_,Tryz.underlying66,rfl⟩⟩
def ti70:TI:=⟨4,32,[.v (.int .i64 0),.v (.int .i64 0),.v (.int .i64 0),.v (.int .i64 0)],.st [(0,3),(1,3),(2,3),(3,3)]⟩
theorem tok70:bY Tryz.prog 70 ti70:=⟨by kernel_rfl,by simp[ti70,aI,Value.oneCell'],⟨_,Tryz.underlying70,rfl⟩⟩
def ti71:TI:=⟨4,32,[.v (.int .i64 0),.v (.int .i64 0),.v (.int .i64 0),.v (.int .i64 0)],.st [(0,3),(1,3),(2,3),(3,3)]⟩
theorem tok71:bY Tryz.prog 71 ti71:=⟨by kernel_rfl,by simp[ti71,aI,Value.oneCell'],⟨_,Tryz.underlying71,rfl⟩⟩
def ti74:TI:=⟨3,24,[.v (.int .i64 0),.v (.int .i64 0),.v (.int .i64 0)],.st [(0,3),(1,3),(2,3)]⟩
theorem tok74:bY Tryz.prog 74 ti74:=⟨by kernel_rfl,by simp[ti74,aI,Value.oneCell'],⟨_,Tryz.underlying74,rfl⟩⟩
def ti75:TI:=⟨3,24,[.v (.int .i64 0),.v (.int .i64 0),.v (.int .i64 0)],.st [(0,3),(1,3),(2,3)]⟩
theorem tok75:bY Tryz.prog 75 ti75:=⟨by kernel_rfl,by simp[ti75,aI,Value.oneCell'],⟨_,Tryz.underlying75,rfl⟩⟩
def ti104:TI:=⟨1,24,[.z],.st [(0,24)]⟩
theorem tok104:bY Tryz.prog 104 ti104:=⟨by kernel_rfl,by simp[ti104,aI,Value.oneCell'],⟨_,Tryz.underlying104,rfl⟩⟩
def ti105:TI:=⟨1,24,[.z],.st [(0,24)]⟩
theorem tok105:bY Tryz.prog 105 ti105:=⟨by kernel_rfl,by simp[ti105,aI,Value.oneCell'],⟨_,Tryz.underlying105,rfl⟩⟩
def ti120:TI:=⟨4,32,[.v (.int .i64 0),.v (.int .i64 0),.v (.int .i64 0),.v (.int .i64 0)],.st [(0,3),(1,3),(2,3),(3,3)]⟩
theorem tok120:bY Tryz.prog 120 ti120:=⟨by kernel_rfl,by simp[ti120,aI,Value.oneCell'],⟨_,Tryz.underlying120,rfl⟩⟩
def ti121:TI:=⟨4,32,[.v (.int .i64 0),.v (.int .i64 0),.v (.int .i64 0),.v (.int .i64 0)],.st [(0,3),(1,3),(2,3),(3,3)]⟩
theorem tok121:bY Tryz.prog 121 ti121:=⟨by kernel_rfl,by simp[ti121,aI,Value.oneCell'],⟨_,Tryz.underlying121,rfl⟩⟩
def ti130:TI:=⟨2,16,[.v (.int .i64 0),.v (.int .i64 0)],.st [(0,3),(1,3)]⟩
theorem tok130:bY Tryz.prog 130 ti130:=⟨by kernel_rfl,by simp[ti130,aI,Value.oneCell'],⟨_,Tryz.underlying130,rfl⟩⟩
def ti131:TI:=⟨2,16,[.v (.int .i64 0),.v (.int .i64 0)],.st [(0,3),(1,3)]⟩
theorem tok131:bY Tryz.prog 131 ti131:=⟨by kernel_rfl,by simp[ti131,aI,Value.oneCell'],⟨_,Tryz.underlying131,rfl⟩⟩
def ti133:TI:=⟨2,16,[.v (.int .i64 0),.v (.int .i64 0)],.st [(0,3),(1,3)]⟩
theorem tok133:bY Tryz.prog 133 ti133:=⟨by kernel_rfl,by simp[ti133,aI,Value.oneCell'],⟨_,Tryz.underlying133,rfl⟩⟩
def ti134:TI:=⟨2,16,[.v (.int .i64 0),.v (.int .i64 0)],.st [(0,3),(1,3)]⟩
theorem tok134:bY Tryz.prog 134 ti134:=⟨by kernel_rfl,by simp[ti134,aI,Value.oneCell'],⟨_,Tryz.underlying134,rfl⟩⟩
def ti144:TI:=⟨1,24,[.z],.sl 150⟩
theorem tok144:bY Tryz.prog 144 ti144:=⟨by kernel_rfl,by simp[ti144,aI,Value.oneCell'],Tryz.underlying144⟩
def ti149:TI:=⟨2,16,[.v (.int .i64 0),.v (.int .i64 0)],.st [(0,3),(1,3)]⟩
theorem tok149:bY Tryz.prog 149 ti149:=⟨by kernel_rfl,by simp[ti149,aI,Value.oneCell'],⟨_,Tryz.underlying149,rfl⟩⟩
def ti150:TI:=⟨2,16,[.v (.int .i64 0),.v (.int .i64 0)],.st [(0,3),(1,3)]⟩
theorem tok150:bY Tryz.prog 150 ti150:=⟨by kernel_rfl,by simp[ti150,aI,Value.oneCell'],⟨_,Tryz.underlying150,rfl⟩⟩
def ti172:TI:=⟨3,24,[.v (.int .i64 0),.v (.int .i64 0),.v (.int .i64 0)],.st [(0,3),(1,3),(2,3)]⟩
theorem tok172:bY Tryz.prog 172 ti172:=⟨by kernel_rfl,by simp[ti172,aI,Value.oneCell'],⟨_,Tryz.underlying172,rfl⟩⟩
def ti173:TI:=⟨3,24,[.v (.int .i64 0),.v (.int .i64 0),.v (.int .i64 0)],.st [(0,3),(1,3),(2,3)]⟩
theorem tok173:bY Tryz.prog 173 ti173:=⟨by kernel_rfl,by simp[ti173,aI,Value.oneCell'],⟨_,Tryz.underlying173,rfl⟩⟩
def ti180:TI:=⟨2,16,[.v (.int .i64 0),.v (.int .i64 0)],.st [(0,3),(1,3)]⟩
theorem tok180:bY Tryz.prog 180 ti180:=⟨by kernel_rfl,by simp[ti180,aI,Value.oneCell'],⟨_,Tryz.underlying180,rfl⟩⟩
def ti181:TI:=⟨2,16,[.v (.int .i64 0),.v (.int .i64 0)],.st [(0,3),(1,3)]⟩
theorem tok181:bY Tryz.prog 181 ti181:=⟨by kernel_rfl,by simp[ti181,aI,Value.oneCell'],⟨_,Tryz.underlying181,rfl⟩⟩
def ti184:TI:=⟨3,24,[.v (.int .i64 0),.v (.int .i64 0),.v (.int .i64 0)],.st [(0,3),(1,3),(2,3)]⟩
theorem tok184:bY Tryz.prog 184 ti184:=⟨by kernel_rfl,by simp[ti184,aI,Value.oneCell'],⟨_,Tryz.underlying184,rfl⟩⟩
def ti185:TI:=⟨3,24,[.v (.int .i64 0),.v (.int .i64 0),.v (.int .i64 0)],.st [(0,3),(1,3),(2,3)]⟩
theorem tok185:bY Tryz.prog 185 ti185:=⟨by kernel_rfl,by simp[ti185,aI,Value.oneCell'],⟨_,Tryz.underlying185,rfl⟩⟩
def ti196:TI:=⟨5,56,[.v (.int .i64 0),.v (.int .i64 0),.v (.int .i64 0),.v (.int .i64 0),.z],.st [(0,3),(1,3),(2,3),(3,3),(4,33)]⟩
theorem tok196:bY Tryz.prog 196 ti196:=⟨by kernel_rfl,by simp[ti196,aI,Value.oneCell'],⟨_,Tryz.underlying196,rfl⟩⟩
def ti197:TI:=⟨5,56,[.v (.int .i64 0),.v (.int .i64 0),.v (.int .i64 0),.v (.int .i64 0),.z],.st [(0,3),(1,3),(2,3),(3,3),(4,33)]⟩
theorem tok197:bY Tryz.prog 197 ti197:=⟨by kernel_rfl,by simp[ti197,aI,Value.oneCell'],⟨_,Tryz.underlying197,rfl⟩⟩
def ti199:TI:=⟨1,24,[.z],.sl 264⟩
theorem tok199:bY Tryz.prog 199 ti199:=⟨by kernel_rfl,by simp[ti199,aI,Value.oneCell'],Tryz.underlying199⟩
def ti201:TI:=⟨3,40,[.z,.v (.int .i64 0),.v (.int .i64 0)],.st [(0,22),(1,3),(2,3)]⟩
theorem tok201:bY Tryz.prog 201 ti201:=⟨by kernel_rfl,by simp[ti201,aI,Value.oneCell'],⟨_,Tryz.underlying201,rfl⟩⟩
def ti202:TI:=⟨3,40,[.z,.v (.int .i64 0),.v (.int .i64 0)],.st [(0,22),(1,3),(2,3)]⟩
theorem tok202:bY Tryz.prog 202 ti202:=⟨by kernel_rfl,by simp[ti202,aI,Value.oneCell'],⟨_,Tryz.underlying202,rfl⟩⟩
def ti209:TI:=⟨1,8,[.v (.map none)],.mp 3 4 (.bool false)⟩
theorem tok209:bY Tryz.prog 209 ti209:=⟨by kernel_rfl,by simp[ti209,aI,Value.oneCell'],⟨Tryz.underlying209,Tryz.underlying3,by kernel_rfl,rfl⟩⟩
def ti212:TI:=⟨1,24,[.z],.sl 181⟩
theorem tok212:bY Tryz.prog 212 ti212:=⟨by kernel_rfl,by simp[ti212,aI,Value.oneCell'],Tryz.underlying212⟩
def ti215:TI:=⟨1,8,[.v (.map none)],.mp 3 3 (.int .i64 0)⟩
theorem tok215:bY Tryz.prog 215 ti215:=⟨by kernel_rfl,by simp[ti215,aI,Value.oneCell'],⟨Tryz.underlying215,Tryz.underlying3,by kernel_rfl,rfl⟩⟩
def ti263:TI:=⟨5,40,[.v (.int .i64 0),.v (.int .i64 0),.v (.int .i64 0),.v (.int .i64 0),.v (.int .i64 0)],.st [(0,3),(1,3),(2,3),(3,3),(4,3)]⟩
theorem tok263:bY Tryz.prog 263 ti263:=⟨by kernel_rfl,by simp[ti263,aI,Value.oneCell'],⟨_,Tryz.underlying263,rfl⟩⟩
def ti264:TI:=⟨5,40,[.v (.int .i64 0),.v (.int .i64 0),.v (.int .i64 0),.v (.int .i64 0),.v (.int .i64 0)],.st [(0,3),(1,3),(2,3),(3,3),(4,3)]⟩
theorem tok264:bY Tryz.prog 264 ti264:=⟨by kernel_rfl,by simp[ti264,aI,Value.oneCell'],⟨_,Tryz.underlying264,rfl⟩⟩
def ti272:TI:=⟨1,8,[.v (.int .u64 0)],.sc (.int .u64)⟩
theorem tok272:bY Tryz.prog 272 ti272:=⟨by kernel_rfl,by simp[ti272,aI,Value.oneCell'],⟨Tryz.underlying272,trivial⟩⟩
def ti308:TI:=⟨1,8,[.v (.int .i64 0)],.sc (.int .i64)⟩
theorem tok308:bY Tryz.prog 308 ti308:=⟨by kernel_rfl,by simp[ti308,aI,Value.oneCell'],⟨Tryz.underlying308,trivial⟩⟩
def ti315:TI:=⟨1,4,[.v (.int .u32 0)],.sc (.int .u32)⟩
theorem tok315:bY Tryz.prog 315 ti315:=⟨by kernel_rfl,by simp[ti315,aI,Value.oneCell'],⟨Tryz.underlying315,trivial⟩⟩
def ti317:TI:=⟨1,8,[.v (.int .u64 0)],.sc (.int .u64)⟩
theorem tok317:bY Tryz.prog 317 ti317:=⟨by kernel_rfl,by simp[ti317,aI,Value.oneCell'],⟨Tryz.underlying317,trivial⟩⟩
def ti329:TI:=⟨2,32,[.v (.int .i64 0),.z],.st [(0,3),(1,33)]⟩
theorem tok329:bY Tryz.prog 329 ti329:=⟨by kernel_rfl,by simp[ti329,aI,Value.oneCell'],⟨_,Tryz.underlying329,rfl⟩⟩
def ti330:TI:=⟨2,32,[.v (.int .i64 0),.z],.st [(0,3),(1,33)]⟩
theorem tok330:bY Tryz.prog 330 ti330:=⟨by kernel_rfl,by simp[ti330,aI,Value.oneCell'],⟨_,Tryz.underlying330,rfl⟩⟩
def ti337:TI:=⟨1,8,[.v (.int .u64 0)],.sc (.int .u64)⟩
theorem tok337:bY Tryz.prog 337 ti337:=⟨by kernel_rfl,by simp[ti337,aI,Value.oneCell'],⟨Tryz.underlying337,trivial⟩⟩
def ti363:TI:=⟨0,0,[],.st [(0,362)]⟩
theorem tok363:bY Tryz.prog 363 ti363:=⟨by kernel_rfl,by simp[ti363,aI,Value.oneCell'],⟨_,Tryz.underlying363,rfl⟩⟩
def ti364:TI:=⟨0,0,[],.st [(0,362)]⟩
theorem tok364:bY Tryz.prog 364 ti364:=⟨by kernel_rfl,by simp[ti364,aI,Value.oneCell'],⟨_,Tryz.underlying364,rfl⟩⟩
def ti366:TI:=⟨1,1,[.v (.int .u8 0)],.sc (.int .u8)⟩
theorem tok366:bY Tryz.prog 366 ti366:=⟨by kernel_rfl,by simp[ti366,aI,Value.oneCell'],⟨Tryz.underlying366,trivial⟩⟩
def ti367:TI:=⟨1,1,[.v (.int .u8 0)],.sc (.int .u8)⟩
theorem tok367:bY Tryz.prog 367 ti367:=⟨by kernel_rfl,by simp[ti367,aI,Value.oneCell'],⟨Tryz.underlying367,trivial⟩⟩
def ti370:TI:=⟨1,4,[.v (.int .i32 0)],.sc (.int .i32)⟩
theorem tok370:bY Tryz.prog 370 ti370:=⟨by kernel_rfl,by simp[ti370,aI,Value.oneCell'],⟨Tryz.underlying370,trivial⟩⟩
def ti371:TI:=⟨1,4,[.v (.int .i32 0)],.sc (.int .i32)⟩
theorem tok371:bY Tryz.prog 371 ti371:=⟨by kernel_rfl,by simp[ti371,aI,Value.oneCell'],⟨Tryz.underlying371,trivial⟩⟩
def tab:List (Nat × TI):=[(3,ti3),(4,ti4),(2,ti2),(5,ti5),(6,ti6),(7,ti7),(8,ti8),(9,ti9),(10,ti10),(11,ti11),(12,ti12),(13,ti13),(14,ti14),(21,ti21),(22,ti22),(24,ti24),(25,ti25),(26,ti26),(27,ti27),(28,ti28),(29,ti29),(30,ti30),(31,ti31),(32,ti32),(33,ti33),(34,ti34),(35,ti35),(36,ti36),(37,ti37),(38,ti38),(39,ti39),(40,ti40),(41,ti41),(42,ti42),(43,ti43),(44,ti44),(45,ti45),(46,ti46),(47,ti47),(48,ti48),(49,ti49),(50,ti50),(51,ti51),(52,ti52),(53,ti53),(54,ti54),(55,ti55),(56,ti56),(57,ti57),(65,ti65),(66,ti66),(70,ti70),(71,ti71),(74,ti74),(75,ti75),(104,ti104),(105,ti105),(120,ti120),(121,ti121),(130,ti130),(131,ti131),(133,ti133),(134,ti134),(144,ti144),(149,ti149),(150,ti150),(172,ti172),(173,ti173),(180,ti180),(181,ti181),(184,ti184),(185,ti185),(196,ti196),(197,ti197),(199,ti199),(201,ti201),(202,ti202),(209,ti209),(212,ti212),(215,ti215),(263,ti263),(264,ti264),(272,ti272),(308,ti308),(315,ti315),(317,ti317),(329,ti329),(330,ti330),(337,ti337),(363,ti363),(364,ti364),(366,ti366),(367,ti367),(370,ti370),(371,ti371)]
theorem Mx:M3 Tryz.prog tab:=⟨tok3,tok4,tok2,tok5,tok6,tok7,tok8,tok9,tok10,tok11,tok12,tok13,tok14,tok21,tok22,tok24,tok25,tok26,tok27,tok28,tok29,tok30,tok31,tok32,tok33,tok34,tok35,tok36,tok37,tok38,tok39,tok40,tok41,tok42,tok43,tok44,tok45,tok46,tok47,tok48,tok49,tok50,tok51,tok52,tok53,tok54,tok55,tok56,tok57,tok65,tok66,tok70,tok71,tok74,tok75,tok104,tok105,tok120,tok121,tok130,tok131,tok133,tok134,tok144,tok149,tok150,tok172,tok173,tok180,tok181,tok184,tok185,tok196,tok197,tok199,tok201,tok202,tok209,tok212,tok215,tok263,tok264,tok272,tok308,tok315,tok317,tok329,tok330,tok337,tok363,tok364,tok366,tok367,tok370,tok371,trivial⟩
def TE:Nat->Option TI:=FL tab
theorem yu:∀ t i,TE t=some i->bY Tryz.prog t i:=B1 Mx
end Go.Proofs.YtembpgjjnioagaaGreat.Ab
