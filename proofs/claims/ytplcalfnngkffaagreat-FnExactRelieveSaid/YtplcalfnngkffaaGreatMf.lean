/- Regions whose order is given with them: the operations that look at slots alone may run any time. No condition. -/
import Derived.Test.YtplcalfnngkffaaGreatMe
import Derived.Test.YtplcalfnngkffaaGreatMa
import Derived.Test.YtplcalfnngkffaaGreatMd
import Derived.KernelRfl
import Derived.Test.YtplcalfnngkffaaGreatProg
set_option linter.unusedVariables false

namespace Go.Proofs.YtplcalfnngkffaaGreat.Ab
open Go.RowKit
section
variable {P:Program} {w0 w w1:World} {M S0 S:ab} {N:fF} {φ:Nat→ab} {F:Nat→AV} {a:Act} {TE:Nat→Option TI} {ops:Array Oper} {ds:List Nat}
def MF (P:Program) (TE:Nat→Option TI) (ops:Array Oper) (p:Nat) (F:Nat→AV):Prop:=∃ d,(cZ ops p).dst=some d∧J0 F (cZ ops p)=none∧dL P TE F (cZ ops p).op fun av=>av=F d
def wG (P:Program) (TE:Nat→Option TI) (N:fF) (ops:Array Oper) (ds:List Nat) (listed:Array Bool) (i:Nat) (K:(Nat→AV)→Prop) (F:Nat→AV):Prop:=
 match ops[i]? with
 | none=>K F
 | some o=>if pQ ds o=true then kN P TE N ops o K F else n6 P TE N ops o (fun F1=>(∀ p,listed.getD p false=true→pQ ds (cZ ops p)=true→ud ops i p=false→MF P TE ops p F1)∧K F1) F
def Gm (P:Program) (TE:Nat→Option TI) (N:fF) (ops:Array Oper) (ds:List Nat) (K:(Nat→AV)→Prop):Nat→Array Bool→(Nat→AV)→Prop
 | 0,listed,F=>Region.ready .any ops listed=[]∧K F
 | fuel+1,listed,F=>(Region.ready .any ops listed=[]→K F)∧∀ i,i∈Region.ready .any ops listed→wG P TE N ops ds listed i (Gm P TE N ops ds K fuel (listed.setIfInBounds i true)) F
theorem B4 (hTE:∀ t i,TE t=some i→bA P t i) {listed:Array Bool} {i:Nat} {K:(Nat→AV)→Prop} (hp:wG P TE N ops ds listed i K F) (hs:St w0 M S0 N F a w) {Kc:Act→World→Prop} {Q:Exit→Act→World→Prop}
  (hk:∀ F' a' w',K F'→St w0 M S0 N F' a' w'→Kc a' w'):wpOp P ops Q i Kc a w:=by
 unfold wG at hp
 unfold wpOp
 cases ho:ops[i]? with
 | none=>rw[ho]at hp;exact hk F a w hp hs
 | some o=>
  rw[ho]at hp
  simp only at hp ⊢
  obtain⟨S,φ,h⟩:=hs
  have:if Region.wanted o (yielded ops a.tmps) then o.wp P a w Kc Q else Kc (a.put o.dst undef) w:=by
   split at hp
   ·exact h.oneP hTE hp hk
   ·exact h.one hTE (ma hp fun F' h=>h.2) hk
  split
  ·rename_i hw;rw[if_pos hw]at this;exact .inl this
  ·rename_i hw;rw[if_neg hw]at this;exact this
theorem vL (hTE:∀ t i,TE t=some i→bA P t i) {K:(Nat→AV)→Prop} {Q:Exit→Act→World→Prop} (hk:∀ F' a' w',K F'→St w0 M S0 N F' a' w'→Q .normal a' w') :
  ∀ (fuel:Nat) (listed:Array Bool) (F:Nat→AV) (a:Act) (w:World),Gm P TE N ops ds K fuel listed F→St w0 M S0 N F a w→wpAny P .any ops Q fuel listed a w
 | 0,_,F,a,w,hp,hs=>⟨hp.1,hk F a w hp.2 hs⟩
 | fuel+1,_,F,a,w,hp,hs=>⟨fun h0=>hk F a w (hp.1 h0) hs,fun i hi=>B4 hTE (hp.2 i hi) hs fun F' a' w' hK hs'=>vL hTE hk fuel _ F' a' w' hK hs'⟩
def g0 (ts:List Nat) (F F1:Nat→AV):Prop:=∀ t e,(F1 t).uses e=true→e∈ts∨∃ t',(F t').uses e=true
theorem g0.refl (ts:List Nat) (F:Nat→AV):g0 ts F F:=fun t _ h=>.inr ⟨t,h⟩
theorem g0.trans {ts:List Nat} {F F1 F2:Nat→AV} (h1:g0 ts F F1) (h2:g0 ts F1 F2):g0 ts F F2:=fun t e h=>by
 rcases h2 t e h with h|⟨t',h⟩
 ·exact .inl h
 ·exact h1 t' e h
theorem g0.clean {ts:List Nat} {F1:Nat→AV} {d:Nat} (h:g0 ts F F1) (hd:d∉ts) (hc:∀ t,(F t).uses d=false):∀ t,(F1 t).uses d=false:=fun t=>by
 cases hu:(F1 t).uses d with
 | false=>rfl
 | true=>
  rcases h t d hu with h|⟨t',h⟩
  ·exact absurd h hd
  ·rw[hc t']at h;cases h
theorem g0.put {ts:List Nat} {dj:Nat} {av:AV} (h:∀ e,av.uses e=true→e∈ts∨∃ t',(F t').uses e=true):g0 ts F (put F dj av):=fun t e hu=>by
 by_cases h1:t=dj
 ·subst h1;rw[mc]at hu;exact h e hu
 ·rw[gw _ _ h1]at hu;exact .inr ⟨t,(Mo hu).1⟩
theorem J3 {t e:Nat} {v:AV} (h:(qW t v).uses e=true):v.uses e=true:=by
 cases v with
 | bor t' off st ag=>simp only[qW]at h;cases hb:Nat.beq t' t<;>rw[hb]at h<;>first|exact h|cases h
 | ref t' off st=>cases st<;>simp only[qW]at h<;>first|exact h|(cases hb:Nat.beq t' t<;>rw[hb]at h<;>first|exact h|cases h)
 | _=>exact h
theorem g0.updH {ts:List Nat} {t:Nat} {k:Kd} {cs:List C} : g0 ts F (updH F t k cs):=fun s e hu=>by
 unfold Ab.updH at hu
 cases hb:Nat.beq s t with
 | true=>rw[hb]at hu;cases hu
 | false=>rw[hb]at hu;exact .inr ⟨s,J3 hu⟩
theorem dD {d t:Nat} {av:AV} (h:t≠d):eff none d av F t=F t:=by unfold eff;rw[if_neg h,if_neg (fun e=>by cases e)]
theorem ou {d:Nat} {mv:Option Nat} {av:AV} : eff mv d av F d=av:=by unfold eff;rw[if_pos rfl]
theorem Kq {d:Nat} : eff none d (F d) F=F:=by
 funext t
 by_cases h:t=d
 ·subst h;rw[ou]
 ·rw[dD h]
theorem nS {d:Nat} {av:AV} {ts:List Nat} (hd:d∉ts) (hc:∀ t,(F t).uses d=false):iJ (eff none d av F) F ts:=fun t ht=>by
 have h1:t≠d:=fun e=>hd (e ▸ ht)
 rw[dD h1]
 refine⟨rfl,fun t' hu k cs hh=>?_⟩
 have h2:t'≠d:=fun e=>by rw[e,hc t]at hu;cases hu
 rwa [dD h2]at hh
theorem Nc {d dj:Nat} {v av:AV} (hne:dj≠d):put (eff none d v F) dj av=eff none d (kl dj v) (put F dj av):=by
 funext t
 by_cases h1:t=dj
 ·subst h1;rw[mc,dD hne,mc]
 ·rw[gw _ _ h1]
  by_cases h2:t=d
  ·subst h2;rw[ou,ou]
  ·rw[dD h2,dD h2,gw _ _ h1]
theorem AW {d t:Nat} {k':Kd} {v:AV} {cs':List C} (hne:t≠d):updH (eff none d v F) t k' cs'=eff none d (qW t v) (updH F t k' cs'):=by
 funext s
 by_cases h2:s=d
 ·subst h2
  rw[ou]
  unfold updH
  rw[show Nat.beq s t=false by rw[←Bool.not_eq_true,Nat.beq_eq];exact Ne.symm hne,ou];rfl
 ·rw[dD h2]
  unfold updH
  rw[dD h2]
theorem vi {d t:Nat} {k':Kd} {cs':List C} (hne:t≠d):updH F t k' cs' d=qW t (F d):=by
 unfold updH
 rw[show Nat.beq d t=false by rw[←Bool.not_eq_true,Nat.beq_eq];exact Ne.symm hne];rfl
theorem G1 {d t:Nat} {k':Kd} {v:AV} {cs':List C} (hne:t≠d):updN (eff none d v F) t k' cs'=eff none d (Ly t v) (updN F t k' cs'):=by
 funext s
 by_cases h2:s=d
 ·subst h2
  rw[ou]
  unfold updN
  rw[show Nat.beq s t=false by rw[←Bool.not_eq_true,Nat.beq_eq];exact Ne.symm hne,ou];rfl
 ·rw[dD h2]
  unfold updN
  rw[dD h2]
theorem BI {d t:Nat} {k':Kd} {cs':List C} (hne:t≠d):updN F t k' cs' d=Ly t (F d):=by
 unfold updN
 rw[show Nat.beq d t=false by rw[←Bool.not_eq_true,Nat.beq_eq];exact Ne.symm hne];rfl
theorem JR {t e:Nat} {v:AV} (h:(Ly t v).uses e=true):v.uses e=true:=by
 cases v with
 | bor t' off st ag=>
  cases st with
  | nil=>exact h
  | cons s st=>simp only[Ly]at h;cases hb:Nat.beq t' t<;>rw[hb]at h<;>first|exact h|cases h
 | ref t' off st=>
  cases st with
  | nil=>exact h
  | cons s st=>simp only[Ly]at h;cases hb:Nat.beq t' t<;>rw[hb]at h<;>first|exact h|cases h
 | _=>exact h
theorem g0.updN {ts:List Nat} {t:Nat} {k:Kd} {cs:List C} : g0 ts F (updN F t k cs):=fun s e hu=>by
 unfold Ab.updN at hu
 cases hb:Nat.beq s t with
 | true=>rw[hb]at hu;cases hu
 | false=>rw[hb]at hu;exact .inr ⟨s,JR hu⟩
def Fq (d:Nat) (ts:List Nat) (v:AV) (F:Nat→AV) (K:(Nat→AV)→Prop) (F1:Nat→AV):Prop:=∃ v1,(v=F d→v1=F1 d)∧K (eff none d v1 F1)∧g0 ts F F1
def Pd (d:Nat) (ts:List Nat) (v:AV) (F:Nat→AV) (K:(Nat→AV)→Option Nat→List C→Prop) (F1:Nat→AV) (ag:Option Nat) (cs:List C):Prop:=∃ v1,(v=F d→v1=F1 d)∧K (eff none d v1 F1) ag cs∧g0 ts F F1
theorem Fq.trans {d:Nat} {ts:List Nat} {v v1:AV} {F1 F2:Nat→AV} {K:(Nat→AV)→Prop} (h1:v=F d→v1=F1 d) (u1:g0 ts F F1) (h:Fq d ts v1 F1 K F2):Fq d ts v F K F2:=by
 obtain⟨v2,h2,hK,u2⟩:=h
 exact⟨v2,fun e=>h2 (h1 e),hK,u1.trans u2⟩
theorem oV {d dj:Nat} {ts:List Nat} {v av:AV} {K:(Nat→AV)→Prop} (h:bO N (eff none d v F) dj av K) (hne:dj≠d) (hav:∀ e,av.uses e=true→e∈ts∨∃ t',(F t').uses e=true):bO N F dj av (Fq d ts v F K):=by
 unfold bO at h ⊢
 cases hb:(N.free dj&&!av.uses dj) with
 | false=>rw[hb]at h;exact h.elim
 | true=>
  rw[hb]at h
  simp only[cond_true]at h ⊢
  rw[Nc hne]at h
  exact⟨kl dj v,fun e=>by rw[gw _ _ (Ne.symm hne),e],h,g0.put hav⟩
theorem qL {ts:List Nat} {k:Kd} {cs:List C} : ∀ e,(AV.hold k cs).uses e=true→e∈ts∨∃ t',(F t').uses e=true:=fun e h=>by cases h
theorem FM {p:(Nat→AV)→(AV→Prop)→Prop} {d dj:Nat} {v:AV} {ts0 ts:List Nat} {K:(Nat→AV)→Prop} (h:nX p (eff none d v F) ts0 fun av=>bO N (eff none d v F) dj av K) (hne:dj≠d) (hs:∀ t,t∈ts0→t∈ts) (hd:d∉ts) (hc:∀ t,(F t).uses d=false) :
  p F fun av=>bO N F dj av (Fq d ts v F K):=by
 obtain⟨av,h1,h2,h3⟩:=h
 refine h3 F (nS (fun hm=>hd (hs d hm)) hc) _ (oV h1 hne fun e he=>?_)
 rcases h2 e he with h|⟨t,ht,h⟩
 ·exact .inl (hs e h)
 ·have hne:t≠d:=fun e=>hd (e ▸ hs t ht)
  rw[dD hne]at h
  exact .inr ⟨t,h⟩
theorem ri {d:Nat} {ts:List Nat} {v:AV} {y:Operand} {K:(Nat→AV)→Option Nat→List C→Prop} (h:gx (eff none d v F) y K) (hd:d∉tm y) (hc:∀ t,(F t).uses d=false):gx F y (Pd d ts v F K):=by
 have fin:∀ {t:Nat} {k:Kd} {cs:List C} {ag:Option Nat} {xs:List C},t≠d→K (updH (eff none d v F) t k cs) ag xs→Pd d ts v F K (updH F t k cs) ag xs:=fun {t k cs ag xs} ht h=>by
  rw[AW ht]at h
  exact⟨_,fun e=>by rw[vi ht,e],h,g0.updH⟩
 have dS:∀ {t:Nat} {k:Kd} {cs:List C} {ag:Option Nat} {xs:List C},t≠d→K (updN (eff none d v F) t k cs) ag xs→Pd d ts v F K (updN F t k cs) ag xs:=fun {t k cs ag xs} ht h=>by
  rw[G1 ht]at h
  exact⟨_,fun e=>by rw[BI ht,e],h,g0.updN⟩
 cases y with
 | tmp t=>
  have ht:t≠d:=fun e=>hd (by simp[tm,e])
  simp only[gx]at h ⊢
  rw[dD ht]at h
  cases hF:F t with
  | hold kk bs=>
   rw[hF]at h
   cases kk with
   | one=>exact fin ht h
   | agg=>exact fin ht h
   | _=>exact h.elim
  | bor t2 off st ag=>
   rw[hF]at h
   have h2:t2≠d:=fun e=>by have:=hc t;rw[hF,e]at this;simp[AV.uses]at this
   cases st with
   | cons s st=>
    simp only at h ⊢
    rw[dD h2]at h
    cases hF2:F t2 with
    | hold kk bs=>
     rw[hF2]at h
     obtain⟨r,j,e1,e2,e3,hK⟩:=Lq.out h
     exact .mk_ ⟨r,j,_,_,e1,e2,e3,rfl,rfl,dS h2 hK⟩
    | _=>rw[hF2]at h;exact h.elim
   | nil=>
    simp only at h ⊢
    rw[dD h2]at h
    cases hF2:F t2 with
    | hold kk bs=>
     rw[hF2]at h
     simp only at h ⊢
     cases hb:Nat.ble (off+ag.getD 1) bs.length with
     | false=>rw[hb]at h;exact h.elim
     | true=>rw[hb]at h;exact dS h2 h
    | _=>rw[hF2]at h;exact h.elim
  | _=>rw[hF]at h;exact h.elim
 | _=>exact h.elim
theorem Md {d:Nat} {ts:List Nat} {v:AV} {y:Operand} {K:(Nat→AV)→Option Nat→List C→Prop} (h:tG (eff none d v F) y K) (hd:d∉tm y) (hc:∀ t,(F t).uses d=false):tG F y (Pd d ts v F K):=by
 obtain⟨ag,xs,h1,h2⟩:=cH h
 refine h2 F (nS hd hc) _ ?_
 cases hn:aW xs with
 | true=>rw[hn]at h1;exact⟨v,fun e=>e,h1,g0.refl _ _⟩
 | false=>rw[hn]at h1;exact ri h1 hd hc
def P4 (d:Nat) (ts:List Nat) (v:AV) (F:Nat→AV) (K:(Nat→AV)→List C→Prop) (F1:Nat→AV) (cs:List C):Prop:=∃ v1,(v=F d→v1=F1 d)∧K (eff none d v1 F1) cs∧g0 ts F F1
theorem BQ {d:Nat} {ts:List Nat} {pl:Nat→Option (Nat × Nat)} (hdt:d∉ts):∀ {parts:List (Nat × Operand)} {cs:List C} {K:(Nat→AV)→List C→Prop} {F:Nat→AV} {v:AV},fillW pl parts cs K (eff none d v F)→(∀ p,p∈parts→d∉tm p.2)→(∀ t,(F t).uses d=false)→
  fillW pl parts cs (P4 d ts v F K) F
 | [],cs,K,F,v,h,_,hc=>⟨v,fun e=>e,h,g0.refl _ _⟩
 | p::rest,cs,K,F,v,h,hd,hc=>by
  simp only[fillW]at h ⊢
  split at h
  case h_2=>exact h.elim
  rename_i q hq
  refine sE (Md (ts:=ts) h (hd p List.mem_cons_self) hc) fun F' ag xs h=>?_
  obtain⟨v1,h1,h,u1⟩:=h
  cases hb:(Nat.beq xs.length q.2&&Nat.ble (q.1+q.2) cs.length) with
  | false=>rw[hb]at h;exact h.elim
  | true=>
   rw[hb]at h
   simp only[cond_true,ek]at h ⊢
   refine kq (BQ hdt h (fun p' hp'=>hd p' (List.mem_cons_of_mem _ hp')) (u1.clean hdt hc)) fun F2 cs2 h2=>?_
   obtain⟨v2,g1,g2,u2⟩:=h2
   exact⟨v2,fun e=>g1 (h1 e),g2,u1.trans u2⟩
theorem Jd {d dj T:Nat} {ts:List Nat} {v:AV} {parts:List (Nat × Operand)} {K:(Nat→AV)→Prop} (h:jP TE N (eff none d v F) dj T parts K) (hne:dj≠d) (hdt:d∉ts) (hd:∀ p,p∈parts→d∉tm p.2) (hc:∀ t,(F t).uses d=false) :
  jP TE N F dj T parts (Fq d ts v F K):=by
 unfold jP at h ⊢
 split at h
 case h_2=>exact h.elim
 rename_i size bytes zero flds hT
 cases ha:vm TE flds with
 | false=>rw[ha]at h;exact h.elim
 | true=>
  rw[ha]at h
  refine kq (BQ hdt h hd hc) fun F' cs h=>?_
  obtain⟨v1,h1,h,u1⟩:=h
  exact bT (oV (ts:=ts) h hne qL) fun F2 h2=>Fq.trans h1 u1 h2
theorem Li {d dj t:Nat} {ts:List Nat} {v:AV} {K:(Nat→AV)→Prop} (h:iq N (eff none d v F) dj (.tmp t) K) (hne:dj≠d) (hdt:d∉ts) (ht:t∈ts) (hc:∀ t,(F t).uses d=false):iq N F dj (.tmp t) (Fq d ts v F K):=by
 have htd:t≠d:=fun e=>hdt (e ▸ ht)
 have std:bo (eff none d v F) (.tmp t) (fun av=>bO N (eff none d v F) dj av K)→bo F (.tmp t) (fun av=>bO N F dj av (Fq d ts v F K)):=fun h=>
  FM (p:=fun F K=>bo F (.tmp t) K) (iY h) hne (fun t' h'=>by simp[tm]at h';exact h' ▸ ht) hdt hc
 simp only[iq]at h ⊢
 rw[dD htd]at h
 split at h
 ·rename_i sh xs hF
  cases hn:aW xs with
  | true=>rw[hn]at h;exact oV h hne qL
  | false=>
   rw[hn]at h
   simp only[cond_false]at h ⊢
   rw[AW htd]at h
   exact bT (oV (ts:=ts) h hne qL) fun F2 h2=>Fq.trans (F1:=updH F t (.tup sh) _) (fun e=>by rw[vi htd,e]) g0.updH h2
 all_goals exact std h
theorem H1 {d dj:Nat} {ts:List Nat} {v:AV} {x:Operand} {K:(Nat→AV)→Prop} (h:jX N (eff none d v F) dj x K) (hne:dj≠d) (hdt:d∉ts) (ht:∀ t,t∈tm x→t∈ts) (hc:∀ t,(F t).uses d=false):jX N F dj x (Fq d ts v F K):=by
 have m1:∀ y,(∀ t,t∈tm y→t∈ts)→bo (eff none d v F) y (fun av=>bO N (eff none d v F) dj av K)→bo F y (fun av=>bO N F dj av (Fq d ts v F K)):=fun y hy h=>FM (p:=fun F K=>bo F y K) (iY h) hne hy hdt hc
 have m2:∀ y,(∀ t,t∈tm y→t∈ts)→gx (eff none d v F) y (fun F' ag cs=>bO N F' dj (.hold (jc ag) cs) K)→gx F y (fun F' ag cs=>bO N F' dj (.hold (jc ag) cs) (Fq d ts v F K)):=fun y hy h=>
  fR (ri (ts:=ts) h (fun hm=>hdt (hy d hm)) hc) fun F' ag cs h=>by
   obtain⟨v1,h1,h,u1⟩:=h
   exact bT (oV (ts:=ts) h hne qL) fun F2 h2=>Fq.trans h1 u1 h2
 cases x with
 | tmp t=>
  have htd:t≠d:=fun e=>hdt (e ▸ ht t (by simp[tm]))
  unfold jX at h ⊢
  simp only at h ⊢
  rw[dD htd]at h
  cases hF:F t with
  | hold k cs=>
   rw[hF]at h
   cases k with
   | one=>
    simp only at h ⊢
    cases hn:aW cs with
    | true=>rw[hn]at h;exact m1 (.tmp t) ht h
    | false=>rw[hn]at h;exact m2 (.tmp t) ht h
   | agg=>
    simp only at h ⊢
    cases hn:aW cs with
    | true=>rw[hn]at h;exact m1 (.tmp t) ht h
    | false=>rw[hn]at h;exact m2 (.tmp t) ht h
   | tup sh=>exact m1 _ ht h
   | box=>exact m1 _ ht h
  | bor t2 off st ag=>
   rw[hF]at h
   simp only at h ⊢
   cases hn:N.al dj with
   | true=>rw[hn]at h;exact m1 (.tmp t) ht h
   | false=>rw[hn]at h;exact m2 (.tmp t) ht h
  | dead=>rw[hF]at h;exact m1 _ ht h
  | ref=>rw[hF]at h;exact m1 _ ht h
  | iref=>rw[hF]at h;exact m1 _ ht h
  | fn=>rw[hF]at h;exact m1 _ ht h
  | fv=>rw[hF]at h;exact m1 _ ht h
 | const c=>exact m1 (.const c) ht h
 | global g=>exact m1 (.global g) ht h
 | func f=>exact m1 (.func f) ht h
theorem GV {d:Nat} {ts:List Nat} {v:AV} {x:Operand} {cs:List C} {K:(Nat→AV)→Prop} (h:pD (eff none d v F) x cs K) (hd:d∉tm x) (hc:∀ t,(F t).uses d=false):pD F x cs (Fq d ts v F K):=by
 have fin:∀ {t:Nat} {k:Kd} {cs:List C},t≠d→K (updH (eff none d v F) t k cs)→Fq d ts v F K (updH F t k cs):=fun {t k cs} ht h=>by
  rw[AW ht]at h
  exact⟨_,fun e=>by rw[vi ht,e],h,g0.updH⟩
 have dS:∀ {t:Nat} {k:Kd} {cs:List C},t≠d→K (updN (eff none d v F) t k cs)→Fq d ts v F K (updN F t k cs):=fun {t k cs} ht h=>by
  rw[G1 ht]at h
  exact⟨_,fun e=>by rw[BI ht,e],h,g0.updN⟩
 have finP:∀ {t:Nat} {k:Kd} {cs:List C},t≠d→K (LH (eff none d v F) t k cs)→Fq d ts v F K (LH F t k cs):=fun {t k cs} ht h=>by
  cases k with
  | box=>exact fin ht h
  | _=>exact dS ht h
 cases x with
 | tmp t=>
  have ht:t≠d:=fun e=>hd (by simp[tm,e])
  simp only[pD]at h ⊢
  rw[dD ht]at h
  cases hF:F t with
  | hold k bs=>
   rw[hF]at h
   cases k with
   | box=>
    simp only at h ⊢
    cases hb:Nat.ble cs.length bs.length with
    | false=>rw[hb]at h;exact h.elim
    | true=>rw[hb]at h;simp only[cond_true,ek]at h ⊢;exact fin ht h
   | _=>exact h.elim
  | ref t2 off st=>
   rw[hF]at h
   have h2:t2≠d:=fun e=>by have:=hc t;rw[hF,e]at this;simp[AV.uses]at this
   cases st with
   | cons s st=>
    simp only at h ⊢
    rw[dD h2]at h
    cases hF2:F t2 with
    | hold k bs=>
     rw[hF2]at h
     obtain⟨r,j,e1,e2,e3,hK⟩:=Pu.out h
     exact Pu.mk e1 e2 e3 rfl (finP h2 hK)
    | _=>rw[hF2]at h;exact h.elim
   | nil=>
    simp only at h ⊢
    rw[dD h2]at h
    cases hF2:F t2 with
    | hold k bs=>
     rw[hF2]at h
     cases k with
     | box=>
      simp only at h ⊢
      cases hb:Nat.ble (off+cs.length) bs.length with
      | false=>rw[hb]at h;exact h.elim
      | true=>rw[hb]at h;simp only[cond_true,ek]at h ⊢;exact fin h2 h
     | _=>exact h.elim
    | _=>rw[hF2]at h;exact h.elim
  | _=>rw[hF]at h;exact h.elim
 | _=>exact h.elim
theorem JN {d T:Nat} {ts:List Nat} {v:AV} {x y:Operand} {K:(Nat→AV)→Prop} (h:mR TE (eff none d v F) T x y K) (hdt:d∉ts) (hx:d∉tm x) (hy:d∉tm y) (hc:∀ t,(F t).uses d=false):mR TE F T x y (Fq d ts v F K):=by
 unfold mR at h ⊢
 split at h
 ·rename_i i hT
  obtain⟨ag,cs,h1,h2⟩:=cH h
  refine h2 F (nS hy hc) _ ?_
  cases hl:Nat.beq cs.length i.size with
  | false=>rw[hl]at h1;exact h1.elim
  | true=>
   rw[hl]at h1
   simp only[cond_true]at h1 ⊢
   cases hn:aW cs with
   | true=>rw[hn]at h1;exact GV h1 hx hc
   | false=>
    rw[hn]at h1
    simp only[cond_false]at h1 ⊢
    refine fR (ri (ts:=ts) h1 hy hc) fun F' ag' cs' h=>?_
    obtain⟨v1,h1,h,u1⟩:=h
    cases hl':Nat.beq cs'.length i.size with
    | false=>rw[hl']at h;exact h.elim
    | true=>rw[hl']at h;exact sT (GV (ts:=ts) h hx (u1.clean hdt hc)) fun F2 h2=>Fq.trans h1 u1 h2
 ·exact h.elim
theorem MO {d:Nat} {v:AV} {y:Operand} (hd:d∉tm y):nj (eff none d v F) y=nj F y:=by
 cases y with
 | tmp t=>exact dD fun e=>hd (by simp[tm,e])
 | _=>rfl
theorem MS {d:Nat} {ts:List Nat} {v:AV} {y:Operand} {K:Bool→(Nat→AV)→List (List C)→Prop} (h:AQ (eff none d v F) y K) (hd:d∉tm y) (hc:∀ t,(F t).uses d=false):AQ F y fun fl F1 rows=>∃ v1,(v=F d→v1=F1 d)∧K fl (eff none d v1 F1) rows∧g0 ts F F1:=by
 have hev:=MO (F:=F) (v:=v) hd
 unfold AQ at h ⊢
 rw[hev]at h
 split at h
 ·refine fR (ri (ts:=ts) h hd hc) fun F1 ag cs h=>?_
  obtain⟨v1,h1,h,u1⟩:=h
  split at h
  ·exact⟨v1,h1,h,u1⟩
  ·exact h.elim
 ·rw[←hev]at h
  obtain⟨ag,xs,h1,h2⟩:=cH h
  refine h2 F (nS hd hc) _ ?_
  split at h1
  ·exact⟨v,fun e=>e,h1,g0.refl _ _⟩
  ·exact⟨v,fun e=>e,h1,g0.refl _ _⟩
  ·exact h1.elim
theorem Mh {d:Nat} {ts:List Nat} {v:AV} {y:Operand} {K:(Nat→AV)→List (List C)→Prop} (h:yA (eff none d v F) y K) (hd:d∉tm y) (hc:∀ t,(F t).uses d=false):yA F y fun F1 rows=>∃ v1,(v=F d→v1=F1 d)∧K (eff none d v1 F1) rows∧g0 ts F F1:=by
 obtain⟨ag,xs,h1,h2⟩:=cH h
 refine h2 F (nS hd hc) _ ?_
 split at h1
 ·exact⟨v,fun e=>e,h1,g0.refl _ _⟩
 ·refine fR (ri (ts:=ts) h1 hd hc) fun F1 ag cs h=>?_
  obtain⟨v1,h1,h,u1⟩:=h
  split at h
  ·exact⟨v1,h1,h,u1⟩
  ·exact h.elim
 ·exact h1.elim
theorem LL {d dj T:Nat} {ts:List Nat} {v:AV} {x y:Operand} {K:(Nat→AV)→Prop} (h:yH TE N (eff none d v F) dj T x y K) (hne:dj≠d) (hdt:d∉ts) (hx:d∉tm x) (hy:d∉tm y) (hc:∀ t,(F t).uses d=false):yH TE N F dj T x y (Fq d ts v F K):=by
 obtain⟨e,ie,h,hsel⟩:=jO h
 refine hsel _ (Dn (MS (ts:=ts) h hy hc) fun fl F1 xr h=>?_)
 obtain⟨v1,h1,h,u1⟩:=h
 refine zf (Mh (ts:=ts) h hx (u1.clean hdt hc)) fun F2 rows h=>?_
 obtain⟨v2,h2,h,u2⟩:=h
 obtain⟨a1,a2,a3,a4,a5,h⟩:=Ap.out h
 refine Ap.mk a1 a2 a3 a4 a5 rfl (bT (oV (ts:=ts) h hne qL) fun F3 h3=>?_)
 exact Fq.trans h1 u1 (Fq.trans h2 u2 h3)
theorem J5 {oj:Oper} {d:Nat} {v:AV} {K:(Nat→AV)→Prop} (hg:oj.guard=none) (hk:Nr oj.op=true) (hne:oj.dst≠some d) (hl:d∉oj.looksAt ops) (hc:∀ t,(F t).uses d=false) (h:n6 P TE N ops oj K (eff none d v F)) :
  n6 P TE N ops oj (Fq d (oj.looksAt ops) v F K) F:=by
 unfold n6 gz at h ⊢
 rw[hg]at h ⊢
 simp only at h ⊢
 have hsub:∀ t,t∈dq oj.op→t∈oj.looksAt ops:=fun t ht=>gh oj t ht
 have pur:∀ dj,dj≠d→dL P TE (eff none d v F) oj.op (fun av=>bO N (eff none d v F) dj av K)→dL P TE F oj.op fun av=>bO N F dj av (Fq d (oj.looksAt ops) v F K):=fun dj hne h=>
  FM (p:=fun F K=>dL P TE F oj.op K) (mr h) hne hsub hl hc
 have dne:∀ dj,oj.dst=some dj→dj≠d:=fun dj hd e=>hne (e ▸ hd)
 have tmI:∀ x,x∈oj.op.operands.toList→∀ t,t∈tm x→t∈oj.looksAt ops:=fun x hx t ht=>hsub t (List.mem_flatMap.2 ⟨x,hx,ht⟩)
 cases hop:oj.op with
 | store T x y=>
  rw[hop]at h tmI
  simp only[KU]at h ⊢
  cases hd:oj.dst with
  | some dj=>rw[hd]at h;simp only[qm]at h;exact h.elim
  | none=>
   rw[hd]at h
   simp only at h ⊢
   exact JN h hl (fun hm=>hl (tmI x (by simp[Op.operands]) d hm)) (fun hm=>hl (tmI y (by simp[Op.operands]) d hm)) hc
 | move x=>
  rw[hop]at h tmI
  cases hd:oj.dst with
  | none=>rw[hd]at h;exact h.elim
  | some dj=>
   rw[hd]at h
   cases x with
   | tmp t=>
    simp only[KU,qm]at h ⊢
    exact Li h (dne dj hd) hl (tmI (.tmp t) (by simp[Op.operands]) t (by simp[tm])) hc
   | _=>rw[hop]at hk;cases hk
 | assign x=>
  rw[hop]at h tmI
  cases hd:oj.dst with
  | none=>rw[hd]at h;exact h.elim
  | some dj=>
   rw[hd]at h
   simp only[KU,qm]at h ⊢
   exact H1 h (dne dj hd) hl (tmI x (by simp[Op.operands])) hc
 | build T ps=>
  rw[hop]at h tmI
  cases hd:oj.dst with
  | none=>rw[hd]at h;exact h.elim
  | some dj=>
   rw[hd]at h
   simp only[KU,qm]at h ⊢
   refine Jd h (dne dj hd) hl (fun p hp hm=>hl (tmI p.2 ?_ d hm)) hc
   simp only[Op.operands]
   simpa using ⟨p.1,by simpa using hp⟩
 | extract x i=>rw[hop]at h pur;cases hd:oj.dst with|none=>rw[hd]at h;exact h.elim|some dj=>rw[hd]at h;exact pur dj (dne dj hd) h
 | load T x=>rw[hop]at h pur;cases hd:oj.dst with|none=>rw[hd]at h;exact h.elim|some dj=>rw[hd]at h;exact pur dj (dne dj hd) h
 | fieldAddr T x i=>rw[hop]at h pur;cases hd:oj.dst with|none=>rw[hd]at h;exact h.elim|some dj=>rw[hd]at h;exact pur dj (dne dj hd) h
 | field T x i=>rw[hop]at h pur;cases hd:oj.dst with|none=>rw[hd]at h;exact h.elim|some dj=>rw[hd]at h;exact pur dj (dne dj hd) h
 | binOp o T x y T2=>rw[hop]at h pur;cases hd:oj.dst with|none=>rw[hd]at h;exact h.elim|some dj=>rw[hd]at h;exact pur dj (dne dj hd) h
 | unOp o T x=>rw[hop]at h pur;cases hd:oj.dst with|none=>rw[hd]at h;exact h.elim|some dj=>rw[hd]at h;exact pur dj (dne dj hd) h
 | call c=>
  rw[hop]at hk h tmI
  cases ha:wa c with
  | none=>simp[Nr,ha]at hk
  | some p=>
   have hcc:=uF ha
   subst hcc
   cases hd:oj.dst with
   | none=>rw[hd]at h;exact h.elim
   | some dj=>
    rw[hd]at h
    simp only[KU,qm,ha]at h ⊢
    exact LL h (dne dj hd) hl (fun hm=>hl (tmI p.2.1 (by simp[Op.operands,Call.operands]) d hm)) (fun hm=>hl (tmI p.2.2 (by simp[Op.operands,Call.operands]) d hm)) hc
 | _=>rw[hop]at hk;cases hk
theorem MM {oj:Oper} {d:Nat} {K:(Nat→AV)→Prop} (hg:oj.guard=none) (hk:Nr oj.op=true) (hne:oj.dst≠some d) (hl:d∉oj.looksAt ops) (hc:∀ t,(F t).uses d=false) (h:n6 P TE N ops oj K F) :
  n6 P TE N ops oj (fun F1=>K F1∧g0 (oj.looksAt ops) F F1) F:=by
 refine ma (J5 (d:=d) (v:=F d) hg hk hne hl hc (by rw[Kq];exact h)) fun F1 h1=>?_
 obtain⟨v1,e,hK,u⟩:=h1
 rw[e rfl,Kq]at hK
 exact⟨hK,u⟩
structure lx (ops:Array Oper) (ds:List Nat) (F:Nat→AV) (listed:Array Bool):Prop where
 dst:∀ (j:Nat) (o:Oper) (d:Nat),pQ ds o=true→ops[j]? = some o→listed.getD j true=false→o.dst=some d→∀ t,(F t).uses d=false
 mv:∀ (j:Nat) (o:Oper) (T:Option Nat) (s:Nat),pQ ds o=true→ops[j]? = some o→listed.getD j true=false→o.guard=none→nz o.op=some (T,s)→iT ops o s=true→∀ t,(F t).uses s=false
theorem lx.put {j d:Nat} {mv:Option Nat} {listed:Array Bool} {av:AV} (h:lx ops ds F listed) (hav:∀ j' o' d',pQ ds o'=true→j'≠j→ops[j']? = some o'→listed.getD j' true=false→o'.dst=some d'→av.uses d'=false)
  (hmv:∀ j' o' T s,pQ ds o'=true→j'≠j→ops[j']? = some o'→listed.getD j' true=false→o'.guard=none→nz o'.op=some (T,s)→iT ops o' s=true→av.uses s=false) :
  lx ops ds (eff mv d av F) (listed.setIfInBounds j true):=by
 refine⟨fun j' o' d' hm hj' hl hd' t=>?_,fun j' o' T s hm hj' hl hg hmo hso t=>?_⟩
 ·have hne:=ig hl
  rw[getD_set_ne true (Ne.symm hne)]at hl
  exact je (hav j' o' d' hm hne hj' hl hd') (h.dst j' o' d' hm hj' hl hd' t)
 ·have hne:=ig hl
  rw[getD_set_ne true (Ne.symm hne)]at hl
  exact je (hmv j' o' T s hm hne hj' hl hg hmo hso) (h.mv j' o' T s hm hj' hl hg hmo hso t)
theorem uT {o:Oper} (h:Nz o=true):o.guard=none:=by
 unfold Nz at h
 cases hg:o.guard with
 | none=>rfl
 | some p=>rw[hg]at h;cases h
theorem J9 {ts:List Nat} {d:Nat} (h:(!ts.any (Nat.beq d))=true):d∉ts:=fun hm=>by
 have:ts.any (Nat.beq d)=true:=List.any_eq_true.2 ⟨d,hm,Nat.beq_refl d⟩
 rw[this]at h;cases h
theorem Ki {oj oa:Oper} {d:Nat} (h:Pa ops oj oa=true) (hd:oa.dst=some d):oj.guard=none∧Nr oj.op=true∧oj.dst≠some d∧d∉oj.looksAt ops∧oa.guard=none∧d∉oa.looksAt ops∧∀ T s,nz oa.op=some (T,s)→iT ops oa s=false:=by
 unfold Pa at h
 rw[hd]at h
 simp only[Bool.and_eq_true]at h
 obtain⟨⟨⟨⟨⟨⟨h1,h2⟩,h3⟩,h4⟩,h5⟩,h6⟩,h7⟩:=h
 refine⟨uT h1,h2,fun e=>?_,J9 h4,uT h5,J9 h6,fun T s e=>?_⟩
 ·rw[e]at h3;simp at h3
 ·rw[e]at h7;simpa using h7
theorem KN {j i:Nat} (h:ud ops j i=true):nu ops j i:=rC j _ (fun _ hi'=>.one (uB hi')) i h
theorem GU {o:Oper} (h:pQ ds o=true):∃ d,o.dst=some d∧ds.any (Nat.beq d)=true:=by
 unfold pQ at h
 cases hd:o.dst with
 | none=>rw[hd]at h;cases h
 | some d=>rw[hd]at h;exact⟨d,rfl,h⟩
structure N1 (ops:Array Oper) (ds:List Nat):Prop where
 back:∀ (j:Nat) (oj:Oper),ops[j]? = some oj→∀ e∈oj.after,Region.binds .any e=true→e.on<j
 apart:∀ (i j:Nat) (oi oj:Oper),pQ ds oi=true→pQ ds oj=true→i≠j→ops[i]? = some oi→ops[j]? = some oj→cN oj i=true∨cN oi j=true∨oi.apart ops oj=true
 look:∀ (i j:Nat) (oi oj:Oper) (d:Nat),pQ ds oi=true→i≠j→ops[i]? = some oi→ops[j]? = some oj→oi.dst=some d→d∈oj.looksAt ops→cN oj i=true
 differ:∀ (i j:Nat) (oi oj:Oper) (d:Nat),pQ ds oi=true→pQ ds oj=true→i≠j→ops[i]? = some oi→ops[j]? = some oj→oi.dst=some d→oj.dst≠some d
 nf:∀ (i j:Nat) (oi oj:Oper),pQ ds oi=true→pQ ds oj=false→i≠j→ops[i]? = some oi→ops[j]? = some oj→ud ops j i=true∨ud ops i j=true∨Pa ops oj oi=true
 mvs:∀ (j:Nat) (oj:Oper) (T:Option Nat) (s:Nat),pQ ds oj=true→ops[j]? = some oj→nz oj.op=some (T,s)→iT ops oj s=true→ds.any (Nat.beq s)=true
theorem od {listed:Array Bool} {j i:Nat} {oj:Oper} (hok:N1 ops ds) (hdc:DC ops listed) (hoj:ops[j]? = some oj) (hall:∀ e∈oj.after,Region.binds .any e=true→listed.getD e.on false=true) (hr:ud ops j i=true):listed.getD i false=true:=
 mP hdc hok.back (KN hr) (Array.getElem?_eq_some_iff.1 hoj).1 fun k hk=>by
  rw[bc hoj]at hk
  obtain⟨e,he1,he2,rfl⟩:=bX.1 hk
  exact hall e he1 he2
theorem unl {listed:Array Bool} {k:Nat} (h1:listed.getD k true=false) (h2:listed.getD k false=true):False:=by
 rcases Nat.lt_or_ge k listed.size with h'|h'
 ·simp[h']at h1 h2;rw[h1]at h2;cases h2
 ·simp[Array.getElem?_eq_none h']at h2
theorem iJ.trans {F1 F2:Nat→AV} {ts:List Nat} (h1:iJ F F1 ts) (h2:iJ F1 F2 ts):iJ F F2 ts:=fun t ht=>by
 obtain⟨a1,a2⟩:=h1 t ht
 obtain⟨b1,b2⟩:=h2 t ht
 refine⟨b1.trans a1,fun t' hu k cs hh=>b2 t' (by rw[a1];exact hu) k cs (a2 t' hu k cs hh)⟩
theorem lx.us {j:Nat} {oj:Oper} {F1:Nat→AV} {listed:Array Bool} (hok:N1 ops ds) (h:lx ops ds F listed) (hoj:ops[j]? = some oj) (hall:∀ e∈oj.after,Region.binds .any e=true→listed.getD e.on false=true) (u:g0 (oj.looksAt ops) F F1):lx ops ds F1 (listed.setIfInBounds j true):=by
 refine⟨fun j' o' d' hm hj' hl hd'=>u.clean (fun hlk=>?_) (h.dst j' o' d' hm hj' ?_ hd'),fun j' o' T s hm hj' hl hg hmo hso=>u.clean (fun hlk=>?_) (h.mv j' o' T s hm hj' ?_ hg hmo hso)⟩
 ·have hne:=ig hl
  rw[getD_set_ne true (Ne.symm hne)]at hl
  have:=hok.look j' j o' oj d' hm hne hj' hoj hd' hlk
  obtain⟨e,he1,he2,rfl⟩:=bX.1 this
  exact unl hl (hall e he1 he2)
 ·have hne:=ig hl
  rwa [getD_set_ne true (Ne.symm hne)]at hl
 ·have hne:=ig hl
  exact hne ((fK hso).2 j' j o' oj hj' hoj (cK hmo) hlk)
 ·have hne:=ig hl
  rwa [getD_set_ne true (Ne.symm hne)]at hl
theorem Nj {p d:Nat} {v:AV} {F1:Nat→AV} {op:Oper} (hop:ops[p]? = some op) (hd:d∉op.looksAt ops) (hc:∀ t,(F1 t).uses d=false) (hne:op.dst≠some d) (h:MF P TE ops p (eff none d v F1)):MF P TE ops p F1:=by
 obtain⟨dp,h1,h2,h3⟩:=h
 rw[bc hop]at h1 h2 h3
 refine⟨dp,by rw[bc hop];exact h1,?_,?_⟩
 ·rw[bc hop]
  rw[←h2]
  exact uw (ops:=ops) (nS hd hc)
 ·rw[bc hop]
  obtain⟨av,e1,-,e3⟩:=mr h3
  rw[dD (fun e=>hne (by rw[h1,e]))]at e1
  exact e3 F1 (nS (fun hm=>hd (gh op d hm)) hc) _ e1
theorem EI (hok:N1 ops ds) {i d:Nat} {oi:Oper} {K:(Nat→AV)→Prop} (hi:ops[i]? = some oi) (him:pQ ds oi=true) :
  ∀ (fuel:Nat) (listed:Array Bool) (F:Nat→AV) (mv:Option Nat) (av:AV),i∈Region.ready .any ops listed→lx ops ds F listed→DC ops listed→Yl P TE N ops oi F mv d av→Gm P TE N ops ds K fuel (listed.setIfInBounds i true) (eff mv d av F)→Gm P TE N ops ds K (fuel+1) listed F:=by
 have self:∀ (listed:Array Bool) (F:Nat→AV) (mv:Option Nat) (av:AV),i∈Region.ready .any ops listed→lx ops ds F listed→Yl P TE N ops oi F mv d av→∀ K':(Nat→AV)→Prop,K' (eff mv d av F)→kN P TE N ops oi K' F:=fun listed F mv av hr hcl hy K' hK=>by
  have hiun:=(mem_ready.1 hr).1
  refine hy.at_ F (iJ.refl _ _) (hcl.dst i oi d him hi hiun hy.dst) (fun s hs=>?_) K' hK
  obtain⟨h1,⟨T,h2⟩,h3⟩:=hy.mvl s hs
  exact hcl.mv i oi T s him hi hiun h1 h2 h3
 intro fuel
 induction fuel with
 | zero=>
  intro listed F mv av hr hcl hdc hy H
  refine⟨fun h=>(by rw[h]at hr;cases hr),fun j hj=>?_⟩
  by_cases hji:j=i
  ·subst hji
   unfold wG
   rw[hi]
   simp only[if_pos him]
   exact self listed F mv av hr hcl hy _ H
  ·have:=ready_mono hj hji
   rw[H.1]at this
   cases this
 | succ fuel ih=>
  intro listed F mv av hr hcl hdc hy H
  refine⟨fun h=>(by rw[h]at hr;cases hr),fun j hj=>?_⟩
  by_cases hji:j=i
  ·subst hji
   unfold wG
   rw[hi]
   simp only[if_pos him]
   exact self listed F mv av hr hcl hy _ H
  ·have h1:=H.2 j (ready_mono hj hji)
   obtain⟨hjun,oj,hoj,hall⟩:=mem_ready.1 hj
   obtain⟨hiun,oi',hoi',halli⟩:=mem_ready.1 hr
   rw[hi]at hoi'
   simp only[Option.some.injEq]at hoi'
   subst hoi'
   have noedge:∀ k ok,ops[k]? = some ok→listed.getD k true=false→cN oj k=false:=fun k ok hk hkun=>by
    rw[←Bool.not_eq_true]
    intro he
    obtain⟨e,he1,he2,he3⟩:=bX.1 he
    exact unl hkun (he3 ▸ hall e he1 he2)
   have noedge':∀ k ok,ops[k]? = some ok→listed.getD k true=false→cN oi k=false:=fun k ok hk hkun=>by
    rw[←Bool.not_eq_true]
    intro he
    obtain⟨e,he1,he2,he3⟩:=bX.1 he
    exact unl hkun (he3 ▸ halli e he1 he2)
   have cd:∀ t,(F t).uses d=false:=hcl.dst i oi d him hi hiun hy.dst
   unfold wG at h1 ⊢
   rw[hoj]at h1 ⊢
   simp only at h1 ⊢
   by_cases hjm:pQ ds oj=true
   case neg=>
    rw[if_neg hjm]at h1 ⊢
    have hji1:ud ops j i=false:=by
     rw[←Bool.not_eq_true]
     exact fun h=>unl hiun (od hok hdc hoj hall h)
    have hij1:ud ops i j=false:=by
     rw[←Bool.not_eq_true]
     exact fun h=>unl hjun (od hok hdc hi halli h)
    have hfb:Pa ops oj oi=true:=by
     rcases hok.nf i j oi oj him (by simpa using hjm) (Ne.symm hji) hi hoj with h|h|h
     ·rw[hji1]at h;cases h
     ·rw[hij1]at h;cases h
     ·exact h
    obtain⟨g1,g2,g3,g4,g5,g6,g7⟩:=Ki hfb hy.dst
    have hmv:mv=none:=by
     cases mv with
     | none=>rfl
     | some s=>
      obtain⟨-,⟨T,q1⟩,q2⟩:=hy.mvl s rfl
      rw[g7 T s q1]at q2;cases q2
    subst hmv
    refine ma (J5 g1 g2 g3 g4 cd h1) fun F1 hF1=>?_
    obtain⟨v,-,⟨hchk,hrun⟩,u⟩:=hF1
    have cd1:∀ t,(F1 t).uses d=false:=u.clean g4 cd
    have hisz:i<listed.size:=by
     rcases Nat.lt_or_ge i listed.size with h|h
     ·exact h
     ·simp[Array.getElem?_eq_none h]at hiun
    have hrd:MF P TE ops i (eff none d v F1):=hchk i (by simp[hisz]) (by rw[bc hi];exact him) hji1
    refine⟨fun p hp1 hp2 hp3=>?_,ih (listed.setIfInBounds j true) F1 none v (ready_mono hr (Ne.symm hji)) (hcl.us hok hoj hall u) (hdc.put hj) ?_ (by rw[Array.setIfInBounds_comm _ _ hji];exact hrun)⟩
    ·have hpi:p≠i:=fun e=>by subst e;exact unl hiun hp1
     have hpl:p<ops.size:=by
      rcases Nat.lt_or_ge p ops.size with h|h
      ·exact h
      ·rw[show cZ ops p=default by simp[cZ,Array.getD_eq_getD_getElem?,Array.getElem?_eq_none h]]at hp2
       cases hp2
     have h0:ops[p]? = some ops[p]:=Array.getElem?_eq_getElem hpl
     have hp2':=hp2
     rw[bc h0]at hp2'
     refine Nj h0 (fun hlk=>?_) cd1 (hok.differ i p oi _ d him hp2' (Ne.symm hpi) hi h0 hy.dst) (hchk p (getD_set_true hp1) hp2 hp3)
     have:=hok.look i p oi _ d him (Ne.symm hpi) hi h0 hy.dst hlk
     exact unl hiun (hdc p _ h0 hp1 i this)
    ·obtain⟨dp,q1,q2,q3⟩:=hrd
     rw[bc hi]at q1 q2 q3
     have hdp:dp=d:=by rw[hy.dst]at q1;simpa using q1.symm
     subst hdp
     rw[ou]at q3
     obtain⟨av',e1,e2,e3⟩:=mr q3
     subst e1
     have agr1:iJ (eff none dp av' F1) F1 (oi.looksAt ops):=nS g6 cd1
     have fromv:ep F1 (oi.looksAt ops) av':=fun e he=>by
      rcases e2 e he with h|⟨t,ht,h⟩
      ·exact .inl (gh oi e h)
      ·have htl:=gh (ops:=ops) oi t ht
       have hne:t≠dp:=fun e=>g6 (e ▸ htl)
       rw[dD hne]at h
       exact .inr ⟨t,htl,h⟩
     have hself:av'.uses dp=false:=by
      cases hu:av'.uses dp with
      | false=>rfl
      | true=>
       rcases fromv dp hu with h|⟨t,_,h⟩
       ·exact absurd h g6
       ·rw[cd1 t]at h;cases h
     refine⟨hy.dst,hy.lt,hself,fromv,fun s hs=>(by cases hs),fun F' hA hd' _ K' hK=>?_⟩
     have agr2:=agr1.trans hA
     unfold kN
     rw[uw agr2,q2]
     simp only
     unfold ju gz
     rw[g5,hy.dst]
     simp only
     refine e3 F' (agr2.mono fun t ht=>gh oi t ht) _ ?_
     unfold bO
     rw[hy.lt,hself]
     show K' (put F' dp av')
     rw[A2 av' hd']
     exact hK
   rw[if_pos hjm]at h1 ⊢
   have hap:oi.apart ops oj=true:=by
    rcases hok.apart i j oi oj him hjm (Ne.symm hji) hi hoj with h|h|h
    ·rw[noedge i oi hi hiun]at h;cases h
    ·rw[noedge' j oj hoj hjun]at h;cases h
    ·exact h
   obtain⟨ap1,ap2,ap3⟩:=Oper.apart_spec hap
   have hdl:d∉oj.looksAt ops:=ap1 d hy.dst
   have cdj':∀ dj,oj.dst=some dj→∀ t,(F t).uses dj=false:=fun dj hdj=>hcl.dst j oj dj hjm hoj hjun hdj
   have cmv:∀ s,mv=some s→(∀ t,(F t).uses s=false)∧s∉oj.looksAt ops∧s∈oi.looksAt ops:=fun s hs=>by
    obtain⟨g1,⟨T,g2⟩,g3⟩:=hy.mvl s hs
    exact⟨hcl.mv i oi T s him hi hiun g1 g2 g3,fun hl=>hji ((fK g3).2 i j oi oj hi hoj (cK g2) hl).symm,cK g2⟩
   have cmvj:∀ T s,oj.guard=none→nz oj.op=some (T,s)→iT ops oj s=true→(∀ t,(F t).uses s=false)∧s∉oi.looksAt ops∧s∈oj.looksAt ops:=fun T s g1 g2 g3=>
    ⟨hcl.mv j oj T s hjm hoj hjun g1 g2 g3,fun hl=>hji ((fK g3).2 i j oi oj hi hoj hl (cK g2)).symm,cK g2⟩
   have avno:∀ e,e∉oi.looksAt ops→(∀ t,(F t).uses e=false)→av.uses e=false:=fun e h1 h2=>by
    cases hu:av.uses e with
    | false=>rfl
    | true=>
     rcases hy.from_ e hu with h|⟨t,_,h⟩
     ·exact absurd h h1
     ·rw[h2 t]at h;cases h
   obtain⟨mvj,dj,avj,hyj,hKj⟩:=oR h1 (fun dj hdj t=>je (avno dj (ap3 dj hdj) (cdj' dj hdj)) (cdj' dj hdj t)) (fun T s g1 g2 g3 t=>by
     obtain⟨c1,c2,-⟩:=cmvj T s g1 g2 g3
     exact je (avno s c2 c1) (c1 t))
   have hdne:d≠dj:=fun e=>ap2 d hy.dst (by rw[hyj.dst,e])
   have hdjl:dj∉oi.looksAt ops:=ap3 dj hyj.dst
   have cdj:∀ t,(F t).uses dj=false:=cdj' dj hyj.dst
   have cmj:∀ s,mvj=some s→(∀ t,(F t).uses s=false)∧s∉oi.looksAt ops∧s∈oj.looksAt ops:=fun s hs=>by
    obtain⟨g1,⟨T,g2⟩,g3⟩:=hyj.mvl s hs
    exact cmvj T s g1 g2 g3
   have lookj:∀ t,t∈oj.looksAt ops→eff mv d av F t=F t:=fun t ht=>by
    unfold eff
    have e1:t≠d:=fun e=>hdl (e ▸ ht)
    have e2:mv≠some t:=fun e=>(cmv t e).2.1 ht
    rw[if_neg e1,if_neg e2]
   have looki:∀ t,t∈oi.looksAt ops→eff mvj dj avj F t=F t:=fun t ht=>by
    unfold eff
    have e1:t≠dj:=fun e=>hdjl (e ▸ ht)
    have e2:mvj≠some t:=fun e=>(cmj t e).2.1 ht
    rw[if_neg e1,if_neg e2]
   have avjno:∀ e,e∉oj.looksAt ops→(∀ t,(F t).uses e=false)→avj.uses e=false:=fun e h1 h2=>by
    cases hu:avj.uses e with
    | false=>rfl
    | true=>
     rcases hyj.from_ e hu with h|⟨t,ht,h⟩
     ·exact absurd h h1
     ·rw[lookj t ht,h2 t]at h;cases h
   have agrj:iJ (eff mv d av F) F (oj.looksAt ops):=fun t ht=>by
    rw[lookj t ht]
    refine⟨rfl,fun t' hu k cs hh=>?_⟩
    have hne':t'≠d:=fun e=>by rw[e,cd t]at hu;cases hu
    have hnm:mv≠some t':=fun e=>by rw[(cmv t' e).1 t]at hu;cases hu
    unfold eff at hh
    rw[if_neg hne',if_neg hnm]at hh
    exact hh
   refine hyj.at_ F agrj cdj (fun s hs=>(cmj s hs).1) _ (ih (listed.setIfInBounds j true) (eff mvj dj avj F) mv av (ready_mono hr (Ne.symm hji)) (hcl.put (fun j' o' d' hm' hne' hj' hl' hd'=>?_) (fun j' o' T s hm' hne' hj' hl' g1 g2 g3=>?_)) (hdc.put hj) ?_ ?_)
   ·refine avjno d' (fun h=>?_) (hcl.dst j' o' d' hm' hj' hl' hd')
    have:=hok.look j' j o' oj d' hm' hne' hj' hoj hd' h
    rw[noedge j' o' hj' hl']at this;cases this
   ·exact avjno s (fun h=>hne' ((fK g3).2 j' j o' oj hj' hoj (cK g2) h)) (hcl.mv j' o' T s hm' hj' hl' g1 g2 g3)
   ·refine⟨hy.dst,hy.lt,hy.self,fun e he=>?_,hy.mvl,fun F' hA hd' hs' K' hK=>hy.at_ F' (fun t ht=>?_) hd' hs' K' hK⟩
    ·rcases hy.from_ e he with h|⟨t,ht,h⟩
     ·exact .inl h
     ·exact .inr ⟨t,ht,by rw[looki t ht];exact h⟩
    ·obtain⟨a1,a2⟩:=hA t ht
     rw[looki t ht]at a1 a2
     refine⟨a1,fun t' hu k cs hh=>a2 t' hu k cs ?_⟩
     have hne':t'≠dj:=fun e=>by rw[e,cdj t]at hu;cases hu
     have hnm:mvj≠some t':=fun e=>by rw[(cmj t' e).1 t]at hu;cases hu
     unfold eff
     rw[if_neg hne',if_neg hnm]
     exact hh
   ·rw[Array.setIfInBounds_comm _ _ hji]
    have:eff mv d av (eff mvj dj avj F)=eff mvj dj avj (eff mv d av F):=by
     funext t
     unfold eff
     by_cases e1:t=d
     ·have g1:t≠dj:=fun e=>hdne (e1.symm.trans e)
      have g2:mvj≠some t:=fun e=>hdl (e1 ▸ (cmj t e).2.2)
      simp only[if_pos e1,if_neg g1,if_neg g2]
     ·rw[if_neg e1]
      by_cases e2:t=dj
      ·have g2:mv≠some t:=fun e=>hdjl (e2 ▸ (cmv t e).2.2)
       simp only[if_pos e2,if_neg g2]
      ·simp only[if_neg e2,if_neg e1]
       by_cases e3:mv=some t
       ·by_cases e4:mvj=some t
        ·simp only[if_pos e3,if_pos e4]
        ·simp only[if_pos e3,if_neg e4]
       ·by_cases e4:mvj=some t
        ·simp only[if_neg e3,if_pos e4]
        ·simp only[if_neg e3,if_neg e4]
    rw[this]
    exact hKj
theorem za:∀ {fl:List Nat} {X:Prop} {F:Nat→AV},KT P TE ops fl X F→X∧∀ p,p∈fl→MF P TE ops p F
 | [],X,F,h=>⟨h,fun p hp=>by cases hp⟩
 | p::l,X,F,h=>by
  simp only[KT]at h
  unfold N3 at h
  cases hd:(cZ ops p).dst with
  | none=>rw[hd]at h;exact h.elim
  | some d=>
   rw[hd]at h
   simp only at h
   cases hm:J0 F (cZ ops p) with
   | some q=>rw[hm]at h;exact h.elim
   | none=>
    rw[hm]at h
    simp only at h
    obtain⟨av,h1,-,-⟩:=mr h
    obtain⟨e,hX,hall⟩:=(show av=F d∧X∧∀ p,p∈l→MF P TE ops p F from⟨h1.out.1,za h1.out.2⟩)
    refine⟨hX,fun p' hp'=>?_⟩
    rcases List.mem_cons.1 hp' with rfl|hp'
    ·exact⟨d,hd,hm,sF h fun av h=>h.out.1⟩
    ·exact hall p' hp'
theorem oK {l:List (Nat × List Nat)} {i:Nat} : pm l i=true↔∃ p,p∈l∧p.1=i:=by
 unfold pm
 rw[List.any_eq_true]
 exact⟨fun⟨p,h1,h2⟩=>⟨p,h1,Nat.eq_of_beq_eq_true h2⟩,fun⟨p,h1,h2⟩=>⟨p,h1,by rw[h2];exact Nat.beq_refl i⟩⟩
theorem kf {k:Nat × List Nat} {l:List (Nat × List Nat)} {i:Nat} : pm (k::l) i=(Nat.beq k.1 i || pm l i):=rfl
theorem AR (hok:N1 ops ds) {K:(Nat→AV)→Prop} : ∀ (l:List (Nat × List Nat)) (listed:Array Bool) (F:Nat→AV),B7 ops ds l=true→listed.size=ops.size→(∀ j,j<ops.size→listed.getD j true = !pm l j)→lx ops ds F listed→DC ops listed→
  H3 P TE N ops ds l K F→Gm P TE N ops ds K l.length listed F
 | [],listed,F,_,hs,hli,_,_,hp=>by
  refine⟨?_,hp⟩
  apply List.eq_nil_iff_forall_not_mem.2
  intro j hj
  obtain⟨h1,o,ho,-⟩:=mem_ready.1 hj
  have hlt:=(Array.getElem?_eq_some_iff.1 ho).1
  rw[hli j hlt]at h1
  cases h1
 | k::l,listed,F,hsch,hs,hli,hcl,hdc,hp=>by
  simp only[B7,Bool.and_eq_true]at hsch
  obtain⟨⟨⟨⟨q1,q2⟩,q3⟩,q4⟩,q5⟩:=hsch
  have hk:k.1<ops.size:=by simpa[Nat.blt_eq] using q1
  have h0:ops[k.1]? = some ops[k.1]:=Array.getElem?_eq_getElem hk
  have hrf:∀ i,i<ops.size→listed.getD i true=true→listed.getD i false=true:=fun i hi h=>by
   have h2:i<listed.size:=by omega
   simp[h2]at h ⊢;exact h
  have hready:k.1∈Region.ready .any ops listed:=mem_ready.2 ⟨by rw[hli k.1 hk,kf,Nat.beq_refl];rfl,_,h0,fun e he hb=>by
    have hlt:=hok.back k.1 _ h0 e he hb
    have hx:=q3
    rw[bc h0]at hx
    have h3:=List.all_eq_true.1 hx e (by simpa using he)
    rw[hb]at h3
    refine hrf e.on (by omega) ?_
    rw[hli e.on (by omega),kf]
    simpa using h3⟩
  have hli':∀ j,j<ops.size→(listed.setIfInBounds k.1 true).getD j true = !pm l j:=fun j hj=>by
   by_cases hjk:j=k.1
   ·subst hjk
    have:pm l k.1=false:=by simpa using q2
    rw[this]
    simp[hs,hj]
   ·rw[getD_set_ne true (Ne.symm hjk),hli j hj,kf,show Nat.beq k.1 j=false by rw[←Bool.not_eq_true,Nat.beq_eq];exact Ne.symm hjk];rfl
  show Gm P TE N ops ds K (l.length+1) listed F
  simp only[H3]at hp
  rw[bc h0]at hp q4
  have hun:listed.getD k.1 true=false:=(mem_ready.1 hready).1
  cases hfr:pQ ds ops[k.1] with
  | true=>
   rw[hfr]at hp
   simp only[cond_true]at hp
   obtain⟨mv,d,av,hy,hp⟩:=oR hp (fun d hd=>hcl.dst k.1 _ d hfr h0 hun hd) (fun T s g1 g2 g3=>hcl.mv k.1 _ T s hfr h0 hun g1 g2 g3)
   have hall:∀ e∈ops[k.1].after,Region.binds .any e=true→listed.getD e.on false=true:=by
    obtain⟨-,o',ho',hall⟩:=mem_ready.1 hready
    rw[h0]at ho'
    simp only[Option.some.injEq]at ho'
    subst ho'
    exact hall
   refine EI hok h0 hfr l.length listed F mv av hready hcl hdc hy (AR hok l _ _ q5 (by simpa using hs) hli' (hcl.put (fun j' o' d' hm' hne' hj' hl'' hd'=>?_) (fun j' o' T s hm' hne' hj' hl'' g1 g2 g3=>?_)) (hdc.put hready) hp)
   ·cases hu:av.uses d' with
    | false=>rfl
    | true=>
     rcases hy.from_ d' hu with h|⟨t,_,h⟩
     ·have:=hok.look j' k.1 o' _ d' hm' hne' hj' h0 hd' h
      obtain⟨e,he1,he2,he3⟩:=bX.1 this
      exact(unl hl'' (he3 ▸ hall e he1 he2)).elim
     ·rw[hcl.dst j' o' d' hm' hj' hl'' hd' t]at h;cases h
   ·cases hu:av.uses s with
    | false=>rfl
    | true=>
     rcases hy.from_ s hu with h|⟨t,_,h⟩
     ·exact absurd ((fK g3).2 j' k.1 o' _ hj' h0 (cK g2) h) hne'
     ·rw[hcl.mv j' o' T s hm' hj' hl'' g1 g2 g3 t]at h;cases h
  | false=>
   rw[hfr]at hp q4
   simp only[cond_false]at hp
   simp only[Bool.false_or,Bool.and_eq_true]at q4
   obtain⟨⟨r1,r2⟩,r3⟩:=q4
   refine⟨fun h=>(by rw[h]at hready;cases hready),fun j hj=>?_⟩
   obtain⟨hjun,oj,hoj,hall⟩:=mem_ready.1 hj
   have hjlt:=(Array.getElem?_eq_some_iff.1 hoj).1
   have hjk:j=k.1:=by
    rw[hli j hjlt,kf]at hjun
    cases hb:Nat.beq k.1 j with
    | true=>exact(Nat.eq_of_beq_eq_true hb).symm
    | false=>
     rw[hb]at hjun
     obtain⟨p,hp1,rfl⟩:=oK.1 (show pm l j=true by simpa using hjun)
     exact(unl hun (od hok hdc hoj hall (List.all_eq_true.1 r1 p hp1))).elim
   subst hjk
   rw[h0]at hoj
   simp only[Option.some.injEq]at hoj
   subst hoj
   unfold wG
   rw[h0]
   simp only[hfr,if_neg (show ¬false=true by decide)]
   have post:∀ F1,KT P TE ops k.2 (H3 P TE N ops ds l K F1) F1→lx ops ds F1 (listed.setIfInBounds k.1 true)→(∀ p,listed.getD p false=true→pQ ds (cZ ops p)=true→ud ops k.1 p=false→MF P TE ops p F1)∧Gm P TE N ops ds K l.length (listed.setIfInBounds k.1 true) F1:=fun F1 hch hcl1=>by
    obtain⟨hrun,hrd⟩:=za hch
    refine⟨fun p hp1 hp2 hp3=>hrd p ?_,AR hok l _ _ q5 (by simpa using hs) hli' hcl1 (hdc.put hready) hrun⟩
    have hpl:p<ops.size:=by
     rcases Nat.lt_or_ge p ops.size with h|h
     ·exact h
     ·rw[show cZ ops p=default by simp[cZ,Array.getD_eq_getD_getElem?,Array.getElem?_eq_none h]]at hp2
      cases hp2
    have h4:=gm r2 hpl
    rw[hp2,hp3]at h4
    have hml:pm l p=false:=by
     rw[←Bool.not_eq_true]
     intro hm
     have:listed.getD p true=false:=by rw[hli p hpl,kf,hm];simp
     exact unl this hp1
    rw[hml]at h4
    simp only[Bool.not_true,Bool.false_or]at h4
    obtain⟨x,hx1,hx2⟩:=List.any_eq_true.1 h4
    exact Nat.eq_of_beq_eq_true hx2 ▸ hx1
   cases hlater:l.any (fun j=>pQ ds (cZ ops j.1)) with
   | false=>
    refine ma hp fun F1 hch=>post F1 hch ⟨fun j' o' d' hm' hj' hl'' hd'=>?_,fun j' o' T s hm' hj' hl''=>?_⟩
    all_goals
     exfalso
     have hj'lt:=(Array.getElem?_eq_some_iff.1 hj').1
     rw[hli' j' hj'lt]at hl''
     obtain⟨p,hp1,rfl⟩:=oK.1 (show pm l j'=true by simpa using hl'')
     have:l.any (fun j=>pQ ds (cZ ops j.1))=true:=List.any_eq_true.2 ⟨p,hp1,by rw[bc hj'];exact hm'⟩
     rw[this]at hlater;cases hlater
   | true=>
    rw[hlater]at r3
    simp only[Bool.not_true,Bool.false_or,Bool.and_eq_true]at r3
    obtain⟨x,hx1,hx2⟩:=List.any_eq_true.1 hlater
    have hxun:listed.getD x.1 true=false∧x.1<ops.size:=by
     have hlt:x.1<ops.size:=by
      rcases Nat.lt_or_ge x.1 ops.size with h|h
      ·exact h
      ·rw[show cZ ops x.1=default by simp[cZ,Array.getD_eq_getD_getElem?,Array.getElem?_eq_none h]]at hx2
       cases hx2
     refine⟨?_,hlt⟩
     rw[hli x.1 hlt,kf,oK.2 ⟨x,hx1,rfl⟩];simp
    have hx0:ops[x.1]? = some ops[x.1]:=Array.getElem?_eq_getElem hxun.2
    rw[bc hx0]at hx2
    obtain⟨d,hd,hdd⟩:=GU hx2
    have hxk:x.1≠k.1:=fun e=>by
     have:pm l k.1=true:=oK.2 ⟨x,hx1,e⟩
     rw[this]at q2;cases q2
    refine ma (MM (d:=d) (uT r3.1) r3.2 (fun e=>?_) (fun hlk=>?_) (hcl.dst x.1 _ d hx2 hx0 hxun.1 hd) hp) fun F1 h1=>post F1 h1.1 (hcl.us hok h0 hall h1.2)
    ·unfold pQ at hfr
     rw[e]at hfr
     simp only at hfr
     rw[hdd]at hfr;cases hfr
    ·have:=hok.look x.1 k.1 _ _ d hx2 hxk hx0 h0 hd hlk
     obtain⟨e,he1,he2,he3⟩:=bX.1 this
     exact unl hxun.1 (he3 ▸ hall e he1 he2)
theorem zx {sch:List (Nat × List Nat)} (h:AO ops ds sch=true):N1 ops ds∧B7 ops ds sch=true∧sch.length=ops.size∧∀ j,j<ops.size→pm sch j=true:=by
 unfold AO at h
 simp only[Bool.and_eq_true]at h
 obtain⟨⟨hb0,hlen⟩,hsch⟩:=h
 have hb:=fun j (hj:j<ops.size)=>gm hb0 hj
 have pr:∀ (i j:Nat) (oi oj:Oper),i≠j→ops[i]? = some oi→ops[j]? = some oj→yp ops ds i j=true:=fun i j oi oj hne h1 h2=>by
  have:=hb j (Array.getElem?_eq_some_iff.1 h2).1
  simp only[Bool.and_eq_true]at this
  have:=gm this.2 (Array.getElem?_eq_some_iff.1 h1).1
  rw[show Nat.beq i j=false by rw[←Bool.not_eq_true,Nat.beq_eq];exact hne]at this
  exact this
 refine⟨⟨fun j oj hj e he hbe=>?_,fun i j oi oj f1 f2 hne h1 h2=>?_,fun i j oi oj d f1 hne h1 h2 hd hl=>?_,fun i j oi oj d f1 f2 hne h1 h2 hd he=>?_,fun i j oi oj f1 f2 hne h1 h2=>?_,fun j oj T s f1 hj hmo hso=>?_⟩,hsch,Nat.eq_of_beq_eq_true hlen,fun j hj=>?_⟩
 ·have:=hb j (Array.getElem?_eq_some_iff.1 hj).1
  rw[bc hj]at this
  simp only[Bool.and_eq_true]at this
  have:=List.all_eq_true.1 this.1.1.1 e (by simpa using he)
  rw[hbe]at this
  simpa[Nat.blt_eq] using this
 ·have:=pr i j oi oj hne h1 h2
  unfold yp at this
  rw[bc h1,bc h2,f1,f2]at this
  simp only[cond_true,Bool.and_eq_true,Bool.or_eq_true]at this
  rcases this.1.1 with(h|h)|h
  ·exact .inl h
  ·exact .inr (.inl h)
  ·exact .inr (.inr h)
 ·have:=pr i j oi oj hne h1 h2
  unfold yp at this
  rw[bc h1,bc h2,f1]at this
  have hlk:sg ops i j=true:=by
   unfold sg
   rw[bc h1,hd]
   simp only
   rw[bc h2]
   exact List.any_eq_true.2 ⟨d,hl,Nat.beq_refl d⟩
  rw[hlk]at this
  cases f2:pQ ds oj with
  | true=>
   rw[f2]at this
   simp only[cond_true,Bool.and_eq_true,Bool.not_true,Bool.false_or]at this
   exact this.1.2
  | false=>
   rw[f2]at this
   simp only[cond_true,cond_false,Bool.and_eq_true,Bool.not_true,Bool.false_or]at this
   exact this.2
 ·have:=pr i j oi oj hne h1 h2
  unfold yp at this
  rw[bc h1,bc h2,f1,f2,hd,he]at this
  simp[Nat.beq_refl]at this
 ·have:=pr i j oi oj hne h1 h2
  unfold yp at this
  rw[bc h1,bc h2,f1,f2]at this
  simp only[cond_true,cond_false,Bool.and_eq_true,Bool.or_eq_true]at this
  rcases this.1 with(h|h)|h
  ·exact .inl h
  ·exact .inr (.inl h)
  ·exact .inr (.inr h)
 ·have:=hb j (Array.getElem?_eq_some_iff.1 hj).1
  rw[bc hj]at this
  simp only[Bool.and_eq_true]at this
  have:=this.1.2
  rw[f1,hmo]at this
  simp only[hso,Bool.not_true,Bool.false_or]at this
  exact this
 ·have:=hb j hj
  simp only[Bool.and_eq_true]at this
  exact this.1.1.2
theorem vU (hTE:∀ t i,TE t=some i→bA P t i) (hm:P.follows .mixedOrders=true) {id:Nat} {tb:List (Nat × Nat × List Nat)} (hok:ne tb id ops=true) {K:(Nat→AV)→Prop} {Q:Exit→Act→World→Prop} (hp:DD P TE N tb id ops K F) (hs:St w0 M S0 N F a w)
  (hq:∀ F' a' w',K F'→St w0 M S0 N F' a' w'→Q .normal a' w'):(Code.region id ops true).wp P Q a w:=by
 unfold ne at hok
 unfold DD at hp
 cases htb:wo tb id with
 | none=>rw[htb]at hok;cases hok
 | some p=>
  obtain⟨m,L⟩:=p
  rw[htb]at hok hp
  simp only at hok hp
  cases hm2:Nat.ble 256 m with
  | false=>
   rw[hm2]at hok hp
   exact zP hTE hm hok hp hs hq
  | true=>
   rw[hm2]at hok hp
   simp only[cond_true,GT]at hok hp
   generalize L.take (m - 256)=ds at hok hp
   generalize dec (L.drop (m - 256))=sch at hok hp
   obtain⟨hn,hsch,hlen,hmem⟩:=zx hok
   refine wp_region_any hm ?_
   have hs':St w0 M S0 N (Ab.clr ds F) a {w with drawn:=w.drawn+1}:=by
    have h1:=hs.clr ds
    obtain⟨S,φ,h⟩:=h1
    exact⟨S,φ,h.more (w1:={w with drawn:=w.drawn+1}) (fun _ _ h=>h) (fun _ _ h=>.inl h) ⟨rfl,rfl,rfl,Nat.le_refl _,fun _ _ _=>rfl,fun _ _ _ _=>rfl,fun _ _ _ _=>rfl⟩⟩
   refine vL hTE (ds:=ds) hq ops.size (Array.replicate ops.size false) _ a _ ?_ hs'
   have hcl:∀ d,ds.any (Nat.beq d)=true→∀ t,(Ab.clr ds F t).uses d=false:=fun d hd t=>by
    rw[AD]
    cases hb:ds.any (fun d=>(F t).uses d) with
    | true=>rfl
    | false=>
     simp only[cond_false]
     cases hu:(F t).uses d with
     | false=>rfl
     | true=>
      obtain⟨d',hd',he⟩:=List.any_eq_true.1 hd
      have he':=Nat.eq_of_beq_eq_true he
      subst he'
      have:ds.any (fun d=>(F t).uses d)=true:=List.any_eq_true.2 ⟨_,hd',hu⟩
      rw[this]at hb;cases hb
   rw[←hlen]
   refine AR hn sch _ _ hsch (by simp[hlen]) (fun j hj=>by rw[hmem j hj];simp[hlen,hj]) ⟨fun j o d f1 ho _ hd t=>?_,fun j o T s f1 ho _ _ g2 g3 t=>hcl s (hn.mvs j o T s f1 ho g2 g3) t⟩ (fun j oj hj hl=>by
     have hlt:=(Array.getElem?_eq_some_iff.1 hj).1
     simp[hlen,hlt]at hl) hp
   obtain⟨d',hd',hdd⟩:=GU f1
   rw[hd]at hd'
   simp only[Option.some.injEq]at hd'
   subst hd'
   exact hcl d hdd t
end
end Go.Proofs.YtplcalfnngkffaaGreat.Ab
/- A function's contract out of the abstract run of its body. No condition. -/
namespace Go.Proofs.YtplcalfnngkffaaGreat.Ab
open Go.RowKit
def fS:List (Option Nat)→Kd
 | [ag]=>jc ag
 | sh=>.tup sh
def o7:ResultVar→Nat
 | .tmp t=>t
 | .cell t _=>t
def yr (tmps:Array Value):ResultVar→Sem Value
 | .tmp t=>pure (tmps.getD t undef)
 | .cell a t=>do loadVar t (←asAddr (tmps.getD a undef))
def resOne (TE:Nat→Option TI) (F:Nat→AV) (r:ResultVar) (K:Option Nat→List C→Prop):Prop:=
 match r with
 | .tmp t=>(match F t with
   | .hold .one cs=>K none cs
   | .hold .agg cs=>K (some cs.length) cs
   | _=>False)
 | .cell t T=>match TE T with
  | some i=>bif i.agg || Nat.beq i.size 1 then(match F t with
    | .hold .box cs=>bif Nat.beq cs.length i.size then K (pf i) cs else False
    | _=>False) else False
  | none=>False
def resA (TE:Nat→Option TI) (F:Nat→AV):List ResultVar→List Nat→(List (Option Nat)→List C→Prop)→Prop
 | [],_,K=>K [] []
 | r::rs,seen,K=>bif seen.any (Nat.beq (o7 r)) then False else resOne TE F r fun ag cs=>resA TE F rs (o7 r::seen) fun sh cs'=>K (ag::sh) (cs++cs')
def Pi:RA→AV
 | .val ag cs=>.hold (jc ag) cs
 | .ptr cs=>.iref cs 0
 | .fn Ok=>.fv Ok
def zy:Nat→List RA→List (Nat × AV)
 | _,[]=>[]
 | i,A::As=>(i,Pi A)::zy (i+1) As
inductive L8:C→C→Prop
 |rfl_ (c:C):L8 c c
 |z_:L8 .z (.s .own [])
 |own_ (rows rows':List (List C)) (hl:rows.length=rows'.length) (hk:∀ (i:Nat) (r r':List C),rows[i]? = some r→rows'[i]? = some r'→r.length=r'.length)
   (hr:∀ (i j:Nat) (r r':List C) (c c':C),rows[i]? = some r→rows'[i]? = some r'→r[j]? = some c→r'[j]? = some c'→L8 c c'):L8 (.s .own rows) (.s .own rows')
def MN (cs cs':List C):Prop:=cs.length=cs'.length∧∀ (j:Nat) (c c':C),cs[j]? = some c→cs'[j]? = some c'→L8 c c'
theorem MN.nil:MN [] []:=⟨rfl,fun j c c' h=>by simp at h⟩
theorem MN.cons {c c':C} {cs cs':List C} (h:L8 c c') (hs:MN cs cs'):MN (c::cs) (c'::cs'):=by
 refine⟨by simp[hs.1],fun j y y' h1 h2=>?_⟩
 cases j with
 | zero=>simp at h1 h2;subst h1 h2;exact h
 | succ j=>exact hs.2 j y y' (by simpa using h1) (by simpa using h2)
theorem L8.rep {n:Nat} {r r':List C} (h:MN r r'):L8 (.s .own (List.replicate n r)) (.s .own (List.replicate n r')):=by
 refine .own_ _ _ (by simp) (fun i a b h1 h2=>?_) (fun i j a b c c' h1 h2 h3 h4=>?_)
 ·have e1:=List.mem_replicate.1 (List.mem_of_getElem? h1)
  have e2:=List.mem_replicate.1 (List.mem_of_getElem? h2)
  rw[e1.2,e2.2];exact h.1
 ·have e1:=List.mem_replicate.1 (List.mem_of_getElem? h1)
  have e2:=List.mem_replicate.1 (List.mem_of_getElem? h2)
  rw[e1.2]at h3
  rw[e2.2]at h4
  exact h.2 j c c' h3 h4
theorem Ms {w:World} {S Y:ab} {c:C} {v:Value} (h:ez w S Y c v):∀ c',L8 c c'→ez w S Y c' v:=by
 induction h with
 | z F a=>
  intro c' hd
  cases hd with
  | rfl_=>exact .z _ _
  | z_=>exact .nil _ _ _ trivial
 | nil F o a ho=>
  intro c' hd
  cases hd with
  | rfl_=>exact .nil _ _ _ ho
  | own_ rows rows' hl=>obtain rfl:rows'=[]:=List.eq_nil_of_length_eq_zero (by simpa using hl.symm);exact .nil _ _ _ trivial
 | own F o g k n cap rows u f ho hn hk hcap hpos hF hu hf hd hc ih=>
  intro c' hd'
  cases hd' with
  | rfl_=>exact .own _ o g k n cap rows u f ho hn hk hcap hpos hF hu hf hd hc
  | own_ rows rows' hl hk2 hr=>
   have hrow:∀ (i:Nat) (r':List C),rows'[i]? = some r'→∃ r,rows[i]? = some r:=fun i r' hi=>⟨_,List.getElem?_eq_getElem (by have:=(List.getElem?_eq_some_iff.1 hi).1;omega)⟩
   refine .own _ .own g k n cap rows' u f trivial (hl.symm.trans hn) (fun r' hr'=>?_) hcap hpos hF hu hf hd (fun i j r' c' hi hj=>?_)
   ·obtain⟨i,hi⟩:=List.mem_iff_getElem?.1 hr'
    obtain⟨r,hri⟩:=hrow i r' hi
    rw[←hk2 i r r' hri hi]
    exact hk r (List.mem_of_getElem? hri)
   ·obtain⟨r,hri⟩:=hrow i r' hi
    have hlen:=hk2 i r r' hri hi
    have hjl:=(List.getElem?_eq_some_iff.1 hj).1
    have hcj:r[j]? = some (r[j]'(by omega)):=List.getElem?_eq_getElem (by omega)
    exact ih i j r _ hri hcj _ (hr i j r r' _ c' hri hi hcj hj)
 | v F x h1=>intro c' hd;cases hd;exact .v _ _ h1
 | x F u h1=>intro c' hd;cases hd;exact .x _ _ h1
 | imm F g off k n cap rows u hn hk hcap hS hc ih=>intro c' hd;cases hd;exact .imm _ g off k n cap rows u hn hk hcap hS hc
 | m F b clock es ents hF hb he hv hst=>intro c' hd;cases hd;exact .m _ b clock es ents hF hb he hv hst
 | it F r b since c0 clock seen ents cur left hF hr hb hst hc hv hl hcur=>intro c' hd;cases hd;exact .it _ r b since c0 clock seen ents cur left hF hr hb hst hc hv hl hcur
def WK (cs cs':List C):Prop:=Lx cs cs'∨MN cs cs'
inductive pe (k k':Kd) (cs cs':List C):Prop
 |mk_ (h:k=k'∧WK cs cs')
theorem ot:∀ (cs:List C),Lx cs cs
 | []=>trivial
 | c::cs=>by
  refine⟨?_,ot cs⟩
  cases c with
  | s o rows=>cases o<;>rfl
  | x=>trivial
  | _=>rfl
theorem pe.mk {k k':Kd} {cs cs':List C} (h1:k=k') (h2:cs=cs'):pe k k' cs cs':=by refine .mk_ ?_;exact⟨h1,.inl (h2 ▸ ot cs)⟩
theorem pe.wk {k k':Kd} {cs cs':List C} (h1:k=k') (h2:Lx cs cs'):pe k k' cs cs':=.mk_ ⟨h1,.inl h2⟩
theorem pe.out {k k':Kd} {cs cs':List C} (h:pe k k' cs cs'):k=k'∧WK cs cs':=by obtain⟨h⟩:=h;exact h
theorem WK.len {cs cs':List C} (h:WK cs cs'):cs.length=cs'.length:=h.elim (fun h=>(qC h).1) (fun h=>h.1)
theorem WK.row {w:World} {S Y:ab} {cs cs':List C} {u:Nat→Value} (hc:WK cs cs') (h:co w S Y cs u):co w S Y cs' u:=by
 rcases hc with hc|hc
 ·exact AM hc h
 ·obtain⟨f,h1,h2,h3⟩:=h
  refine⟨f,fun j c' hj=>?_,fun j hj=>h2 j (by rw[hc.1];exact hj),fun j j' hj hj'=>h3 j j' (by rw[hc.1];exact hj) (by rw[hc.1];exact hj')⟩
  have hjl:=(List.getElem?_eq_some_iff.1 hj).1
  have hcj:cs[j]? = some (cs[j]'(by rw[hc.1];exact hjl)):=List.getElem?_eq_getElem (by rw[hc.1];exact hjl)
  exact Ms (h1 j _ hcj) c' (hc.2 j _ c' hcj hj)
def LD (TE:Nat→Option TI) (rs:List ResultVar) (k:Kd) (rcs:List C):Exit→(Nat→AV)→Prop:=fun e F=>
 match e with
 | .normal=>resA TE F rs [] fun sh cs=>pe (fS sh) k cs rcs
 | .ret=>resA TE F rs [] fun sh cs=>pe (fS sh) k cs rcs
 | _=>False
section
variable {P:Program} {w0 w w1:World} {M S0 S:ab} {N:fF} {φ:Nat→ab} {F:Nat→AV} {a:Act} {TE:Nat→Option TI}
theorem bj.resOne (h:bj w0 M S0 N S φ F a w) (hTE:∀ t i,TE t=some i→bA P t i) {r:ResultVar} {K:Option Nat→List C→Prop} (hp:resOne TE F r K) :
  ∃ ag cs v,K ag cs∧bv w S (φ (o7 r)) ag cs v∧(yr a.tmps r).run P w=.ok v w:=by
 cases r with
 | tmp t=>
  have hs:=h.slot t
  simp only[Ab.resOne]at hp
  cases hF:F t with
  | hold k cs=>
   rw[hF]at hp hs
   obtain⟨X1,Y,h1,h2,h3,h4,h5⟩:=hs
   cases k with
   | one=>exact⟨none,cs,tvs a t,hp,⟨h4,_,rfl,h5.mono (fun _ _ h=>h) h2⟩,rfl⟩
   | agg=>
    obtain⟨arr,hv,hsz⟩:=h4
    refine⟨some cs.length,cs,tvs a t,hp,⟨rfl,bR w .agg (tvs a t),?_,h5.mono (fun _ _ h=>h) h2⟩,rfl⟩
    rw[hv]
    have:=mW arr
    rw[hsz]at this
    exact this
   | _=>exact hp.elim
  | _=>rw[hF]at hp;exact hp.elim
 | cell t T=>
  have hs:=h.slot t
  simp only[Ab.resOne]at hp
  split at hp
  case h_2=>exact hp.elim
  rename_i i hT
  have ht:=hTE _ _ hT
  cases ha:(i.agg || Nat.beq i.size 1) with
  | false=>rw[ha]at hp;exact hp.elim
  | true=>
   rw[ha]at hp
   simp only[cond_true]at hp
   cases hF:F t with
   | hold k cs=>
    rw[hF]at hp hs
    cases k with
    | box=>
     simp only at hp
     cases hl:Nat.beq cs.length i.size with
     | false=>rw[hl]at hp;exact hp.elim
     | true=>
      rw[hl]at hp
      have hl':=Nat.eq_of_beq_eq_true hl
      obtain⟨X1,Y,h1,h2,h3,⟨g,o,hv,hb⟩,h5⟩:=hs
      have hcell:∀ d,d<i.size→cel w g (o+d)=some (bR w .box (tvs a t) d):=fun d hd=>by
       obtain⟨-,⟨z,hz⟩,-⟩:=hb d (by omega)
       rw[hv];simp only[bR,hz,Option.getD_some]
      have hrun:=vW (w:=w) ht ha hcell
      refine⟨_,cs,_,hp,⟨by rw[nO ha];exact hl',_,rfl,h5.mono (fun _ _ h=>h) h2⟩,?_⟩
      have hv':a.tmps.getD t undef=.pointer (some ⟨g,o,none⟩):=hv
      simp only[yr,hv',asAddr]
      exact hrun
    | _=>exact hp.elim
   | _=>rw[hF]at hp;exact hp.elim
theorem Fn {ag:Option Nat} {cs:List C} {v:Value} {Y:ab} (h:bv w S Y ag cs v):∃ u,v.cells.toList=(List.range cs.length).map u∧co w S Y cs u∧v=mkv ag u:=by
 obtain⟨hl,u,rfl,hr⟩:=h
 refine⟨u,?_,hr,rfl⟩
 rw[oI (fun e=>by subst e;exact hr.one (by simp at hl;omega)),hl]
theorem wv {Y1 Y2:ab} {cs cs':List C} {u u':Nat→Value} (h:co w S Y1 cs u) (h':co w S Y2 cs' u') (hd:∀ b o,Y1 b o→¬Y2 b o) :
  co w S (fun b o=>Y1 b o∨Y2 b o) (cs++cs') (fun j=>if j<cs.length then u j else u' (j - cs.length)):=by
 obtain⟨f,h1,h2,h3⟩:=h
 obtain⟨f',h1',h2',h3'⟩:=h'
 refine⟨fun j=>if j<cs.length then f j else f' (j - cs.length),fun j c hj=>?_,fun j hj b o hb=>?_,fun j j' hj hj' hne b o hb hb'=>?_⟩
 ·by_cases hl:j<cs.length
  ·simp only[if_pos hl];rw[List.getElem?_append_left hl]at hj;exact h1 j c hj
  ·simp only[if_neg hl];rw[List.getElem?_append_right (by omega)]at hj;exact h1' _ c hj
 ·rw[List.length_append]at hj
  by_cases hl:j<cs.length
  ·rw[if_pos hl]at hb;exact .inl (h2 j hl b o hb)
  ·rw[if_neg hl]at hb;exact .inr (h2' _ (by omega) b o hb)
 ·rw[List.length_append]at hj hj'
  by_cases hl:j<cs.length
  ·rw[if_pos hl]at hb
   by_cases hl':j'<cs.length
   ·rw[if_pos hl']at hb';exact h3 j j' hl hl' hne b o hb hb'
   ·rw[if_neg hl']at hb';exact hd b o (h2 j hl b o hb) (h2' _ (by omega) b o hb')
  ·rw[if_neg hl]at hb
   by_cases hl':j'<cs.length
   ·rw[if_pos hl']at hb';exact hd b o (h2 j' hl' b o hb') (h2' _ (by omega) b o hb)
   ·rw[if_neg hl']at hb';exact h3' _ _ (by omega) (by omega) (by omega) b o hb hb'
theorem bj.resA (h:bj w0 M S0 N S φ F a w) (hTE:∀ t i,TE t=some i→bA P t i):∀ {rs:List ResultVar} {seen:List Nat} {K:List (Option Nat)→List C→Prop},resA TE F rs seen K→
  ∃ sh cs vs u,K sh cs∧(rs.mapM (yr a.tmps)).run P w=.ok vs w∧uU sh vs∧sh.length=rs.length∧o6 sh=cs.length∧
   (vs.flatMap fun v=>v.cells.toList)=(List.range cs.length).map u∧(∀ ag,sh=[ag]→∃ v,vs=[v]∧bv w S (fun b o=>∃ t,t∉seen∧φ t b o) ag cs v)∧co w S (fun b o=>∃ t,t∉seen∧φ t b o) cs u
 | [],seen,K,hp=>⟨[],[],[],fun _=>undef,hp,rfl,trivial,rfl,rfl,rfl,fun _ h=>by simp at h,co.nil _ _ _ _⟩
 | r::rs,seen,K,hp=>by
  simp only[Ab.resA]at hp
  cases hseen:seen.any (Nat.beq (o7 r)) with
  | true=>rw[hseen]at hp;exact hp.elim
  | false=>
   rw[hseen]at hp
   simp only[cond_false]at hp
   have hns:o7 r∉seen:=fun hm=>by
    have:seen.any (Nat.beq (o7 r))=true:=List.any_eq_true.2 ⟨_,hm,Nat.beq_refl _⟩
    rw[this]at hseen;cases hseen
   obtain⟨ag,cs,v,hp,hv,hrun⟩:=h.resOne hTE hp
   obtain⟨sh,cs',vs,u',hK,hrun',hT,hln,hL,hcells,-,hrow⟩:=bj.resA h hTE hp
   obtain⟨u,hcv,hr,hmk⟩:=Fn hv
   have hd:∀ b o,φ (o7 r) b o→¬∃ t,t∉o7 r::seen∧φ t b o:=fun b o hb ⟨t,ht,hb'⟩=>h.dis _ _ (fun e=>ht (by rw[←e];simp)) b o hb hb'
   refine⟨ag::sh,cs++cs',v::vs,fun j=>if j<cs.length then u j else u' (j - cs.length),hK,?_,?_,by simp[hln],?_,?_,?_,?_⟩
   ·rw[List.mapM_cons]
    simp only[Sem.run_bind,hrun,Result.andThen_ok,hrun',Sem.run_pure]
   ·obtain⟨hl,-⟩:=hv
    cases ag with
    | none=>
     refine⟨?_,hT⟩
     rw[hmk]
     have h1:(u 0).oneCell'=true:=hr.one (by simp at hl;omega)
     show(u 0).cells = #[u 0]
     cases hu:u 0<;>first|(rw[hu]at h1;cases h1;done)|rfl
    | some n=>exact⟨⟨_,by rw[hmk];rfl,by simp⟩,hT⟩
   ·rw[qb,List.length_append,hL,hv.1]
   ·simp only[List.flatMap_cons,hcv,hcells,List.length_append]
    apply List.ext_getElem?
    intro j
    by_cases hj:j<cs.length
    ·rw[List.getElem?_append_left (by simpa using hj)];simp[hj,Nat.lt_add_right]
    ·rw[List.getElem?_append_right (by simp;omega)]
     by_cases hj2:j - cs.length<cs'.length
     ·simp[hj,hj2,show j<cs.length+cs'.length by omega]
     ·simp[hj2,show ¬j<cs.length+cs'.length by omega]
   ·intro ag' hag
    simp only[List.cons.injEq]at hag
    obtain⟨rfl,rfl⟩:=hag
    cases vs with
    | cons _ _=>exact hT.elim
    | nil=>
     have:cs'=[]:=List.eq_nil_of_length_eq_zero (by simpa[o6] using hL.symm)
     subst this
     exact⟨v,rfl,by rw[List.append_nil];exact hv.mono (fun _ _ h=>h) (fun b o hb=>⟨_,hns,hb⟩)⟩
   ·exact(wv hr hrow hd).mono (fun _ _ h=>h) (fun b o hb=>hb.elim (fun hb=>⟨_,hns,hb⟩) (fun⟨t,ht,hb⟩=>⟨t,fun hm=>ht (List.mem_cons_of_mem _ hm),hb⟩))
theorem yy:∀ {A:List RA} {vs:List Value} (i:Nat),xa w S A vs→∀ t,(lay (zy i A) t=.dead)∨(∃ A0 v,i≤t∧vs[t - i]? = some v∧lay (zy i A) t=Pi A0∧nU w S A0 v)
 | [],_,i,_,t=>.inl rfl
 | A0::A,[],i,h,t=>h.elim
 | A0::A,v::vs,i,h,t=>by
  simp only[zy,lay]
  cases hb:Nat.beq t i with
  | true=>
   have:=Nat.eq_of_beq_eq_true hb
   subst this
   exact .inr ⟨A0,v,Nat.le_refl _,by simp,rfl,h.1⟩
  | false=>
   have hne:t≠i:=fun e=>by subst e;rw[Nat.beq_refl]at hb;cases hb
   rcases yy (i+1) h.2 t with h1|⟨A1,v',h1,h2,h3⟩
   ·exact .inl h1
   ·refine .inr ⟨A1,v',by omega,?_,h3⟩
    rw[show t - i=(t - (i+1))+1 by omega]
    simpa using h2
theorem nU.slot {A:RA} {v:Value} (h:nU w S A v) {tv:Nat→Value} : cz w S F tv NO (Pi A) v:=by
 cases A with
 | val ag cs=>exact bv.slot h
 | ptr cs=>obtain⟨g,b,u,e1,e2,e3⟩:=h;exact⟨g,b,u,by rw[e1,Nat.add_zero],e2,e3⟩
 | fn Ok=>exact h
theorem Gx:∀ {A:List RA} {vs:List Value},xa w S A vs→A.length=vs.length
 | [],[],_=>rfl
 | _::_,_::_,h=>by simp[Gx h.2]
 | [],_::_,h=>h.elim
 | _::_,[],h=>h.elim
theorem Jj {D : Nat → Array Oper → ((Nat → AV) → Prop) → (Nat → AV) → Prop} {f : Nat} {fn : Func} {c : Code} {sh : Bool} {A : List RA} {k : Kd} {rcs : List C} (hTE : ∀ t i, TE t = some i → bA P t i) (hf : P.funcs[f]? = some fn) (hn : (fn.name == "runtime.NumGoroutine") = false)
  (hb:fn.body=some c) {ck:Nat→Array Oper→Bool} (hD:uL P N ck D) (hc:fT ck c=true) (hN:A.length+(fn.ntmps - A.length)=N.n) (hkp:N.kp=[]) (hsh:sh=true∨gq rcs) (hp:aw P TE N D c (LD TE fn.results.toList k rcs) (lay (zy 0 A))):ah P f sh A k rcs:=by
 refine⟨⟨fn,hf,hn,by rw[hb];rfl⟩,fun w S vs hS hA=>?_⟩
 have hlen:=Gx hA
 refine calls_of_wp hf hb ?_
 have hst:St w NO S N (lay (zy 0 A)) {tmps:=vs.toArray++Array.replicate (fn.ntmps - vs.toArray.size) undef,defers:=[]} w:=by
  refine⟨S,fun _=>NO,fun t=>?_,fun _ _ _ _ _ h=>h.elim,fun _ _ _ h=>h.elim,fun _ _ _ h=>h.elim,fun _ _ h=>h,fun b o h=>⟨hS b o h,.inl h⟩,bw.refl _ _,by simp;omega,rfl,fun p hp=>by rw[hkp]at hp;cases hp⟩
  rcases yy 0 hA t with h1|⟨A0,v,-,h2,h3,h4⟩
  ·rw[h1];trivial
  ·rw[h3]
   have hv:tvs {tmps:=vs.toArray++Array.replicate (fn.ntmps - vs.toArray.size) undef,defers:=[]} t=v:=by
    have hlt:=(List.getElem?_eq_some_iff.1 h2).1
    simp only[tvs,Array.getD_eq_getD_getElem?]
    rw[Array.getElem?_append_left (by simpa using hlt)]
    simp only[List.getElem?_toArray]
    rw[show vs[t]? = some v by simpa using h2];rfl
   rw[hv]
   exact h4.slot
 refine iv hTE hD c hc _ _ _ _ w hp hst fun e F' a' w' he hs'=>?_
 obtain⟨S',φ',h⟩:=hs'
 have fin:resA TE F' fn.results.toList [] (fun sh cs=>pe (fS sh) k cs rcs)→a'.defers=[]∧∃ v,(results fn a'.tmps).run P w'=.ok v w'∧(∃ v',Ending.returned v=.returned v'∧bw NO w w'∧∃ X S1:ab,(∀ b o,X b o→b<w'.heap.size∧w.heap.size≤b)∧
     (∀ b o,S1 b o→(sh=true∧S b o)∨(b<w'.heap.size∧w.heap.size≤b))∧(∀ b o,X b o→¬S1 b o)∧fy w' NO k rcs.length v'∧co w' S1 X rcs (bR w' k v')):=by
  intro hr
  obtain⟨shs,cs,vs',u,hfin,hrun,hT,hln,hL,hcells,hone,hrow⟩:=h.resA hTE hr
  obtain⟨rfl,hwk⟩:=hfin.out
  refine⟨h.defers,?_⟩
  have hrun2:(results fn a'.tmps).run P w'=.ok (if h:vs'.toArray.size=1 then vs'.toArray[0] else .tuple vs'.toArray) w':=by
   have e:results fn a'.tmps=(do let vs ←fn.results.mapM (yr a'.tmps);pure (if h:vs.size=1 then vs[0] else .tuple vs)):=by
    unfold results
    congr 1
   rw[e,←Array.toArray_toList (xs:=fn.results),List.mapM_toArray]
   simp only[Sem.run_bind,Sem.run_map,hrun,Result.andThen_ok,Sem.run_pure]
  refine⟨_,hrun2,_,rfl,h.old,fun b o=>∃ t,φ' t b o,fun b o=>(sh=true∧S' b o)∨(S' b o∧w.heap.size≤b),fun b o ⟨t,hb⟩=>⟨(h.ex t b o hb).1,(h.ex t b o hb).2.resolve_right (fun h=>h)⟩,fun b o hb=>?_,fun b o ⟨t,hb⟩ hb'=>h.disS t b o hb (hb'.elim (·.2) (·.1)),?_⟩
  ·rcases hb with⟨h1,h2⟩|⟨h1,h2⟩
   ·rcases(h.sup b o h2).2 with h3|h3|h3
    ·exact .inl ⟨h1,h3⟩
    ·exact .inr ⟨(h.sup b o h2).1,h3⟩
    ·exact h3.elim
   ·exact .inr ⟨(h.sup b o h1).1,h2⟩
  ·have hk:fy w' NO (fS shs) cs.length (if h:vs'.toArray.size=1 then vs'.toArray[0] else .tuple vs'.toArray)∧co w' S' (fun b o=>∃ t,φ' t b o) cs (bR w' (fS shs) (if h:vs'.toArray.size=1 then vs'.toArray[0] else .tuple vs'.toArray)):=by
    have hall:∀ b o,(∃ t,t∉([]:List Nat)∧φ' t b o)→∃ t,φ' t b o:=fun b o ⟨t,_,hb⟩=>⟨t,hb⟩
    match shs,hT,hone,hL with
    | [],hT,_,hL=>
     cases vs' with
     | cons _ _=>exact hT.elim
     | nil=>
      have:cs=[]:=List.eq_nil_of_length_eq_zero (by simpa[o6] using hL.symm)
      subst this
      exact⟨⟨_,rfl,trivial,rfl⟩,co.nil _ _ _ _⟩
    | [ag],_,hone,_=>
     obtain⟨v,rfl,hv⟩:=hone ag rfl
     have:=(hv.mono (fun _ _ h=>h) hall).slot (F:=F') (tv:=tvs a')
     obtain⟨X1,Y,h1,h2,h3,h4,h5⟩:=this
     refine⟨?_,h5.mono (fun _ _ h=>h) h2⟩
     cases ag<;>exact h4
    | ag::ag2::sh,hT,_,hL=>
     have hsz:¬vs'.toArray.size=1:=by
      match vs',hT with
      | [],hT=>simp
      | [v],hT=>cases ag<;>cases ag2<;>exact hT.2.elim
      | _::_::_,_=>simp
     rw[dif_neg hsz]
     refine⟨⟨_,rfl,hT,hL⟩,(hrow.mono (fun _ _ h=>h) hall).congr fun j hj=>?_⟩
     simp only[bR,fS,kF,hcells]
     simp[List.getD,hj]
   replace hk:=And.intro hk.1 (hwk.row hk.2)
   refine⟨by rw[←hwk.len];exact hk.1,?_⟩
   rcases hsh with h1|h1
   ·exact hk.2.mono (fun b o hb=>.inl ⟨h1,hb⟩) (fun _ _ h=>h)
   ·exact(hk.2.fresh h1).mono (fun _ _ h=>h.elim) (fun _ _ h=>h)
 cases e with
 | normal=>exact fin he
 | ret=>exact fin he
 | _=>exact he.elim
end
end Go.Proofs.YtplcalfnngkffaaGreat.Ab
/- Contracts, drawn regions and all. No condition. -/
namespace Go.Proofs.YtplcalfnngkffaaGreat.Ab
open Go.RowKit
def DF (P:Program) (TE:Nat→Option TI) (N:fF) (tb:List (Nat × Nat × List Nat)) (id:Nat) (ops:Array Oper) (K:(Nat→AV)→Prop) (F:Nat→AV):Prop:=
 match wo tb (id+1048576) with
 | some (t,offs)=>qI t offs (DD P TE N tb id ops K) F
 | none=>DD P TE N tb id ops K F
theorem pZ {P:Program} {TE:Nat→Option TI} (hTE:∀ t i,TE t=some i→bA P t i) (hm:P.follows .mixedOrders=true) (N:fF) (tb:List (Nat × Nat × List Nat)):uL P N (ne tb) (DF P TE N tb):=
 fun _ _ hok _ _ _ _ _ _ _ _ hp hs hq=>by
  unfold DF at hp
  split at hp
  ·obtain⟨F',hK,hs'⟩:=vF hp hs
   exact vU hTE hm hok hK hs' hq
  ·exact vU hTE hm hok hp hs hq
end Go.Proofs.YtplcalfnngkffaaGreat.Ab
/- The types of the program as the abstract runs see them. Printed by gen_te.py. No condition. -/
namespace Go.Proofs.YtplcalfnngkffaaGreat.Ab
open Go.RowKit
def Ha:List (Nat × TI)→Nat→Option TI
 | [],_=>none
 | p::l,t=>bif Nat.beq t p.1 then some p.2 else Ha l t
def ML (P:Program):List (Nat × TI)→Prop
 | []=>True
 | p::l=>bA P p.1 p.2∧ML P l
theorem BP {P:Program} : ∀ {l:List (Nat × TI)},ML P l→∀ t i,Ha l t=some i→bA P t i
 | [],_,t,i,h=>by cases h
 | p::l,hl,t,i,h=>by
  simp only[Ha]at h
  cases hb:Nat.beq t p.1 with
  | true=>
   rw[hb]at h
   simp only[cond_true,Option.some.injEq]at h
   have:=Nat.eq_of_beq_eq_true hb
   subst this h
   exact hl.1
  | false=>rw[hb]at h;exact BP hl.2 t i h
def ti3:TI:=⟨1,8,[.v (.int .i64 0)],.sc (.int .i64)⟩
theorem tok3:bA Tryz.prog 3 ti3:=⟨by kernel_rfl,by simp[ti3,aF,Value.oneCell'],⟨Tryz.underlying3,trivial⟩⟩
def ti4:TI:=⟨1,1,[.v (.bool false)],.sc .bool⟩
theorem tok4:bA Tryz.prog 4 ti4:=⟨by kernel_rfl,by simp[ti4,aF,Value.oneCell'],⟨Tryz.underlying4,trivial⟩⟩
def ti2:TI:=⟨1,8,[.v (.int .i64 0)],.sc (.int .i64)⟩
theorem tok2:bA Tryz.prog 2 ti2:=⟨by kernel_rfl,by simp[ti2,aF,Value.oneCell'],⟨Tryz.underlying2,trivial⟩⟩
def ti5:TI:=⟨1,1,[.v (.int .u8 0)],.sc (.int .u8)⟩
theorem tok5:bA Tryz.prog 5 ti5:=⟨by kernel_rfl,by simp[ti5,aF,Value.oneCell'],⟨Tryz.underlying5,trivial⟩⟩
def ti6:TI:=⟨1,1,[.v (.int .u8 0)],.sc (.int .u8)⟩
theorem tok6:bA Tryz.prog 6 ti6:=⟨by kernel_rfl,by simp[ti6,aF,Value.oneCell'],⟨Tryz.underlying6,trivial⟩⟩
def ti7:TI:=⟨4,24,[.v (.int .i64 0),.v (.int .i64 0),.v (.bool false),.v (.int .u8 0)],.st [(0,2),(1,3),(2,4),(3,6)]⟩
theorem tok7:bA Tryz.prog 7 ti7:=⟨by kernel_rfl,by simp[ti7,aF,Value.oneCell'],⟨_,Tryz.underlying7,rfl⟩⟩
def ti8:TI:=⟨4,24,[.v (.int .i64 0),.v (.int .i64 0),.v (.bool false),.v (.int .u8 0)],.st [(0,2),(1,3),(2,4),(3,6)]⟩
theorem tok8:bA Tryz.prog 8 ti8:=⟨by kernel_rfl,by simp[ti8,aF,Value.oneCell'],⟨_,Tryz.underlying8,rfl⟩⟩
def ti9:TI:=⟨1,16,[.v (.string ⟨#[]⟩)],.sc .string⟩
theorem tok9:bA Tryz.prog 9 ti9:=⟨by kernel_rfl,by simp[ti9,aF,Value.oneCell'],⟨Tryz.underlying9,trivial⟩⟩
def ti10:TI:=⟨1,16,[.v (.string ⟨#[]⟩)],.sc .string⟩
theorem tok10:bA Tryz.prog 10 ti10:=⟨by kernel_rfl,by simp[ti10,aF,Value.oneCell'],⟨Tryz.underlying10,trivial⟩⟩
def ti11:TI:=⟨1,16,[.v (.string ⟨#[]⟩)],.sc .string⟩
theorem tok11:bA Tryz.prog 11 ti11:=⟨by kernel_rfl,by simp[ti11,aF,Value.oneCell'],⟨Tryz.underlying11,trivial⟩⟩
def ti12:TI:=⟨1,8,[.v (.int .u64 0)],.sc (.int .u64)⟩
theorem tok12:bA Tryz.prog 12 ti12:=⟨by kernel_rfl,by simp[ti12,aF,Value.oneCell'],⟨Tryz.underlying12,trivial⟩⟩
def ti13:TI:=⟨2,24,[.v (.string ⟨#[]⟩),.v (.int .u64 0)],.st [(0,9),(1,12)]⟩
theorem tok13:bA Tryz.prog 13 ti13:=⟨by kernel_rfl,by simp[ti13,aF,Value.oneCell'],⟨_,Tryz.underlying13,rfl⟩⟩
def ti14:TI:=⟨2,24,[.v (.string ⟨#[]⟩),.v (.int .u64 0)],.st [(0,9),(1,12)]⟩
theorem tok14:bA Tryz.prog 14 ti14:=⟨by kernel_rfl,by simp[ti14,aF,Value.oneCell'],⟨_,Tryz.underlying14,rfl⟩⟩
def ti21:TI:=⟨1,4,[.v (.int .i32 0)],.sc (.int .i32)⟩
theorem tok21:bA Tryz.prog 21 ti21:=⟨by kernel_rfl,by simp[ti21,aF,Value.oneCell'],⟨Tryz.underlying21,trivial⟩⟩
def ti22:TI:=⟨1,24,[.z],.sl 5⟩
theorem tok22:bA Tryz.prog 22 ti22:=⟨by kernel_rfl,by simp[ti22,aF,Value.oneCell'],Tryz.underlying22⟩
def ti24:TI:=⟨1,24,[.z],.sl 33⟩
theorem tok24:bA Tryz.prog 24 ti24:=⟨by kernel_rfl,by simp[ti24,aF,Value.oneCell'],Tryz.underlying24⟩
def ti25:TI:=⟨1,24,[.z],.sl 4⟩
theorem tok25:bA Tryz.prog 25 ti25:=⟨by kernel_rfl,by simp[ti25,aF,Value.oneCell'],Tryz.underlying25⟩
def ti26:TI:=⟨2,48,[.z,.z],.st [(0,24),(1,25)]⟩
theorem tok26:bA Tryz.prog 26 ti26:=⟨by kernel_rfl,by simp[ti26,aF,Value.oneCell'],⟨_,Tryz.underlying26,rfl⟩⟩
def ti27:TI:=⟨2,48,[.z,.z],.st [(0,24),(1,25)]⟩
theorem tok27:bA Tryz.prog 27 ti27:=⟨by kernel_rfl,by simp[ti27,aF,Value.oneCell'],⟨_,Tryz.underlying27,rfl⟩⟩
def ti28:TI:=⟨1,24,[.z],.sl 123⟩
theorem tok28:bA Tryz.prog 28 ti28:=⟨by kernel_rfl,by simp[ti28,aF,Value.oneCell'],Tryz.underlying28⟩
def ti29:TI:=⟨1,24,[.z],.st [(0,28)]⟩
theorem tok29:bA Tryz.prog 29 ti29:=⟨by kernel_rfl,by simp[ti29,aF,Value.oneCell'],⟨_,Tryz.underlying29,rfl⟩⟩
def ti30:TI:=⟨1,24,[.z],.st [(0,28)]⟩
theorem tok30:bA Tryz.prog 30 ti30:=⟨by kernel_rfl,by simp[ti30,aF,Value.oneCell'],⟨_,Tryz.underlying30,rfl⟩⟩
def ti31:TI:=⟨3,72,[.z,.z,.z],.st [(0,27),(2,30)]⟩
theorem tok31:bA Tryz.prog 31 ti31:=⟨by kernel_rfl,by simp[ti31,aF,Value.oneCell'],⟨_,Tryz.underlying31,rfl⟩⟩
def ti32:TI:=⟨3,72,[.z,.z,.z],.st [(0,27),(2,30)]⟩
theorem tok32:bA Tryz.prog 32 ti32:=⟨by kernel_rfl,by simp[ti32,aF,Value.oneCell'],⟨_,Tryz.underlying32,rfl⟩⟩
def ti33:TI:=⟨1,24,[.z],.sl 3⟩
theorem tok33:bA Tryz.prog 33 ti33:=⟨by kernel_rfl,by simp[ti33,aF,Value.oneCell'],Tryz.underlying33⟩
def ti34:TI:=⟨5,104,[.z,.z,.z,.v (.int .i64 0),.z],.st [(0,32),(3,3),(4,33)]⟩
theorem tok34:bA Tryz.prog 34 ti34:=⟨by kernel_rfl,by simp[ti34,aF,Value.oneCell'],⟨_,Tryz.underlying34,rfl⟩⟩
def ti35:TI:=⟨5,104,[.z,.z,.z,.v (.int .i64 0),.z],.st [(0,32),(3,3),(4,33)]⟩
theorem tok35:bA Tryz.prog 35 ti35:=⟨by kernel_rfl,by simp[ti35,aF,Value.oneCell'],⟨_,Tryz.underlying35,rfl⟩⟩
def ti36:TI:=⟨1,24,[.z],.sl 118⟩
theorem tok36:bA Tryz.prog 36 ti36:=⟨by kernel_rfl,by simp[ti36,aF,Value.oneCell'],Tryz.underlying36⟩
def ti37:TI:=⟨1,24,[.z],.sl 63⟩
theorem tok37:bA Tryz.prog 37 ti37:=⟨by kernel_rfl,by simp[ti37,aF,Value.oneCell'],Tryz.underlying37⟩
def ti38:TI:=⟨1,24,[.z],.sl 212⟩
theorem tok38:bA Tryz.prog 38 ti38:=⟨by kernel_rfl,by simp[ti38,aF,Value.oneCell'],Tryz.underlying38⟩
def ti39:TI:=⟨1,24,[.z],.sl 66⟩
theorem tok39:bA Tryz.prog 39 ti39:=⟨by kernel_rfl,by simp[ti39,aF,Value.oneCell'],Tryz.underlying39⟩
def ti40:TI:=⟨1,24,[.z],.sl 120⟩
theorem tok40:bA Tryz.prog 40 ti40:=⟨by kernel_rfl,by simp[ti40,aF,Value.oneCell'],Tryz.underlying40⟩
def ti41:TI:=⟨1,24,[.z],.sl 217⟩
theorem tok41:bA Tryz.prog 41 ti41:=⟨by kernel_rfl,by simp[ti41,aF,Value.oneCell'],Tryz.underlying41⟩
def ti42:TI:=⟨2,48,[.z,.z],.st [(0,41),(1,24)]⟩
theorem tok42:bA Tryz.prog 42 ti42:=⟨by kernel_rfl,by simp[ti42,aF,Value.oneCell'],⟨_,Tryz.underlying42,rfl⟩⟩
def ti43:TI:=⟨2,48,[.z,.z],.st [(0,41),(1,24)]⟩
theorem tok43:bA Tryz.prog 43 ti43:=⟨by kernel_rfl,by simp[ti43,aF,Value.oneCell'],⟨_,Tryz.underlying43,rfl⟩⟩
def ti44:TI:=⟨1,24,[.z],.sl 221⟩
theorem tok44:bA Tryz.prog 44 ti44:=⟨by kernel_rfl,by simp[ti44,aF,Value.oneCell'],Tryz.underlying44⟩
def ti45:TI:=⟨2,32,[.v (.int .i64 0),.z],.st [(0,3),(1,44)]⟩
theorem tok45:bA Tryz.prog 45 ti45:=⟨by kernel_rfl,by simp[ti45,aF,Value.oneCell'],⟨_,Tryz.underlying45,rfl⟩⟩
def ti46:TI:=⟨2,32,[.v (.int .i64 0),.z],.st [(0,3),(1,44)]⟩
theorem tok46:bA Tryz.prog 46 ti46:=⟨by kernel_rfl,by simp[ti46,aF,Value.oneCell'],⟨_,Tryz.underlying46,rfl⟩⟩
def ti47:TI:=⟨3,40,[.v (.int .i64 0),.v (.int .i64 0),.z],.st [(0,3),(1,3),(2,33)]⟩
theorem tok47:bA Tryz.prog 47 ti47:=⟨by kernel_rfl,by simp[ti47,aF,Value.oneCell'],⟨_,Tryz.underlying47,rfl⟩⟩
def ti48:TI:=⟨3,40,[.v (.int .i64 0),.v (.int .i64 0),.z],.st [(0,3),(1,3),(2,33)]⟩
theorem tok48:bA Tryz.prog 48 ti48:=⟨by kernel_rfl,by simp[ti48,aF,Value.oneCell'],⟨_,Tryz.underlying48,rfl⟩⟩
def ti49:TI:=⟨5,56,[.v (.int .i64 0),.v (.int .i64 0),.z,.v (.int .i64 0),.v (.int .i64 0)],.st [(0,48),(3,3),(4,3)]⟩
theorem tok49:bA Tryz.prog 49 ti49:=⟨by kernel_rfl,by simp[ti49,aF,Value.oneCell'],⟨_,Tryz.underlying49,rfl⟩⟩
def ti50:TI:=⟨5,56,[.v (.int .i64 0),.v (.int .i64 0),.z,.v (.int .i64 0),.v (.int .i64 0)],.st [(0,48),(3,3),(4,3)]⟩
theorem tok50:bA Tryz.prog 50 ti50:=⟨by kernel_rfl,by simp[ti50,aF,Value.oneCell'],⟨_,Tryz.underlying50,rfl⟩⟩
def ti51:TI:=⟨24,400,[.z,.z,.z,.v (.int .i64 0),.z,.z,.z,.z,.z,.z,.z,.z,.v (.int .i64 0),.z,.v (.int .i64 0),.v (.int .i64 0),.v (.int .i64 0),.v (.int .i64 0),.v (.bool false),.v (.int .i64 0),.v (.int .i64 0),.z,.v (.int .i64 0),.v (.int .i64 0)],.st [(0,35),(5,36),(6,37),(7,38),(8,39),(9,40),(10,43),(12,46),(14,3),(15,3),(16,3),(17,3),(18,4),(19,50)]⟩
theorem tok51:bA Tryz.prog 51 ti51:=⟨by kernel_rfl,by simp[ti51,aF,Value.oneCell'],⟨_,Tryz.underlying51,rfl⟩⟩
def ti52:TI:=⟨24,400,[.z,.z,.z,.v (.int .i64 0),.z,.z,.z,.z,.z,.z,.z,.z,.v (.int .i64 0),.z,.v (.int .i64 0),.v (.int .i64 0),.v (.int .i64 0),.v (.int .i64 0),.v (.bool false),.v (.int .i64 0),.v (.int .i64 0),.z,.v (.int .i64 0),.v (.int .i64 0)],.st [(0,35),(5,36),(6,37),(7,38),(8,39),(9,40),(10,43),(12,46),(14,3),(15,3),(16,3),(17,3),(18,4),(19,50)]⟩
theorem tok52:bA Tryz.prog 52 ti52:=⟨by kernel_rfl,by simp[ti52,aF,Value.oneCell'],⟨_,Tryz.underlying52,rfl⟩⟩
def ti53:TI:=⟨1,24,[.z],.sl 388⟩
theorem tok53:bA Tryz.prog 53 ti53:=⟨by kernel_rfl,by simp[ti53,aF,Value.oneCell'],Tryz.underlying53⟩
def ti54:TI:=⟨2,32,[.v (.int .i64 0),.z],.st [(0,3),(1,53)]⟩
theorem tok54:bA Tryz.prog 54 ti54:=⟨by kernel_rfl,by simp[ti54,aF,Value.oneCell'],⟨_,Tryz.underlying54,rfl⟩⟩
def ti55:TI:=⟨2,32,[.v (.int .i64 0),.z],.st [(0,3),(1,53)]⟩
theorem tok55:bA Tryz.prog 55 ti55:=⟨by kernel_rfl,by simp[ti55,aF,Value.oneCell'],⟨_,Tryz.underlying55,rfl⟩⟩
def ti56:TI:=⟨26,432,[.z,.z,.z,.v (.int .i64 0),.z,.z,.z,.z,.z,.z,.z,.z,.v (.int .i64 0),.z,.v (.int .i64 0),.v (.int .i64 0),.v (.int .i64 0),.v (.int .i64 0),.v (.bool false),.v (.int .i64 0),.v (.int .i64 0),.z,.v (.int .i64 0),.v (.int .i64 0),.v (.int .i64 0),.z],.st [(0,52),(24,55)]⟩
theorem tok56:bA Tryz.prog 56 ti56:=⟨by kernel_rfl,by simp[ti56,aF,Value.oneCell'],⟨_,Tryz.underlying56,rfl⟩⟩
def ti57:TI:=⟨26,432,[.z,.z,.z,.v (.int .i64 0),.z,.z,.z,.z,.z,.z,.z,.z,.v (.int .i64 0),.z,.v (.int .i64 0),.v (.int .i64 0),.v (.int .i64 0),.v (.int .i64 0),.v (.bool false),.v (.int .i64 0),.v (.int .i64 0),.z,.v (.int .i64 0),.v (.int .i64 0),.v (.int .i64 0),.z],.st [(0,52),(24,55)]⟩
theorem tok57:bA Tryz.prog 57 ti57:=⟨by kernel_rfl,by simp[ti57,aF,Value.oneCell'],⟨_,Tryz.underlying57,rfl⟩⟩
def ti62:TI:=⟨3,24,[.v (.int .i64 0),.v (.int .i64 0),.v (.int .i64 0)],.st [(0,3),(1,3),(2,3)]⟩
theorem tok62:bA Tryz.prog 62 ti62:=⟨by kernel_rfl,by simp[ti62,aF,Value.oneCell'],⟨_,Tryz.underlying62,rfl⟩⟩
def ti63:TI:=⟨3,24,[.v (.int .i64 0),.v (.int .i64 0),.v (.int .i64 0)],.st [(0,3),(1,3),(2,3)]⟩
theorem tok63:bA Tryz.prog 63 ti63:=⟨by kernel_rfl,by simp[ti63,aF,Value.oneCell'],⟨_,Tryz.underlying63,rfl⟩⟩
def ti65:TI:=⟨4,32,[.v (.int .i64 0),.v (.int .i64 0),.v (.int .i64 0),.v (.int .i64 0)],.st [(0,3),(1,3),(2,3),(3,3)]⟩
theorem tok65:bA Tryz.prog 65 ti65:=⟨by kernel_rfl,by simp[ti65,aF,Value.oneCell'],⟨_,Tryz.underlying65,rfl⟩⟩
def ti66:TI:=⟨4,32,[.v (.int .i64 0),.v (.int .i64 0),.v (.int .i64 0),.v (.int .i64 0)],.st [(0,3),(1,3),(2,3),(3,3)]⟩
theorem tok66:bA Tryz.prog 66 ti66:=⟨by kernel_rfl,by simp[ti66,aF,Value.oneCell'],⟨_,Tryz.underlying66,rfl⟩⟩
def ti69:TI:=⟨8,64,[.v (.int .i64 0),.v (.int .i64 0),.v (.int .i64 0),.v (.int .i64 0),.v (.int .i64 0),.v (.int .i64 0),.v (.int .i64 0),.v (.int .i64 0)],.st [(0,3),(1,3),(2,3),(3,3),(4,3),(5,3),(6,3),(7,3)]⟩
theorem tok69:bA Tryz.prog 69 ti69:=⟨by kernel_rfl,by simp[ti69,aF,Value.oneCell'],⟨_,Tryz.underlying69,rfl⟩⟩
def ti70:TI:=⟨8,64,[.v (.int .i64 0),.v (.int .i64 0),.v (.int .i64 0),.v (.int .i64 0),.v (.int .i64 0),.v (.int .i64 0),.v (.int .i64 0),.v (.int .i64 0)],.st [(0,3),(1,3),(2,3),(3,3),(4,3),(5,3),(6,3),(7,3)]⟩
theorem tok70:bA Tryz.prog 70 ti70:=⟨by kernel_rfl,by simp[ti70,aF,Value.oneCell'],⟨_,Tryz.underlying70,rfl⟩⟩
def ti77:TI:=⟨2,48,[.z,.z],.st [(0,24),(1,25)]⟩
theorem tok77:bA Tryz.prog 77 ti77:=⟨by kernel_rfl,by simp[ti77,aF,Value.oneCell'],⟨_,Tryz.underlying77,rfl⟩⟩
def ti78:TI:=⟨1,24,[.z],.sl 410⟩
theorem tok78:bA Tryz.prog 78 ti78:=⟨by kernel_rfl,by simp[ti78,aF,Value.oneCell'],Tryz.underlying78⟩
def ti79:TI:=⟨1,24,[.z],.st [(0,78)]⟩
theorem tok79:bA Tryz.prog 79 ti79:=⟨by kernel_rfl,by simp[ti79,aF,Value.oneCell'],⟨_,Tryz.underlying79,rfl⟩⟩
def ti80:TI:=⟨1,24,[.z],.st [(0,78)]⟩
theorem tok80:bA Tryz.prog 80 ti80:=⟨by kernel_rfl,by simp[ti80,aF,Value.oneCell'],⟨_,Tryz.underlying80,rfl⟩⟩
def ti81:TI:=⟨3,72,[.z,.z,.z],.st [(0,77),(2,80)]⟩
theorem tok81:bA Tryz.prog 81 ti81:=⟨by kernel_rfl,by simp[ti81,aF,Value.oneCell'],⟨_,Tryz.underlying81,rfl⟩⟩
def ti82:TI:=⟨3,72,[.z,.z,.z],.st [(0,77),(2,80)]⟩
theorem tok82:bA Tryz.prog 82 ti82:=⟨by kernel_rfl,by simp[ti82,aF,Value.oneCell'],⟨_,Tryz.underlying82,rfl⟩⟩
def ti83:TI:=⟨5,104,[.z,.z,.z,.v (.int .i64 0),.z],.st [(0,82),(3,3),(4,33)]⟩
theorem tok83:bA Tryz.prog 83 ti83:=⟨by kernel_rfl,by simp[ti83,aF,Value.oneCell'],⟨_,Tryz.underlying83,rfl⟩⟩
def ti84:TI:=⟨5,104,[.z,.z,.z,.v (.int .i64 0),.z],.st [(0,82),(3,3),(4,33)]⟩
theorem tok84:bA Tryz.prog 84 ti84:=⟨by kernel_rfl,by simp[ti84,aF,Value.oneCell'],⟨_,Tryz.underlying84,rfl⟩⟩
def ti85:TI:=⟨1,24,[.z],.sl 255⟩
theorem tok85:bA Tryz.prog 85 ti85:=⟨by kernel_rfl,by simp[ti85,aF,Value.oneCell'],Tryz.underlying85⟩
def ti86:TI:=⟨1,24,[.z],.sl 257⟩
theorem tok86:bA Tryz.prog 86 ti86:=⟨by kernel_rfl,by simp[ti86,aF,Value.oneCell'],Tryz.underlying86⟩
def ti87:TI:=⟨1,24,[.z],.sl 259⟩
theorem tok87:bA Tryz.prog 87 ti87:=⟨by kernel_rfl,by simp[ti87,aF,Value.oneCell'],Tryz.underlying87⟩
def ti88:TI:=⟨1,24,[.z],.sl 261⟩
theorem tok88:bA Tryz.prog 88 ti88:=⟨by kernel_rfl,by simp[ti88,aF,Value.oneCell'],Tryz.underlying88⟩
def ti89:TI:=⟨1,24,[.z],.sl 248⟩
theorem tok89:bA Tryz.prog 89 ti89:=⟨by kernel_rfl,by simp[ti89,aF,Value.oneCell'],Tryz.underlying89⟩
def ti90:TI:=⟨1,24,[.z],.sl 313⟩
theorem tok90:bA Tryz.prog 90 ti90:=⟨by kernel_rfl,by simp[ti90,aF,Value.oneCell'],Tryz.underlying90⟩
def ti91:TI:=⟨2,48,[.z,.z],.st [(0,90),(1,24)]⟩
theorem tok91:bA Tryz.prog 91 ti91:=⟨by kernel_rfl,by simp[ti91,aF,Value.oneCell'],⟨_,Tryz.underlying91,rfl⟩⟩
def ti92:TI:=⟨2,48,[.z,.z],.st [(0,90),(1,24)]⟩
theorem tok92:bA Tryz.prog 92 ti92:=⟨by kernel_rfl,by simp[ti92,aF,Value.oneCell'],⟨_,Tryz.underlying92,rfl⟩⟩
def ti93:TI:=⟨1,24,[.z],.sl 321⟩
theorem tok93:bA Tryz.prog 93 ti93:=⟨by kernel_rfl,by simp[ti93,aF,Value.oneCell'],Tryz.underlying93⟩
def ti94:TI:=⟨2,32,[.v (.int .i64 0),.z],.st [(0,3),(1,93)]⟩
theorem tok94:bA Tryz.prog 94 ti94:=⟨by kernel_rfl,by simp[ti94,aF,Value.oneCell'],⟨_,Tryz.underlying94,rfl⟩⟩
def ti95:TI:=⟨2,32,[.v (.int .i64 0),.z],.st [(0,3),(1,93)]⟩
theorem tok95:bA Tryz.prog 95 ti95:=⟨by kernel_rfl,by simp[ti95,aF,Value.oneCell'],⟨_,Tryz.underlying95,rfl⟩⟩
def ti96:TI:=⟨3,40,[.v (.int .i64 0),.v (.int .i64 0),.z],.st [(0,3),(1,3),(2,33)]⟩
theorem tok96:bA Tryz.prog 96 ti96:=⟨by kernel_rfl,by simp[ti96,aF,Value.oneCell'],⟨_,Tryz.underlying96,rfl⟩⟩
def ti97:TI:=⟨5,56,[.v (.int .i64 0),.v (.int .i64 0),.z,.v (.int .i64 0),.v (.int .i64 0)],.st [(0,96),(3,3),(4,3)]⟩
theorem tok97:bA Tryz.prog 97 ti97:=⟨by kernel_rfl,by simp[ti97,aF,Value.oneCell'],⟨_,Tryz.underlying97,rfl⟩⟩
def ti98:TI:=⟨5,56,[.v (.int .i64 0),.v (.int .i64 0),.z,.v (.int .i64 0),.v (.int .i64 0)],.st [(0,96),(3,3),(4,3)]⟩
theorem tok98:bA Tryz.prog 98 ti98:=⟨by kernel_rfl,by simp[ti98,aF,Value.oneCell'],⟨_,Tryz.underlying98,rfl⟩⟩
def ti99:TI:=⟨24,400,[.z,.z,.z,.v (.int .i64 0),.z,.z,.z,.z,.z,.z,.z,.z,.v (.int .i64 0),.z,.v (.int .i64 0),.v (.int .i64 0),.v (.int .i64 0),.v (.int .i64 0),.v (.bool false),.v (.int .i64 0),.v (.int .i64 0),.z,.v (.int .i64 0),.v (.int .i64 0)],.st [(0,84),(5,85),(6,86),(7,87),(8,88),(9,89),(10,92),(12,95),(14,3),(15,3),(16,3),(17,3),(18,4),(19,98)]⟩
theorem tok99:bA Tryz.prog 99 ti99:=⟨by kernel_rfl,by simp[ti99,aF,Value.oneCell'],⟨_,Tryz.underlying99,rfl⟩⟩
def ti100:TI:=⟨24,400,[.z,.z,.z,.v (.int .i64 0),.z,.z,.z,.z,.z,.z,.z,.z,.v (.int .i64 0),.z,.v (.int .i64 0),.v (.int .i64 0),.v (.int .i64 0),.v (.int .i64 0),.v (.bool false),.v (.int .i64 0),.v (.int .i64 0),.z,.v (.int .i64 0),.v (.int .i64 0)],.st [(0,84),(5,85),(6,86),(7,87),(8,88),(9,89),(10,92),(12,95),(14,3),(15,3),(16,3),(17,3),(18,4),(19,98)]⟩
theorem tok100:bA Tryz.prog 100 ti100:=⟨by kernel_rfl,by simp[ti100,aF,Value.oneCell'],⟨_,Tryz.underlying100,rfl⟩⟩
def ti117:TI:=⟨2,16,[.v (.int .i64 0),.v (.int .i64 0)],.st [(0,3),(1,3)]⟩
theorem tok117:bA Tryz.prog 117 ti117:=⟨by kernel_rfl,by simp[ti117,aF,Value.oneCell'],⟨_,Tryz.underlying117,rfl⟩⟩
def ti118:TI:=⟨2,16,[.v (.int .i64 0),.v (.int .i64 0)],.st [(0,3),(1,3)]⟩
theorem tok118:bA Tryz.prog 118 ti118:=⟨by kernel_rfl,by simp[ti118,aF,Value.oneCell'],⟨_,Tryz.underlying118,rfl⟩⟩
def ti119:TI:=⟨1,24,[.z],.st [(0,24)]⟩
theorem tok119:bA Tryz.prog 119 ti119:=⟨by kernel_rfl,by simp[ti119,aF,Value.oneCell'],⟨_,Tryz.underlying119,rfl⟩⟩
def ti120:TI:=⟨1,24,[.z],.st [(0,24)]⟩
theorem tok120:bA Tryz.prog 120 ti120:=⟨by kernel_rfl,by simp[ti120,aF,Value.oneCell'],⟨_,Tryz.underlying120,rfl⟩⟩
def ti122:TI:=⟨2,16,[.v (.int .i64 0),.v (.int .i64 0)],.st [(0,3),(1,3)]⟩
theorem tok122:bA Tryz.prog 122 ti122:=⟨by kernel_rfl,by simp[ti122,aF,Value.oneCell'],⟨_,Tryz.underlying122,rfl⟩⟩
def ti123:TI:=⟨2,16,[.v (.int .i64 0),.v (.int .i64 0)],.st [(0,3),(1,3)]⟩
theorem tok123:bA Tryz.prog 123 ti123:=⟨by kernel_rfl,by simp[ti123,aF,Value.oneCell'],⟨_,Tryz.underlying123,rfl⟩⟩
def ti149:TI:=⟨4,32,[.v (.int .i64 0),.v (.int .i64 0),.v (.int .i64 0),.v (.int .i64 0)],.st [(0,3),(1,3),(2,3),(3,3)]⟩
theorem tok149:bA Tryz.prog 149 ti149:=⟨by kernel_rfl,by simp[ti149,aF,Value.oneCell'],⟨_,Tryz.underlying149,rfl⟩⟩
def ti150:TI:=⟨4,32,[.v (.int .i64 0),.v (.int .i64 0),.v (.int .i64 0),.v (.int .i64 0)],.st [(0,3),(1,3),(2,3),(3,3)]⟩
theorem tok150:bA Tryz.prog 150 ti150:=⟨by kernel_rfl,by simp[ti150,aF,Value.oneCell'],⟨_,Tryz.underlying150,rfl⟩⟩
def ti197:TI:=⟨5,56,[.v (.int .i64 0),.v (.int .i64 0),.v (.int .i64 0),.v (.int .i64 0),.z],.st [(0,3),(1,3),(2,3),(3,3),(4,33)]⟩
theorem tok197:bA Tryz.prog 197 ti197:=⟨by kernel_rfl,by simp[ti197,aF,Value.oneCell'],⟨_,Tryz.underlying197,rfl⟩⟩
def ti198:TI:=⟨5,56,[.v (.int .i64 0),.v (.int .i64 0),.v (.int .i64 0),.v (.int .i64 0),.z],.st [(0,3),(1,3),(2,3),(3,3),(4,33)]⟩
theorem tok198:bA Tryz.prog 198 ti198:=⟨by kernel_rfl,by simp[ti198,aF,Value.oneCell'],⟨_,Tryz.underlying198,rfl⟩⟩
def ti200:TI:=⟨1,24,[.z],.sl 289⟩
theorem tok200:bA Tryz.prog 200 ti200:=⟨by kernel_rfl,by simp[ti200,aF,Value.oneCell'],Tryz.underlying200⟩
def ti202:TI:=⟨3,40,[.z,.v (.int .i64 0),.v (.int .i64 0)],.st [(0,22),(1,3),(2,3)]⟩
theorem tok202:bA Tryz.prog 202 ti202:=⟨by kernel_rfl,by simp[ti202,aF,Value.oneCell'],⟨_,Tryz.underlying202,rfl⟩⟩
def ti203:TI:=⟨3,40,[.z,.v (.int .i64 0),.v (.int .i64 0)],.st [(0,22),(1,3),(2,3)]⟩
theorem tok203:bA Tryz.prog 203 ti203:=⟨by kernel_rfl,by simp[ti203,aF,Value.oneCell'],⟨_,Tryz.underlying203,rfl⟩⟩
def ti210:TI:=⟨1,8,[.v (.map none)],.mp 3 4 (.bool false)⟩
theorem tok210:bA Tryz.prog 210 ti210:=⟨by kernel_rfl,by simp[ti210,aF,Value.oneCell'],⟨Tryz.underlying210,Tryz.underlying3,by kernel_rfl,rfl⟩⟩
def ti211:TI:=⟨3,24,[.v (.int .i64 0),.v (.int .i64 0),.v (.int .i64 0)],.st [(0,3),(1,3),(2,3)]⟩
theorem tok211:bA Tryz.prog 211 ti211:=⟨by kernel_rfl,by simp[ti211,aF,Value.oneCell'],⟨_,Tryz.underlying211,rfl⟩⟩
def ti212:TI:=⟨3,24,[.v (.int .i64 0),.v (.int .i64 0),.v (.int .i64 0)],.st [(0,3),(1,3),(2,3)]⟩
theorem tok212:bA Tryz.prog 212 ti212:=⟨by kernel_rfl,by simp[ti212,aF,Value.oneCell'],⟨_,Tryz.underlying212,rfl⟩⟩
def ti217:TI:=⟨1,24,[.z],.sl 219⟩
theorem tok217:bA Tryz.prog 217 ti217:=⟨by kernel_rfl,by simp[ti217,aF,Value.oneCell'],Tryz.underlying217⟩
def ti218:TI:=⟨2,16,[.v (.int .i64 0),.v (.int .i64 0)],.st [(0,3),(1,3)]⟩
theorem tok218:bA Tryz.prog 218 ti218:=⟨by kernel_rfl,by simp[ti218,aF,Value.oneCell'],⟨_,Tryz.underlying218,rfl⟩⟩
def ti219:TI:=⟨2,16,[.v (.int .i64 0),.v (.int .i64 0)],.st [(0,3),(1,3)]⟩
theorem tok219:bA Tryz.prog 219 ti219:=⟨by kernel_rfl,by simp[ti219,aF,Value.oneCell'],⟨_,Tryz.underlying219,rfl⟩⟩
def ti220:TI:=⟨3,24,[.v (.int .i64 0),.v (.int .i64 0),.v (.int .i64 0)],.st [(0,3),(1,3),(2,3)]⟩
theorem tok220:bA Tryz.prog 220 ti220:=⟨by kernel_rfl,by simp[ti220,aF,Value.oneCell'],⟨_,Tryz.underlying220,rfl⟩⟩
def ti221:TI:=⟨3,24,[.v (.int .i64 0),.v (.int .i64 0),.v (.int .i64 0)],.st [(0,3),(1,3),(2,3)]⟩
theorem tok221:bA Tryz.prog 221 ti221:=⟨by kernel_rfl,by simp[ti221,aF,Value.oneCell'],⟨_,Tryz.underlying221,rfl⟩⟩
def ti224:TI:=⟨1,8,[.v (.map none)],.mp 3 3 (.int .i64 0)⟩
theorem tok224:bA Tryz.prog 224 ti224:=⟨by kernel_rfl,by simp[ti224,aF,Value.oneCell'],⟨Tryz.underlying224,Tryz.underlying3,by kernel_rfl,rfl⟩⟩
def ti248:TI:=⟨1,24,[.z],.st [(0,24)]⟩
theorem tok248:bA Tryz.prog 248 ti248:=⟨by kernel_rfl,by simp[ti248,aF,Value.oneCell'],⟨_,Tryz.underlying248,rfl⟩⟩
def ti255:TI:=⟨2,16,[.v (.int .i64 0),.v (.int .i64 0)],.st [(0,3),(1,3)]⟩
theorem tok255:bA Tryz.prog 255 ti255:=⟨by kernel_rfl,by simp[ti255,aF,Value.oneCell'],⟨_,Tryz.underlying255,rfl⟩⟩
def ti257:TI:=⟨3,24,[.v (.int .i64 0),.v (.int .i64 0),.v (.int .i64 0)],.st [(0,3),(1,3),(2,3)]⟩
theorem tok257:bA Tryz.prog 257 ti257:=⟨by kernel_rfl,by simp[ti257,aF,Value.oneCell'],⟨_,Tryz.underlying257,rfl⟩⟩
def ti259:TI:=⟨3,24,[.v (.int .i64 0),.v (.int .i64 0),.v (.int .i64 0)],.st [(0,3),(1,3),(2,3)]⟩
theorem tok259:bA Tryz.prog 259 ti259:=⟨by kernel_rfl,by simp[ti259,aF,Value.oneCell'],⟨_,Tryz.underlying259,rfl⟩⟩
def ti261:TI:=⟨4,32,[.v (.int .i64 0),.v (.int .i64 0),.v (.int .i64 0),.v (.int .i64 0)],.st [(0,3),(1,3),(2,3),(3,3)]⟩
theorem tok261:bA Tryz.prog 261 ti261:=⟨by kernel_rfl,by simp[ti261,aF,Value.oneCell'],⟨_,Tryz.underlying261,rfl⟩⟩
def ti288:TI:=⟨5,40,[.v (.int .i64 0),.v (.int .i64 0),.v (.int .i64 0),.v (.int .i64 0),.v (.int .i64 0)],.st [(0,3),(1,3),(2,3),(3,3),(4,3)]⟩
theorem tok288:bA Tryz.prog 288 ti288:=⟨by kernel_rfl,by simp[ti288,aF,Value.oneCell'],⟨_,Tryz.underlying288,rfl⟩⟩
def ti289:TI:=⟨5,40,[.v (.int .i64 0),.v (.int .i64 0),.v (.int .i64 0),.v (.int .i64 0),.v (.int .i64 0)],.st [(0,3),(1,3),(2,3),(3,3),(4,3)]⟩
theorem tok289:bA Tryz.prog 289 ti289:=⟨by kernel_rfl,by simp[ti289,aF,Value.oneCell'],⟨_,Tryz.underlying289,rfl⟩⟩
def ti302:TI:=⟨1,8,[.v (.int .u64 0)],.sc (.int .u64)⟩
theorem tok302:bA Tryz.prog 302 ti302:=⟨by kernel_rfl,by simp[ti302,aF,Value.oneCell'],⟨Tryz.underlying302,trivial⟩⟩
def ti313:TI:=⟨1,24,[.z],.sl 373⟩
theorem tok313:bA Tryz.prog 313 ti313:=⟨by kernel_rfl,by simp[ti313,aF,Value.oneCell'],Tryz.underlying313⟩
def ti321:TI:=⟨3,24,[.v (.int .i64 0),.v (.int .i64 0),.v (.int .i64 0)],.st [(0,3),(1,3),(2,3)]⟩
theorem tok321:bA Tryz.prog 321 ti321:=⟨by kernel_rfl,by simp[ti321,aF,Value.oneCell'],⟨_,Tryz.underlying321,rfl⟩⟩
def ti327:TI:=⟨1,24,[.z],.sl 333⟩
theorem tok327:bA Tryz.prog 327 ti327:=⟨by kernel_rfl,by simp[ti327,aF,Value.oneCell'],Tryz.underlying327⟩
def ti332:TI:=⟨2,16,[.v (.int .i64 0),.v (.int .i64 0)],.st [(0,3),(1,3)]⟩
theorem tok332:bA Tryz.prog 332 ti332:=⟨by kernel_rfl,by simp[ti332,aF,Value.oneCell'],⟨_,Tryz.underlying332,rfl⟩⟩
def ti333:TI:=⟨2,16,[.v (.int .i64 0),.v (.int .i64 0)],.st [(0,3),(1,3)]⟩
theorem tok333:bA Tryz.prog 333 ti333:=⟨by kernel_rfl,by simp[ti333,aF,Value.oneCell'],⟨_,Tryz.underlying333,rfl⟩⟩
def ti353:TI:=⟨1,8,[.v (.int .i64 0)],.sc (.int .i64)⟩
theorem tok353:bA Tryz.prog 353 ti353:=⟨by kernel_rfl,by simp[ti353,aF,Value.oneCell'],⟨Tryz.underlying353,trivial⟩⟩
def ti361:TI:=⟨1,4,[.v (.int .u32 0)],.sc (.int .u32)⟩
theorem tok361:bA Tryz.prog 361 ti361:=⟨by kernel_rfl,by simp[ti361,aF,Value.oneCell'],⟨Tryz.underlying361,trivial⟩⟩
def ti363:TI:=⟨1,8,[.v (.int .u64 0)],.sc (.int .u64)⟩
theorem tok363:bA Tryz.prog 363 ti363:=⟨by kernel_rfl,by simp[ti363,aF,Value.oneCell'],⟨Tryz.underlying363,trivial⟩⟩
def ti373:TI:=⟨2,16,[.v (.int .i64 0),.v (.int .i64 0)],.st [(0,3),(1,3)]⟩
theorem tok373:bA Tryz.prog 373 ti373:=⟨by kernel_rfl,by simp[ti373,aF,Value.oneCell'],⟨_,Tryz.underlying373,rfl⟩⟩
def ti387:TI:=⟨2,32,[.v (.int .i64 0),.z],.st [(0,3),(1,33)]⟩
theorem tok387:bA Tryz.prog 387 ti387:=⟨by kernel_rfl,by simp[ti387,aF,Value.oneCell'],⟨_,Tryz.underlying387,rfl⟩⟩
def ti388:TI:=⟨2,32,[.v (.int .i64 0),.z],.st [(0,3),(1,33)]⟩
theorem tok388:bA Tryz.prog 388 ti388:=⟨by kernel_rfl,by simp[ti388,aF,Value.oneCell'],⟨_,Tryz.underlying388,rfl⟩⟩
def ti397:TI:=⟨1,8,[.v (.int .u64 0)],.sc (.int .u64)⟩
theorem tok397:bA Tryz.prog 397 ti397:=⟨by kernel_rfl,by simp[ti397,aF,Value.oneCell'],⟨Tryz.underlying397,trivial⟩⟩
def ti410:TI:=⟨2,16,[.v (.int .i64 0),.v (.int .i64 0)],.st [(0,3),(1,3)]⟩
theorem tok410:bA Tryz.prog 410 ti410:=⟨by kernel_rfl,by simp[ti410,aF,Value.oneCell'],⟨_,Tryz.underlying410,rfl⟩⟩
def ti451:TI:=⟨0,0,[],.st [(0,450)]⟩
theorem tok451:bA Tryz.prog 451 ti451:=⟨by kernel_rfl,by simp[ti451,aF,Value.oneCell'],⟨_,Tryz.underlying451,rfl⟩⟩
def ti452:TI:=⟨0,0,[],.st [(0,450)]⟩
theorem tok452:bA Tryz.prog 452 ti452:=⟨by kernel_rfl,by simp[ti452,aF,Value.oneCell'],⟨_,Tryz.underlying452,rfl⟩⟩
def ti454:TI:=⟨1,1,[.v (.int .u8 0)],.sc (.int .u8)⟩
theorem tok454:bA Tryz.prog 454 ti454:=⟨by kernel_rfl,by simp[ti454,aF,Value.oneCell'],⟨Tryz.underlying454,trivial⟩⟩
def ti455:TI:=⟨1,1,[.v (.int .u8 0)],.sc (.int .u8)⟩
theorem tok455:bA Tryz.prog 455 ti455:=⟨by kernel_rfl,by simp[ti455,aF,Value.oneCell'],⟨Tryz.underlying455,trivial⟩⟩
def ti458:TI:=⟨1,4,[.v (.int .i32 0)],.sc (.int .i32)⟩
theorem tok458:bA Tryz.prog 458 ti458:=⟨by kernel_rfl,by simp[ti458,aF,Value.oneCell'],⟨Tryz.underlying458,trivial⟩⟩
def ti459:TI:=⟨1,4,[.v (.int .i32 0)],.sc (.int .i32)⟩
theorem tok459:bA Tryz.prog 459 ti459:=⟨by kernel_rfl,by simp[ti459,aF,Value.oneCell'],⟨Tryz.underlying459,trivial⟩⟩
def tab:List (Nat × TI):=[(3,ti3),(4,ti4),(2,ti2),(5,ti5),(6,ti6),(7,ti7),(8,ti8),(9,ti9),(10,ti10),(11,ti11),(12,ti12),(13,ti13),(14,ti14),(21,ti21),(22,ti22),(24,ti24),(25,ti25),(26,ti26),(27,ti27),(28,ti28),(29,ti29),(30,ti30),(31,ti31),(32,ti32),(33,ti33),(34,ti34),(35,ti35),(36,ti36),(37,ti37),(38,ti38),(39,ti39),(40,ti40),(41,ti41),(42,ti42),(43,ti43),(44,ti44),(45,ti45),(46,ti46),(47,ti47),(48,ti48),(49,ti49),(50,ti50),(51,ti51),(52,ti52),(53,ti53),(54,ti54),(55,ti55),(56,ti56),(57,ti57),(62,ti62),(63,ti63),(65,ti65),(66,ti66),(69,ti69),(70,ti70),(77,ti77),(78,ti78),(79,ti79),(80,ti80),(81,ti81),(82,ti82),(83,ti83),(84,ti84),(85,ti85),(86,ti86),(87,ti87),(88,ti88),(89,ti89),(90,ti90),(91,ti91),(92,ti92),(93,ti93),(94,ti94),(95,ti95),(96,ti96),(97,ti97),(98,ti98),(99,ti99),(100,ti100),(117,ti117),(118,ti118),(119,ti119),(120,ti120),(122,ti122),(123,ti123),(149,ti149),(150,ti150),(197,ti197),(198,ti198),(200,ti200),(202,ti202),(203,ti203),(210,ti210),(211,ti211),(212,ti212),(217,ti217),(218,ti218),(219,ti219),(220,ti220),(221,ti221),(224,ti224),(248,ti248),(255,ti255),(257,ti257),(259,ti259),(261,ti261),(288,ti288),(289,ti289),(302,ti302),(313,ti313),(321,ti321),(327,ti327),(332,ti332),(333,ti333),(353,ti353),(361,ti361),(363,ti363),(373,ti373),(387,ti387),(388,ti388),(397,ti397),(410,ti410),(451,ti451),(452,ti452),(454,ti454),(455,ti455),(458,ti458),(459,ti459)]
theorem MY:ML Tryz.prog tab:=⟨tok3,tok4,tok2,tok5,tok6,tok7,tok8,tok9,tok10,tok11,tok12,tok13,tok14,tok21,tok22,tok24,tok25,tok26,tok27,tok28,tok29,tok30,tok31,tok32,tok33,tok34,tok35,tok36,tok37,tok38,tok39,tok40,tok41,tok42,tok43,tok44,tok45,tok46,tok47,tok48,tok49,tok50,tok51,tok52,tok53,tok54,tok55,tok56,tok57,tok62,tok63,tok65,tok66,tok69,tok70,tok77,tok78,tok79,tok80,tok81,tok82,tok83,tok84,tok85,tok86,tok87,tok88,tok89,tok90,tok91,tok92,tok93,tok94,tok95,tok96,tok97,tok98,tok99,tok100,tok117,tok118,tok119,tok120,tok122,tok123,tok149,tok150,tok197,tok198,tok200,tok202,tok203,tok210,tok211,tok212,tok217,tok218,tok219,tok220,tok221,tok224,tok248,tok255,tok257,tok259,tok261,tok288,tok289,tok302,tok313,tok321,tok327,tok332,tok333,tok353,tok361,tok363,tok373,tok387,tok388,tok397,tok410,tok451,tok452,tok454,tok455,tok458,tok459,trivial⟩
def TE:Nat→Option TI:=Ha tab
theorem vB:∀ t i,TE t=some i→bA Tryz.prog t i:=BP MY
end Go.Proofs.YtplcalfnngkffaaGreat.Ab
