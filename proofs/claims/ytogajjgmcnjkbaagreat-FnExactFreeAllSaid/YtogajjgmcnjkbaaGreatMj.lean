/- The library's Sort of numbers, on data of the call's own. No condition. -/
import Derived.Test.YtogajjgmcnjkbaaGreatMi
import Derived.Test.YtogajjgmcnjkbaaGreatShelf
namespace Go.Proofs.YtogajjgmcnjkbaaGreat.Ab
open Go.RowKit
set_option maxRecDepth 20000
set_option maxHeartbeats 4000000
def sorted (xs:List Int):List Int:=xs.mergeSort fun x y=>decide (x≤y)
theorem sD (xs:List Int):(sorted xs).length=xs.length:=List.length_mergeSort ..
theorem Bp {w w':World} {g n:Nat} {d:Array Int} {os:Array Obj} {c:Array Value} {e:TypeId} {fr:Nat × Nat} (hg:w.heap[g]? = some (.cells c e fr)) (hw:w'=Sort.grow (Sort.putRow (Value.int .i64) (Sort.ahead w n) g 0 d) os) :
  w'.os=w.os∧w'.tape=w.tape∧w'.output=w.output∧w.heap.size≤w'.heap.size∧(∀ b,b<w.heap.size→b≠g→w'.heap[b]? = w.heap[b]?)∧w'.heap[g]? = some (.cells (Sort.putCells (Value.int .i64) 0 d c) e fr):=by
 subst hw
 have hlt:g<w.heap.size:=(Array.getElem?_eq_some_iff.1 hg).1
 have hh:∀ b,b<w.heap.size→(Sort.grow (Sort.putRow (Value.int .i64) (Sort.ahead w n) g 0 d) os).heap[b]? = if g=b then(w.heap[b]?).map (Sort.onCells (Sort.putCells (Value.int .i64) 0 d)) else w.heap[b]?:=fun b hb=>by
  rw[Sort.heap_grow_old _ _ (by simpa[Sort.putRow,Sort.mapBlock,Sort.ahead] using hb)]
  show(w.heap.modify g _)[b]? = _
  rw[Array.getElem?_modify]
 refine⟨rfl,rfl,rfl,?_,fun b hb hne=>?_,?_⟩
 ·show w.heap.size≤((w.heap.modify g _)++os).size
  simp
 ·rw[hh b hb,if_neg fun e=>hne e.symm]
 ·rw[hh g hlt,if_pos rfl,hg];rfl
theorem Hd (d:Array Int) (c:Array Value) (q:Nat):(Sort.putCells (Value.int .i64) 0 d c)[q]? = if q<d.size then(c[q]?).map (fun _=>.int .i64 d[q]!) else c[q]?:=by
 unfold Sort.putCells
 rw[Array.getElem?_mapIdx]
 by_cases h:q<d.size
 ·rw[if_pos h]
  cases c[q]? with
  | none=>rfl
  | some y=>simp[h]
 ·rw[if_neg h]
  cases c[q]? with
  | none=>rfl
  | some y=>simp[h]
theorem row1 {w:World} {S Y:ab} {c:C} {v:Value} (h:dK w S Y c v):cm w S Y [c] (fun _=>v):=by
 refine⟨fun _=>Y,fun j c' hj=>?_,fun _ _ _ _ h=>h,fun j j' hj hj' hne=>?_⟩
 ·cases j with
  | zero=>simp at hj;subst hj;exact h
  | succ j=>simp at hj
 ·simp at hj hj';omega
def JH (Y:ab):Nat→ab
 | 0=>Y
 | _+1=>NO
theorem zI (xs:List Int) {j:Nat} (hj:j<xs.length):xs.toArray[j]! = xs[j]:=by
 rw[getElem!_pos xs.toArray j (by simpa using hj)];simp
theorem GI (xs:List Int) (hl:xs.length≤1048576*64):bm Tryz.prog 316 false [.mut none (aI .own xs)] [.mut none (aI .own (sorted xs))] (.tup []) []:=by
 refine⟨⟨_,Tryz.func316,by kernel_rfl,by kernel_rfl⟩,fun w S V vs hS hV hVV hA=>?_⟩
 match vs,hA with
 | [v],⟨hA,_⟩=>
  have hrep:=bo.rep1 (show bo w S (V 0) none [C.s .own (xs.map (rI .own))] v from hA)
  generalize hcc:C.s .own (xs.map (rI .own))=cc at hrep
  cases hrep with
  | nil _ o a ho=>
   cases hcc0:xs with
   | cons x xs'=>rw[hcc0]at hcc;cases hcc
   | nil=>
    refine(Tryz.slices_Sort_int_none a 0 w).mono fun e w' ⟨he,hw'⟩=>?_
    subst hw'
    refine⟨.tuple #[],he,bu.refl _ _,NO,fun _=>NO,NO,fun _ _ h=>h.elim,fun _ _ _ h=>h.elim,fun _ _ h=>h.elim,fun _ _ _ _ _ h=>h.elim,fun _ _ _ h=>h.elim,fun _ _ h=>h.elim,fun _ _ _ h=>h.elim,⟨#[],rfl,trivial,rfl⟩,cm.nil _ _ _ _,⟨⟨rfl,fun _=>.slice a 0 0,rfl,row1 (by rw[show sorted []=[] from List.mergeSort_nil ..];exact .nil _ .own _ trivial)⟩,trivial⟩⟩
  | own _ o g k n cap rows u f ho hn hk hcap hpos hF hu hf hd hc=>
   cases hcc
   have hnx:n=xs.length:=by rw[←hn,List.length_map]
   have hx0:0<xs.length:=by omega
   have hk1:k=1:=by
    have:=hk (rI .own xs[0]) (List.mem_map.2 ⟨_,List.getElem_mem hx0,rfl⟩)
    exact this.symm
   subst hk1 hnx
   have hval:∀ j (hj:j<xs.length),cel w g j=some (.int .i64 xs[j]):=fun j hj=>by
    have h1:=hu j (by omega)
    have h2:=hc j 0 (rI .own xs[j]) (I xs[j]) (by rw[List.getElem?_map,List.getElem?_eq_getElem hj];rfl) rfl
    rw[Nat.mul_one,Nat.add_zero]at h2
    rw[h1]
    generalize u j=z at h2
    cases h2
    rfl
   have hgs:g<w.heap.size:=(hV 0 g 0 (hF 0 (by omega)).1).1
   obtain⟨c,e0,fr,hg,-⟩:=Sort.cells_of_cell? (hval 0 hx0)
   have hH:Sort.Holds (Value.int .i64) w g 0 xs.toArray:=fun j hj=>by
    have hj':j<xs.length:=by simpa using hj
    refine⟨?_,?_⟩
    ·rw[zI xs hj',Nat.zero_add];exact hval j hj'
    ·rw[Nat.zero_add];exact congrArg Prod.fst (hF j (by omega)).2.2
   refine(Tryz.slices_Sort_int g 0 cap xs w hH hgs (by omega)).mono fun e w' ⟨he,m,os,hw'⟩=>?_
   obtain⟨q1,q2,q3,q4,q5,q6⟩:=Bp hg hw'
   have hsl:=sD xs
   have hcel:∀ q,cel w g q=c[q]?:=fun q=>by show World.cell? w _=_;unfold World.cell?;simp[hg]
   have hcel':∀ q,cel w' g q=if q<xs.length then(c[q]?).map (fun _=>.int .i64 (sorted xs).toArray[q]!) else c[q]?:=fun q=>by
    have h1:=Hd (sorted xs).toArray c q
    have h2:(sorted xs).toArray.size=xs.length:=by simpa using hsl
    rw[h2]at h1
    rw[←h1]
    show World.cell? w' _=_
    unfold World.cell?;simp[q6,sorted]
   have hval':∀ q (hq:q<xs.length),cel w' g q=some (.int .i64 ((sorted xs)[q]'(by omega))):=fun q hq=>by
    have h1:=hval q hq
    rw[hcel]at h1
    rw[hcel',if_pos hq,h1,Option.map_some,zI (sorted xs) (by omega)]
   have hfro:∀ q,fro w' g q=fro w g q:=fun q=>by
    refine Prod.ext ?_ ?_
    ·show World.frozen? w' _=World.frozen? w _
     unfold World.frozen?;simp[q6,hg]
    ·show mp w' g=mp w g
     unfold mp;rw[q6,hg]
   have hother:∀ b,b<w.heap.size→b≠g→∀ o,cel w' b o=cel w b o∧fro w' b o=fro w b o:=fun b hb hne o=>by
    have hb':=q5 b hb hne
    refine⟨?_,Prod.ext ?_ ?_⟩
    ·show World.cell? w' _=World.cell? w _
     unfold World.cell?;simp only[hb']
    ·show World.frozen? w' _=World.frozen? w _
     unfold World.frozen?;simp only[hb']
    ·show mp w' b=mp w b
     unfold mp;rw[hb']
   have hkeep:bu (fun b o=>∃ i,V i b o) w w':=by
    refine⟨q1,q2,q3,q4,fun b hb hn=>q5 b hb fun e=>?_,fun b o hb hn=>?_,fun b o hb hn=>?_⟩
    ·subst e;exact hn 0 ⟨0,(hF 0 (by omega)).1⟩
    ·by_cases e:b=g
     ·subst e
      have ho:¬o<xs.length:=fun h=>hn ⟨0,(hF o (by omega)).1⟩
      rw[hcel',if_neg ho,hcel]
     ·exact(hother b hb e o).1
    ·by_cases e:b=g
     ·subst e;exact hfro o
     ·exact(hother b hb e o).2
   refine⟨.tuple #[],he,hkeep,NO,JH (V 0),NO,fun _ _ h=>h.elim,fun i b o h=>?_,fun _ _ h=>h.elim,fun i i' hne b o h h'=>?_,fun _ _ _ h=>h.elim,fun _ _ h=>h.elim,fun _ _ _ _ h=>h.elim,⟨#[],rfl,trivial,rfl⟩,cm.nil _ _ _ _,⟨⟨rfl,fun _=>.slice (some ⟨g,0,none⟩) xs.length cap,rfl,row1 ?_⟩,trivial⟩⟩
   ·cases i with
    | zero=>exact .inl ⟨0,h⟩
    | succ i=>exact h.elim
   ·cases i with
    | zero=>
     cases i' with
     | zero=>exact hne rfl
     | succ i'=>exact h'.elim
    | succ i=>exact h.elim
   ·show dK w' _ (V 0) _ _
    refine .own _ .own g 1 xs.length cap _ (fun q=>(cel w' g q).getD undef) (fun _=>NO) trivial (by rw[List.length_map,hsl]) (fun r hr=>by obtain⟨z,-,rfl⟩:=List.mem_map.1 hr;rfl) hcap hpos (fun q hq=>?_) (fun q hq=>?_) (fun _ _ _ _ h=>h.elim) (fun _ _ _ _ _ _ _ h=>h.elim) (fun i j r c2 hi hj=>?_)
    ·obtain⟨a1,⟨z,a2,a3⟩,a4⟩:=hF q hq
     refine⟨a1,?_,(hfro q).trans a4⟩
     by_cases hqx:q<xs.length
     ·exact⟨_,hval' q hqx,rfl⟩
     ·rw[hcel',if_neg hqx,←hcel];exact⟨z,a2,a3⟩
    ·rw[hval' q (by omega)];rfl
    ·rw[List.getElem?_map]at hi
     have hil:i<(sorted xs).length:=by
      rcases Nat.lt_or_ge i (sorted xs).length with h|h
      ·exact h
      ·rw[List.getElem?_eq_none h]at hi;cases hi
     rw[List.getElem?_eq_getElem hil]at hi
     simp only[Option.map_some,Option.some.injEq]at hi
     subst hi
     match j,hj with
     | 0,hj=>
      simp only[rI,List.getElem?_cons_zero,Option.some.injEq]at hj
      subst hj
      simp only[Nat.mul_one,Nat.add_zero,hval' i (by omega),Option.getD_some]
      exact .v _ _ rfl
     | j+1,hj=>simp[rI]at hj
  | _=>cases hcc
end Go.Proofs.YtogajjgmcnjkbaaGreat.Ab
namespace Go.Proofs.YtogajjgmcnjkbaaGreat.Ab
open Go.RowKit
set_option maxRecDepth 20000
set_option maxHeartbeats 8000000
def j7 (s:am) (k:Nat):Int:=16*s.Page+(k:Nat)*csz s.Class
def d7 (s:am) (n:Nat):List Int:=((List.range n).filter fun k=>cy s.Bits (k:Nat)).map (j7 s)
theorem wb {s:am} {n:Nat} (h:cy s.Bits (n:Nat)=true):d7 s (n+1)=d7 s n++[j7 s n]:=by
 unfold d7;rw[List.range_succ,List.filter_append,List.map_append];simp[h]
theorem ym {s:am} {n:Nat} (h:cy s.Bits (n:Nat)=false):d7 s (n+1)=d7 s n:=by
 unfold d7;rw[List.range_succ,List.filter_append,List.map_append];simp[h]
theorem po (s:am) (n:Nat):(d7 s n).length≤n:=by
 unfold d7;rw[List.length_map];exact Nat.le_trans (List.length_filter_le ..) (by simp)
def dX (sp:List am):List Int:=sp.flatMap fun s=>d7 s (slots s.Class).toNat
def live0 (sp:List am) (la:List ah):List Int:=dX sp++la.map fun l=>16*l.Page
def lT (sp:List am) (la:List ah):List Int:=sorted (live0 sp la)
theorem oG (k:Int):0≤slots k∧slots k≤16:=by
 unfold slots;(repeat' split)<;>decide
theorem v7 {k:Int} (h:0≤k∧k≤3):slots k*csz k=16:=by
 obtain rfl|rfl|rfl|rfl:k=0∨k=1∨k=2∨k=3:=by omega
 all_goals decide
theorem tc {sp:List am} {i:Nat} {s:am} (h:sp[i]? = some s):dX (sp.take (i+1))=dX (sp.take i)++d7 s (slots s.Class).toNat:=by
 unfold dX;rw[List.take_add_one,h,List.flatMap_append];simp
theorem uj (s:am) (k:Nat) (hs:b8 s=true) (hk:(k:Int)<slots s.Class):af Tryz.prog 315 false [.val (some 3) (am.enc .imm s),.val none [I (k:Nat)]] .one [I (j7 s k)]:=by
 have h1:=fW s
 have h2:=dH s.Class
 have h3:=gp s.Class
 rw[hs]at h1
 have hc:=aU hs
 have hb:=oG s.Class
 rcases d2 ⟨hc.2.2.1,hc.2.2.2⟩ with e|e|e|e<;>rw[e]at h2
 all_goals
  refine fO (n:=26) [(3,9,[17,18,19,20,21,22,23,24,25])] Tryz.func315 (by kernel_rfl) rfl (by kernel_rfl) (by rfl) (.inr ⟨trivial,trivial⟩) ?_
  repeat'((conv=>whnf);first|with_reducible (first|refine Lm ?_|refine Wm (by omega) ?_|refine dT (by omega) (fun hq=>?_)|refine dF (by omega) (fun hq=>?_)|refine Bf.D (fun hq=>?_) (fun hq=>?_)|refine Bn ?_|refine Fm rfl ?_)|refine Bt ?_|refine Bu ?_|refine Cl.mk h1 ?_|refine Cl.mk h2 ?_|refine Cl.mk h3 ?_|refine Cl.mk (aH _ 0 _) ?_)
  all_goals exact congrArg (fun z=>[I z]) (by unfold j7;rw[e];omega)
theorem tw (sp:List am) (la:List ah) (hs1:cf sp) (hs2:bO la) (hlay:bj sp la=true):af Tryz.prog 241 false [.val none (bt .imm sp),.val none (aW .imm la)] .one (aI .own (lT sp la)):=by
 have hl1:=hs1.1
 have hl2:=hs2.1
 have h0:=nM sp la hs1 hs2
 rw[hlay]at h0
 obtain⟨ho1,ho2,-⟩:=eR hlay
 refine nn (n:=56) (mo:=[(316,[1])]) (tb:=[]) Tryz.func241 (by kernel_rfl) rfl (by kernel_rfl) (by rfl) (.inr (bZ _)) ?_
 repeat'((conv=>whnf);first|with_reducible (first|refine Lm ?_|refine Wm (by omega) ?_|refine Bn ?_|refine Fm rfl ?_)|refine Bt ?_|refine Bu ?_|refine Cl.mk h0 ?_)
 (conv=>whnf)
 refine Lp.mk (ι:=Nat × List Int) (fun i=>[(1,.hold .one (aW .imm la)),(5,.hold .one (aI .own i.2)),(16,.hold .one (bt .imm sp)),(17,.hold .one [I (sp.length)]),(18,.hold .one [I ((i.1:Nat):Int)])]) (fun i=>i.1≤sp.length∧i.2=dX (sp.take i.1)∧i.2.length≤16*i.1) (fun i=>sp.length - i.1) ((0,[])) ?_ (⟨Nat.zero_le _,rfl,Nat.zero_le _⟩) fun i hi=>?_
 ·repeat'(first|exact trivial|rfl|refine And.intro ?_ ?_|(exact bQ (by first|omega|(simp only;omega)|(simp;omega))))
 obtain⟨i,S⟩:=i
 obtain⟨hi,hS,hb⟩:=hi
 simp only at hi hS hb ⊢
 by_cases li:i<sp.length
 ·have hx:=au li
  have hok:b8 (nth sp i)=true:=GM ho1 li
  have hsl:=oG (nth sp i).Class
  have hbt:=eU hok
  repeat'((conv=>whnf);first|with_reducible (first|refine Lm ?_|refine Wm (by omega) ?_|refine Ix.nat (aa hx) ?_|refine dT (by omega) (fun hq=>?_)|refine Bn ?_|refine Fm rfl ?_)|refine Bt ?_|refine Bu ?_)
  (conv=>whnf)
  refine Lp.mk (ι:=Nat × List Int) (fun k=>[(1,.hold .one (aW .imm la)),(5,.hold .one (aI .own k.2)),(7,.hold .box (am.enc .imm (nth sp i))),(8,.hold .one [I ((k.1:Nat):Int)]),(16,.hold .one (bt .imm sp)),(17,.hold .one [I (sp.length)]),(18,.hold .one [I ((i:Nat):Int)])]) (fun k=>k.1≤(slots (nth sp i).Class).toNat∧k.2=S++d7 (nth sp i) k.1) (fun k=>(slots (nth sp i).Class).toNat - k.1) ((0,S)) ?_ (⟨Nat.zero_le _,by simp[d7]⟩) fun k hk=>?_
  ·repeat'(first|exact trivial|rfl|refine And.intro ?_ ?_|(exact bQ (by first|omega|(simp only;omega)|(simp;omega))))
  obtain⟨k,S2⟩:=k
  obtain⟨hk,hS2⟩:=hk
  simp only at hk hS2 ⊢
  have hll:=po (nth sp i) k
  have hl2':S2.length=S.length+(d7 (nth sp i) k).length:=by rw[hS2,List.length_append]
  by_cases lk:k<(slots (nth sp i).Class).toNat
  ·have hh:=lM (nth sp i).Bits (k:Nat) hbt.2
   cases eh:cy (nth sp i).Bits (k:Nat)<;>rw[eh]at hh
   ·repeat'((conv=>whnf);first|with_reducible (first|refine Lm ?_|refine Wm (by omega) ?_|refine dT (by omega) (fun hq=>?_)|refine Bn ?_|refine Fm rfl ?_)|refine Bt ?_|refine Bu ?_|refine Cl.mk (gp _) ?_|refine Cl.mk hh ?_)
    ((conv=>whnf);refine Nx.mk (k+1,S2) ⟨(by simp only;omega),(by simp only;rw[ym eh];exact hS2)⟩ (by simp only;omega) ?_;(repeat'(first|exact trivial|rfl|refine And.intro ?_ ?_|(exact bQ (by first|omega|(simp only;omega)|(simp;omega))))))
   ·repeat'((conv=>whnf);first|with_reducible (first|refine Lm ?_|refine Wm (by omega) ?_|refine dT (by omega) (fun hq=>?_)|refine Bn ?_|refine Fm rfl ?_)|refine Bt ?_|refine Bu ?_|refine Cl.mk (gp _) ?_|refine Cl.mk hh ?_|refine Cl.mk (uj (nth sp i) k hok (by omega)) ?_|refine Ap.mk dl (fun r hr=>by rw[List.mem_singleton.1 hr];rfl) (by simp[aQ,dU]) (by simp;omega) (by show _*8≤_;simp;omega) rfl ?_)
    ((conv=>whnf)
     refine Nx.mk (k+1,S2++[j7 (nth sp i) k]) ⟨(by simp only;omega),(by simp only;rw[wb eh,hS2,List.append_assoc])⟩ (by simp only;omega) ?_
     (repeat'(first|exact trivial|rfl|exact And.intro rfl (And.intro (congrArg (C.s dy.own) (by simp[rI])) trivial)|refine And.intro ?_ ?_)))
  ·obtain rfl:k=(slots (nth sp i).Class).toNat:=by omega
   repeat'((conv=>whnf);first|with_reducible (first|refine Lm ?_|refine Wm (by omega) ?_|refine dF (by omega) (fun hq=>?_)|refine Bn ?_|refine Fm rfl ?_)|refine Bt ?_|refine Bu ?_|refine Cl.mk (gp _) ?_)
   ((conv=>whnf);refine Nx.mk (i+1,S2) ⟨(by simp only;omega),(by simp only;rw[tc hx,←hS,hS2]),(by simp only;omega)⟩ (by simp only;omega) ?_;(repeat'(first|exact trivial|rfl|refine And.intro ?_ ?_|(exact bQ (by first|omega|(simp only;omega)|(simp;omega))))))
 obtain rfl:i=sp.length:=by omega
 rw[List.take_length]at hS
 repeat'((conv=>whnf);first|with_reducible (first|refine Lm ?_|refine Wm (by omega) ?_|refine dF (by omega) (fun hq=>?_)|refine Bn ?_|refine Fm rfl ?_)|refine Bt ?_|refine Bu ?_)
 (conv=>whnf)
 refine Lp.mk (ι:=Nat × List Int) (fun i=>[(5,.hold .one (aI .own i.2)),(40,.hold .one (aW .imm la)),(41,.hold .one [I (la.length)]),(42,.hold .one [I ((i.1:Nat):Int)])]) (fun i=>i.1≤la.length∧i.2=S++(la.take i.1).map (fun l=>16*l.Page)) (fun i=>la.length - i.1) ((0,S)) ?_ (⟨Nat.zero_le _,by simp⟩) fun i hi=>?_
 ·repeat'(first|exact trivial|rfl|refine And.intro ?_ ?_|(exact bQ (by first|omega|(simp only;omega)|(simp;omega))))
 obtain⟨i,S2⟩:=i
 obtain⟨hi2,hS2⟩:=hi
 simp only at hi2 hS2 ⊢
 have hl2':S2.length=S.length+i:=by rw[hS2,List.length_append,List.length_map,List.length_take];omega
 by_cases li:i<la.length
 ·have hx:=au li
  have hpg:=pO hlay hx
  repeat'((conv=>whnf);first|with_reducible (first|refine Lm ?_|refine Wm (by omega) ?_|refine Ix.nat (aa hx) ?_|refine dT (by omega) (fun hq=>?_)|refine Bn ?_|refine Fm rfl ?_)|refine Bt ?_|refine Bu ?_|refine Ap.mk dl (fun r hr=>by rw[List.mem_singleton.1 hr];rfl) (by simp[aQ,dU]) (by simp;omega) (by show _*8≤_;simp;omega) rfl ?_)
  ((conv=>whnf)
   refine Nx.mk (i+1,S2++[16*(nth la i).Page]) ⟨(by simp only;omega),(by simp only;rw[hS2,List.take_add_one,hx];simp)⟩ (by simp only;omega) ?_
   (repeat'(first|exact trivial|rfl|exact And.intro rfl (And.intro (congrArg (C.s dy.own) (by simp[rI];omega)) trivial)|refine And.intro ?_ ?_)))
 obtain rfl:i=la.length:=by omega
 rw[List.take_length]at hS2
 repeat'((conv=>whnf);first|with_reducible (first|refine Lm ?_|refine Wm (by omega) ?_|refine dF (by omega) (fun hq=>?_)|refine Bn ?_|refine Fm rfl ?_)|refine Bt ?_|refine Bu ?_|refine dZ.mk (GI S2 (by omega)) (.inl rfl) ?_)
 show _=aI .own (sorted (dX sp++la.map fun l=>16*l.Page))
 rw[←hS,←hS2];rfl
def nG (es:List (Int × Value)) (L:List Int):Prop:=∀ a,mlook es a (.int .i64 0)=.int .i64 (L.count a:Nat)
theorem Ey (es:List (Int × Value)) (a b:Int) (v d:Value):mlook (mput es a v) b d=if a=b then v else mlook es b d:=by
 induction es with
 | nil=>simp only[mput,mlook]
 | cons p es ih=>
  simp only[mput]
  by_cases h:p.1=a
  ·rw[if_pos h]
   simp only[mlook]
   by_cases hb:a=b
   ·rw[if_pos hb,if_pos hb]
   ·rw[if_neg hb,if_neg hb,if_neg (by rw[h];exact hb)]
  ·rw[if_neg h]
   simp only[mlook]
   by_cases hb:p.1=b
   ·rw[if_pos hb,if_pos hb,if_neg (fun e=>h (hb.trans e.symm))]
   ·rw[if_neg hb,if_neg hb,ih]
def inc (es:List (Int × Value)) (L:List Int) (a:Int):List (Int × Value):=mput es a (.int .i64 ((L.count a:Nat)+1))
theorem DH:nG [] []:=fun _=>rfl
theorem mT {es:List (Int × Value)} {L:List Int} (h:nG es L) (a:Int):nG (inc es L a) (L++[a]):=fun b=>by
 unfold inc
 rw[Ey,List.count_append]
 by_cases hab:a=b
 ·subst hab;rw[if_pos rfl,List.count_singleton_self];simp
 ·rw[if_neg hab,h b,List.count_singleton,if_neg (by simpa using hab)];rfl
theorem xe (h:ac) (hs1:cf h.Spans) (hs2:bO h.Larges) (es:List (Int × Value)) (L:List Int) (a c:Int) (hes:nG es L) (hL:L.length≤1000000000) :
  bm Tryz.prog 239 false [.val none [I a],.val none [I c],.ptr [.m es],.ptr (ac.enc .imm h)] [.val none [I a],.val none [I c],.ptr [.m (inc es L a)],.ptr (ac.enc .imm h)] .one [B (cM h a c)]:=by
 have hd:=iR h.Spans h.Larges a hs1 hs2
 obtain⟨i1,-⟩:=kZ h.Spans h.Larges a
 have hcl:L.count a≤L.length:=List.count_le_length
 unfold cM
 generalize denotes h.Spans h.Larges a=w at hd i1 ⊢
 refine bL (n:=41) (mo:=[]) (tb:=[]) [(0,0),(0,0),(0,0),(0,0)] Tryz.func239 (by kernel_rfl) rfl (by kernel_rfl) (by rfl) (by rfl) (.inr ⟨trivial,trivial⟩) fun u q=>?_
 repeat'((conv=>whnf);first|with_reducible (first|refine Lm ?_|refine Wm (by omega) ?_|refine Bf.D (fun hq=>?_) (fun hq=>?_)|refine Bf.E (fun hq=>?_) (fun hq=>?_)|refine Bn ?_|refine Fm rfl ?_)|refine Bt ?_|refine Bu ?_|refine Ml.mk (hes a) ?_|refine Mu.mk (es':=inc es L a) rfl ?_|refine Cl.mk hd ?_|refine Ix.mk (i1 (by assumption)).1 (aa (au (i1 (by assumption)).2)) ?_)
 all_goals
  refine cY.mk rfl ?_ ?_
  ·exact congrArg (fun z=>[B z]) ((by grind))
  ·repeat'(first|exact trivial|rfl|refine And.intro ?_ ?_|(exact bQ (by first|omega|(simp only;omega)|(simp;omega))))
end Go.Proofs.YtogajjgmcnjkbaaGreat.Ab
namespace Go.Proofs.YtogajjgmcnjkbaaGreat.Ab
open Go.RowKit
set_option maxRecDepth 20000
set_option maxHeartbeats 8000000
def pd (h:ac) (x0:ax):Bool:=fC h x0&&decide (x0.Since≤h.Clock)
def kR (h:ac):List Int:=((eY h++h.Quar.Lst.map (·.Addr))++aX h.Mail)++h.Objs.map (·.Addr)
def gV (h:ac):Bool:=((h.Caches.all (dJ h)&&h.Quar.Lst.all (pd h))&&(aX h.Mail).all (iS h))&&(lT h.Spans h.Larges).all fun a=>decide ((kR h).count a=1)
theorem He {h:ac} (h1:h.Caches.all (dJ h)=false):gV h=false:=by unfold gV;rw[h1];rfl
theorem BU {h:ac} (h1:h.Quar.Lst.all (pd h)=false):gV h=false:=by unfold gV;rw[h1];simp
theorem GP {h:ac} (h1:(aX h.Mail).all (iS h)=false):gV h=false:=by unfold gV;rw[h1];simp
theorem GK {h:ac} (h1:((lT h.Spans h.Larges).all fun a=>decide ((kR h).count a=1))=false):gV h=false:=by unfold gV;rw[h1];simp
theorem DX {sp:List am} {la:List ah} (h1:sp.length≤1048576) (h2:la.length≤1048576):(lT sp la).length≤100000000:=by
 have h3:∀ (l:List am),(dX l).length≤16*l.length:=by
  intro l
  induction l with
  | nil=>exact Nat.zero_le _
  | cons s l ih=>
   have e:dX (s::l)=d7 s (slots s.Class).toNat++dX l:=by unfold dX;rw[List.flatMap_cons]
   have hb:=oG s.Class
   have hl:=po s (slots s.Class).toNat
   rw[e,List.length_append,List.length_cons];omega
 have h4:=h3 sp
 unfold lT live0
 rw[sD,List.length_append,List.length_map];omega
theorem su (h:ac) (hs:ac.sml h) (hlay:bj h.Spans h.Larges=true) (hmail:dC h.Mail=true) (hco:∀ c∈h.Caches,bw c=true):af Tryz.prog 127 false [.val (some 24) (ac.enc .imm h)] .one [B (gV h)]:=by
 obtain⟨-,-,hs1,hs2,hso,hsc,hsm,hsq,-⟩:=hs
 have hlo:h.Objs.length≤1048576:=hso.1
 have hlc:h.Caches.length≤1048576:=hsc.1
 have hlq:h.Quar.Lst.length≤1048576:=hsq.1
 have hfl:=pn hmail
 have hno:gV h=false→[B false]=[B (gV h)]:=fun e=>by rw[e]
 refine nn (n:=114) (mo:=[(239,[0,0,2,2])]) (tb:=[]) Tryz.func127 (by kernel_rfl) rfl (by kernel_rfl) (by rfl) (.inr ⟨trivial,trivial⟩) ?_
 repeat'((conv=>whnf);first|with_reducible (first|refine Lm ?_|refine Wm (by omega) ?_|refine Bn ?_|refine Fm rfl ?_)|refine Bt ?_|refine Bu ?_)
 (conv=>whnf)
 refine Lp.mk (ι:=Nat × List (Int × Value) × List Int) (fun i=>[(1,.hold .box (ac.enc .imm h)),(3,.hold .box [.m i.2.1]),(4,.fn 239 [3,1]),(22,.hold .one (cP .imm h.Caches)),(23,.hold .one [I (h.Caches.length)]),(24,.hold .one [I ((i.1:Nat):Int)])]) (fun i=>i.1≤h.Caches.length∧nG i.2.1 i.2.2∧i.2.2=((h.Caches.take i.1).flatMap fun c=>c.Lists.flatten)∧(h.Caches.take i.1).all (dJ h)=true∧i.2.2.length≤32*i.1) (fun i=>h.Caches.length - i.1) ((0,[],[])) ?_ (⟨Nat.zero_le _,DH,rfl,rfl,Nat.zero_le _⟩) fun i hi=>?_
 ·repeat'(first|exact trivial|rfl|refine And.intro ?_ ?_|(exact bQ (by first|omega|(simp only;omega)|(simp;omega))))
 obtain⟨i,es,L⟩:=i
 obtain⟨hi,hes,hL,ai,hb⟩:=hi
 simp only at hi hes hL ai hb ⊢
 by_cases li:i<h.Caches.length
 ·have hx:=au li
  obtain⟨h4,h8⟩:=qI (hco _ (ay li))
  repeat'((conv=>whnf);first|with_reducible (first|refine Lm ?_|refine Wm (by omega) ?_|refine Ix.nat (aa hx) ?_|refine dT (by omega) (fun hq=>?_)|refine Bn ?_|refine Fm rfl ?_)|refine Bt ?_|refine Bu ?_)
  (conv=>whnf)
  refine Lp.mk (ι:=Nat × List (Int × Value) × List Int) (fun k=>[(1,.hold .box (ac.enc .imm h)),(3,.hold .box [.m k.2.1]),(4,.fn 239 [3,1]),(22,.hold .one (cP .imm h.Caches)),(23,.hold .one [I (h.Caches.length)]),(24,.hold .one [I ((i:Nat):Int)]),(29,.hold .one (d5 .imm (nth h.Caches i).Lists)),(30,.hold .one [I ((nth h.Caches i).Lists.length)]),(31,.hold .one [I ((k.1:Nat):Int)])]) (fun k=>k.1≤(nth h.Caches i).Lists.length∧nG k.2.1 k.2.2∧k.2.2=L++((nth h.Caches i).Lists.take k.1).flatten∧cD k.1 (oH h (nth h.Caches i))=true∧k.2.2.length≤L.length+8*k.1) (fun k=>(nth h.Caches i).Lists.length - k.1) ((0,es,L)) ?_ (⟨Nat.zero_le _,hes,by simp,rfl,by simp⟩) fun k hk=>?_
  ·repeat'(first|exact trivial|rfl|refine And.intro ?_ ?_|(exact bQ (by first|omega|(simp only;omega)|(simp;omega))))
  obtain⟨k,es3,L3⟩:=k
  obtain⟨hk,hes3,hL3,ak,hb3⟩:=hk
  simp only at hk hes3 hL3 ak hb3 ⊢
  by_cases lk:k<(nth h.Caches i).Lists.length
  ·have hy:=au lk
   have hl8:=h8 _ (ay lk)
   repeat'((conv=>whnf);first|with_reducible (first|refine Lm ?_|refine Wm (by omega) ?_|refine Ix.nat (aa hx) ?_|refine Ix.nat (aa hy) ?_|refine dT (by omega) (fun hq=>?_)|refine Bn ?_|refine Fm rfl ?_)|refine Bt ?_|refine Bu ?_)
   (conv=>whnf)
   refine Lp.mk (ι:=Nat × List (Int × Value) × List Int) (fun j=>[(1,.hold .box (ac.enc .imm h)),(3,.hold .box [.m j.2.1]),(4,.fn 239 [3,1]),(7,.hold .one [I ((k:Nat):Int)]),(22,.hold .one (cP .imm h.Caches)),(23,.hold .one [I (h.Caches.length)]),(24,.hold .one [I ((i:Nat):Int)]),(29,.hold .one (d5 .imm (nth h.Caches i).Lists)),(30,.hold .one [I ((nth h.Caches i).Lists.length)]),(31,.hold .one [I ((k:Nat):Int)]),(36,.hold .one (aI .imm (nth (nth h.Caches i).Lists k))),(37,.hold .one [I ((nth (nth h.Caches i).Lists k).length)]),(38,.hold .one [I ((j.1:Nat):Int)])]) (fun j=>j.1≤(nth (nth h.Caches i).Lists k).length∧nG j.2.1 j.2.2∧j.2.2=L3++(nth (nth h.Caches i).Lists k).take j.1∧((nth (nth h.Caches i).Lists k).take j.1).all (fun a=>cM h a (k:Nat))=true) (fun j=>(nth (nth h.Caches i).Lists k).length - j.1) ((0,es3,L3)) ?_ (⟨Nat.zero_le _,hes3,by simp,rfl⟩) fun j hj=>?_
   ·repeat'(first|exact trivial|rfl|refine And.intro ?_ ?_|(exact bQ (by first|omega|(simp only;omega)|(simp;omega))))
   obtain⟨j,es4,L4⟩:=j
   obtain⟨hj,hes4,hL4,aj⟩:=hj
   simp only at hj hes4 hL4 aj ⊢
   have hl4:L4.length=L3.length+j:=by rw[hL4,List.length_append,List.length_take];omega
   by_cases lj:j<(nth (nth h.Caches i).Lists k).length
   ·have hz:=au lj
    have hcal:=xe h hs1 hs2 es4 L4 (nth (nth (nth h.Caches i).Lists k) j) (k:Nat) hes4 (by omega)
    cases eh:cM h (nth (nth (nth h.Caches i).Lists k) j) (k:Nat)<;>rw[eh]at hcal
    ·repeat'((conv=>whnf);first|with_reducible (first|refine Lm ?_|refine Wm (by omega) ?_|refine Ix.nat (aa hz) ?_|refine dT (by omega) (fun hq=>?_)|refine Bn ?_|refine Fm rfl ?_)|refine Bt ?_|refine Bu ?_|refine dZ.mk (hcal) (.inl rfl) ?_)
     exact hno (He (dI hx (by unfold dJ;exact bN lk (dI hz eh))))
    ·repeat'((conv=>whnf);first|with_reducible (first|refine Lm ?_|refine Wm (by omega) ?_|refine Ix.nat (aa hz) ?_|refine dT (by omega) (fun hq=>?_)|refine Bn ?_|refine Fm rfl ?_)|refine Bt ?_|refine Bu ?_|refine dZ.mk (hcal) (.inl rfl) ?_)
     ((conv=>whnf)
      refine Nx.mk (j+1,inc es4 L4 (nth (nth (nth h.Caches i).Lists k) j),L4++[nth (nth (nth h.Caches i).Lists k) j]) ⟨(by simp only;omega),mT hes4 _,(by simp only;rw[hL4,List.take_add_one,hz,List.append_assoc];rfl),ce hz aj eh⟩ (by simp only;omega) ?_
      (repeat'(first|exact trivial|rfl|refine And.intro ?_ ?_)))
   ·obtain rfl:j=(nth (nth h.Caches i).Lists k).length:=by omega
    rw[List.take_length]at hL4 aj
    repeat'((conv=>whnf);first|with_reducible (first|refine Lm ?_|refine Wm (by omega) ?_|refine dF (by omega) (fun hq=>?_)|refine Bn ?_|refine Fm rfl ?_)|refine Bt ?_|refine Bu ?_)
    ((conv=>whnf);refine Nx.mk (k+1,es4,L4) ⟨(by simp only;omega),hes4,(by simp only;rw[hL4,hL3,sK hy,List.append_assoc]),b6 ak aj,(by simp only;omega)⟩ (by simp only;omega) ?_;(repeat'(first|exact trivial|rfl|refine And.intro ?_ ?_|(exact bQ (by first|omega|(simp only;omega)|(simp;omega))))))
  ·obtain rfl:k=(nth h.Caches i).Lists.length:=by omega
   rw[List.take_length]at hL3
   repeat'((conv=>whnf);first|with_reducible (first|refine Lm ?_|refine Wm (by omega) ?_|refine dF (by omega) (fun hq=>?_)|refine Bn ?_|refine Fm rfl ?_)|refine Bt ?_|refine Bu ?_)
   ((conv=>whnf);refine Nx.mk (i+1,es3,L3) ⟨(by simp only;omega),hes3,(by simp only;rw[hL3,hL,qW hx]),ce hx ai ak,(by simp only;omega)⟩ (by simp only;omega) ?_;(repeat'(first|exact trivial|rfl|refine And.intro ?_ ?_|(exact bQ (by first|omega|(simp only;omega)|(simp;omega))))))
 obtain rfl:i=h.Caches.length:=by omega
 rw[List.take_length]at hL ai
 repeat'((conv=>whnf);first|with_reducible (first|refine Lm ?_|refine Wm (by omega) ?_|refine dF (by omega) (fun hq=>?_)|refine Bn ?_|refine Fm rfl ?_)|refine Bt ?_|refine Bu ?_)
 (conv=>whnf)
 refine Lp.mk (ι:=Nat × List (Int × Value) × List Int) (fun q=>[(1,.hold .box (ac.enc .imm h)),(3,.hold .box [.m q.2.1]),(4,.fn 239 [3,1]),(52,.hold .one (bh .imm h.Quar.Lst)),(53,.hold .one [I (h.Quar.Lst.length)]),(54,.hold .one [I ((q.1:Nat):Int)])]) (fun q=>q.1≤h.Quar.Lst.length∧nG q.2.1 q.2.2∧q.2.2=L++(h.Quar.Lst.take q.1).map (·.Addr)∧(h.Quar.Lst.take q.1).all (pd h)=true) (fun q=>h.Quar.Lst.length - q.1) ((0,es,L)) ?_ (⟨Nat.zero_le _,hes,by simp,rfl⟩) fun q hq=>?_
 ·repeat'(first|exact trivial|rfl|refine And.intro ?_ ?_|(exact bQ (by first|omega|(simp only;omega)|(simp;omega))))
 obtain⟨q,es5,L5⟩:=q
 obtain⟨hq1,hes5,hL5,aq⟩:=hq
 simp only at hq1 hes5 hL5 aq ⊢
 have hl5:L5.length=L.length+q:=by rw[hL5,List.length_append,List.length_map,List.length_take];omega
 by_cases lq:q<h.Quar.Lst.length
 ·have hz:=au lq
  have hcal:=xe h hs1 hs2 es5 L5 (nth h.Quar.Lst q).Addr (nth h.Quar.Lst q).Class hes5 (by omega)
  cases eh:cM h (nth h.Quar.Lst q).Addr (nth h.Quar.Lst q).Class<;>rw[eh]at hcal
  ·repeat'((conv=>whnf);first|with_reducible (first|refine Lm ?_|refine Wm (by omega) ?_|refine Ix.nat (aa hz) ?_|refine dT (by omega) (fun hq=>?_)|refine Bf.D (fun hq=>?_) (fun hq=>?_)|refine Bn ?_|refine Fm rfl ?_)|refine Bt ?_|refine Bu ?_|refine dZ.mk (hcal) (.inl rfl) ?_)
   all_goals exact hno (BU (dI hz (by unfold pd fC;rw[eh];rfl)))
  ·repeat'((conv=>whnf);first|with_reducible (first|refine Lm ?_|refine Wm (by omega) ?_|refine Ix.nat (aa hz) ?_|refine dT (by omega) (fun hq=>?_)|refine Bf.D (fun hq=>?_) (fun hq=>?_)|refine Bn ?_|refine Fm rfl ?_)|refine Bt ?_|refine Bu ?_|refine dZ.mk (hcal) (.inl rfl) ?_)
   all_goals first
    |exact hno (BU (dI hz (by unfold pd fC;rw[eh,decide_eq_false (by omega)];rfl)))
    | ((conv=>whnf)
       refine Nx.mk (q+1,inc es5 L5 (nth h.Quar.Lst q).Addr,L5++[(nth h.Quar.Lst q).Addr]) ⟨(by simp only;omega),mT hes5 _,(by simp only;rw[hL5,List.take_add_one,hz,List.map_append,List.append_assoc];rfl),ce hz aq (by unfold pd fC;rw[eh,decide_eq_true (by omega)];rfl)⟩ (by simp only;omega) ?_
       (repeat'(first|exact trivial|rfl|refine And.intro ?_ ?_)))
 obtain rfl:q=h.Quar.Lst.length:=by omega
 rw[List.take_length]at hL5 aq
 repeat'((conv=>whnf);first|with_reducible (first|refine Lm ?_|refine Wm (by omega) ?_|refine dF (by omega) (fun hq=>?_)|refine Bn ?_|refine Fm rfl ?_)|refine Bt ?_|refine Bu ?_|refine Cl.mk (uO h.Mail hsm) ?_)
 (conv=>whnf)
 refine Lp.mk (ι:=Nat × List (Int × Value) × List Int) (fun q=>[(1,.hold .box (ac.enc .imm h)),(3,.hold .box [.m q.2.1]),(4,.fn 239 [3,1]),(75,.hold .one (aI .own (aX h.Mail))),(76,.hold .one [I ((aX h.Mail).length)]),(77,.hold .one [I ((q.1:Nat):Int)])]) (fun q=>q.1≤(aX h.Mail).length∧nG q.2.1 q.2.2∧q.2.2=L5++(aX h.Mail).take q.1∧((aX h.Mail).take q.1).all (iS h)=true) (fun q=>(aX h.Mail).length - q.1) ((0,es5,L5)) ?_ (⟨Nat.zero_le _,hes5,by simp,rfl⟩) fun q hq=>?_
 ·repeat'(first|exact trivial|rfl|refine And.intro ?_ ?_|(exact bQ (by first|omega|(simp only;omega)|(simp;omega))))
 obtain⟨q,es6,L6⟩:=q
 obtain⟨hq1,hes6,hL6,aq6⟩:=hq
 simp only at hq1 hes6 hL6 aq6 ⊢
 have hl6:L6.length=L5.length+q:=by rw[hL6,List.length_append,List.length_take];omega
 by_cases lq:q<(aX h.Mail).length
 ·have hz:=au lq
  have hcal:=xe h hs1 hs2 es6 L6 (nth (aX h.Mail) q) (-1) hes6 (by omega)
  cases eh:cM h (nth (aX h.Mail) q) (-1)<;>rw[eh]at hcal
  ·repeat'((conv=>whnf);first|with_reducible (first|refine Lm ?_|refine Wm (by omega) ?_|refine Ix.nat (aa hz) ?_|refine dT (by omega) (fun hq=>?_)|refine Bn ?_|refine Fm rfl ?_)|refine Bt ?_|refine Bu ?_|refine Rw.one rfl (aa hz) rfl ?_|refine dZ.mk (hcal) (.inl rfl) ?_)
   exact hno (GP (dI hz eh))
  ·repeat'((conv=>whnf);first|with_reducible (first|refine Lm ?_|refine Wm (by omega) ?_|refine Ix.nat (aa hz) ?_|refine dT (by omega) (fun hq=>?_)|refine Bn ?_|refine Fm rfl ?_)|refine Bt ?_|refine Bu ?_|refine Rw.one rfl (aa hz) rfl ?_|refine dZ.mk (hcal) (.inl rfl) ?_)
   ((conv=>whnf)
    refine Nx.mk (q+1,inc es6 L6 (nth (aX h.Mail) q),L6++[nth (aX h.Mail) q]) ⟨(by simp only;omega),mT hes6 _,(by simp only;rw[hL6,List.take_add_one,hz,List.append_assoc];rfl),ce hz aq6 eh⟩ (by simp only;omega) ?_
    (repeat'(first|exact trivial|rfl|refine And.intro ?_ ?_)))
 obtain rfl:q=(aX h.Mail).length:=by omega
 rw[List.take_length]at hL6 aq6
 repeat'((conv=>whnf);first|with_reducible (first|refine Lm ?_|refine Wm (by omega) ?_|refine dF (by omega) (fun hq=>?_)|refine Bn ?_|refine Fm rfl ?_)|refine Bt ?_|refine Bu ?_)
 (conv=>whnf)
 refine Lp.mk (ι:=Nat × List (Int × Value) × List Int) (fun q=>[(1,.hold .box (ac.enc .imm h)),(3,.hold .box [.m q.2.1]),(87,.hold .one (dA .imm h.Objs)),(88,.hold .one [I (h.Objs.length)]),(89,.hold .one [I ((q.1:Nat):Int)])]) (fun q=>q.1≤h.Objs.length∧nG q.2.1 q.2.2∧q.2.2=L6++(h.Objs.take q.1).map (·.Addr)) (fun q=>h.Objs.length - q.1) ((0,es6,L6)) ?_ (⟨Nat.zero_le _,hes6,by simp⟩) fun q hq=>?_
 ·repeat'(first|exact trivial|rfl|refine And.intro ?_ ?_|(exact bQ (by first|omega|(simp only;omega)|(simp;omega))))
 obtain⟨q,es7,L7⟩:=q
 obtain⟨hq1,hes7,hL7⟩:=hq
 simp only at hq1 hes7 hL7 ⊢
 have hl7:L7.length=L6.length+q:=by rw[hL7,List.length_append,List.length_map,List.length_take];omega
 by_cases lq:q<h.Objs.length
 ·have hz:=au lq
  have hcl:L7.count (nth h.Objs q).Addr≤L7.length:=List.count_le_length
  repeat'((conv=>whnf);first|with_reducible (first|refine Lm ?_|refine Wm (by omega) ?_|refine Ix.nat (aa hz) ?_|refine dT (by omega) (fun hq=>?_)|refine Bn ?_|refine Fm rfl ?_)|refine Bt ?_|refine Bu ?_|refine Ml.mk (hes7 _) ?_|refine Mu.mk (es':=inc es7 L7 (nth h.Objs q).Addr) rfl ?_)
  ((conv=>whnf)
   refine Nx.mk (q+1,inc es7 L7 (nth h.Objs q).Addr,L7++[(nth h.Objs q).Addr]) ⟨(by simp only;omega),mT hes7 _,(by simp only;rw[hL7,List.take_add_one,hz,List.map_append,List.append_assoc];rfl)⟩ (by simp only;omega) ?_
   (repeat'(first|exact trivial|rfl|refine And.intro ?_ ?_)))
 obtain rfl:q=h.Objs.length:=by omega
 rw[List.take_length]at hL7
 have hall:L7=kR h:=by rw[hL7,hL6,hL5,hL];rfl
 have hlv:=DX hs1.1 hs2.1
 repeat'((conv=>whnf);first|with_reducible (first|refine Lm ?_|refine Wm (by omega) ?_|refine dF (by omega) (fun hq=>?_)|refine Bn ?_|refine Fm rfl ?_)|refine Bt ?_|refine Bu ?_|refine Cl.mk (tw h.Spans h.Larges hs1 hs2 hlay) ?_)
 (conv=>whnf)
 refine Lp.mk (ι:=Nat) (fun n=>[(3,.hold .box [.m es7]),(103,.hold .one (aI .own (lT h.Spans h.Larges))),(104,.hold .one [I ((lT h.Spans h.Larges).length)]),(105,.hold .one [I ((n:Nat):Int)])]) (fun n=>n≤(lT h.Spans h.Larges).length∧((lT h.Spans h.Larges).take n).all (fun a=>decide ((kR h).count a=1))=true) (fun n=>(lT h.Spans h.Larges).length - n) (0) ?_ (⟨Nat.zero_le _,rfl⟩) fun n hn=>?_
 ·repeat'(first|exact trivial|rfl|refine And.intro ?_ ?_|(exact bQ (by first|omega|(simp only;omega)|(simp;omega))))
 obtain⟨hn,an⟩:=hn
 by_cases ln:n<(lT h.Spans h.Larges).length
 ·have hz:=au ln
  rw[hall]at hes7
  repeat'((conv=>whnf);first|with_reducible (first|refine Lm ?_|refine Wm (by omega) ?_|refine Ix.nat (aa hz) ?_|refine dT (by omega) (fun hq=>?_)|refine Bf.N (fun hq=>?_) (fun hq=>?_)|refine Bn ?_|refine Fm rfl ?_)|refine Bt ?_|refine Bu ?_|refine Rw.one rfl (aa hz) rfl ?_|refine Ml.mk (hes7 _) ?_)
  all_goals first
   |exact hno (GK (dI hz (decide_eq_false (by omega))))
   | ((conv=>whnf);refine Nx.mk (n+1) ⟨by omega,ce hz an (decide_eq_true (by omega))⟩ (by omega) ?_;(repeat'(first|exact trivial|rfl|refine And.intro ?_ ?_|(exact bQ (by first|omega|(simp only;omega)|(simp;omega))))))
 ·repeat'((conv=>whnf);first|with_reducible (first|refine Lm ?_|refine Wm (by omega) ?_|refine dF (by omega) (fun hq=>?_)|refine Bn ?_|refine Fm rfl ?_)|refine Bt ?_|refine Bu ?_)
  exact congrArg (fun z=>[B z]) ((by unfold gV;rw[ai,aq,aq6,fk (by omega) an];rfl))
end Go.Proofs.YtogajjgmcnjkbaaGreat.Ab
namespace Go.Proofs.YtogajjgmcnjkbaaGreat.Ab
open Go.RowKit
set_option maxRecDepth 20000
set_option maxHeartbeats 8000000
def iH (h:ac):Bool:=(((((((bf h.Kernel&&b7 (eP h) h.Free)&&bj h.Spans h.Larges)&&(pages0 h&&lU h))&&cI h)&&h.Caches.all bw)&&(eg h&&gV h))&&eV h)&&n5 h
theorem mt (h:ac) (hs:ac.sml h):af Tryz.prog 42 false [.val (some 24) (ac.enc .imm h)] .one [B (iH h)]:=by
 have hsA:=hs
 obtain⟨hsk,hsf,hs1,hs2,hso,hsc,hsm,hsq,hsj⟩:=hs
 have hst:A7 h:=hsk.1.2
 have hpn:eP h≤1048576:=hst.1
 have hlo:h.Objs.length≤1048576:=hso.1
 have hlc:h.Caches.length≤1048576:=hsc.1
 have hlb:h.Mail.Buffers.length≤1048576:=hsm.1.1
 have hlp:h.Job.Plan.Cells.length≤1048576:=hsj
 have c1:=nI h.Kernel hsk
 have c2:=n8 (eP h) h.Free ⟨by omega,by omega⟩ hsf
 have c3:=nM h.Spans h.Larges hs1 hs2
 have c6:=qF h.Mail hsm
 have c7:=q7 h.Quar hsq
 cases e1:bf h.Kernel<;>rw[e1]at c1
 ·refine fO (n:=154) [] Tryz.func42 (by kernel_rfl) rfl (by kernel_rfl) (by rfl) (.inr ⟨trivial,trivial⟩) ?_
  repeat'((conv=>whnf);first|with_reducible (first|refine Lm ?_|refine Wm (by omega) ?_|refine Bf.N (fun hq=>?_) (fun hq=>?_)|refine Bn ?_|refine Fm rfl ?_)|refine Bt ?_|refine Bu ?_|refine Cl.mk c1 ?_)
  all_goals first
   | exact congrArg (fun z=>[B z]) ((by unfold iH ;rw[e1];simp))
   |(exfalso;omega)
 cases e2:b7 (eP h) h.Free<;>rw[e2]at c2
 ·refine fO (n:=154) [] Tryz.func42 (by kernel_rfl) rfl (by kernel_rfl) (by rfl) (.inr ⟨trivial,trivial⟩) ?_
  repeat'((conv=>whnf);first|with_reducible (first|refine Lm ?_|refine Wm (by omega) ?_|refine Bf.N (fun hq=>?_) (fun hq=>?_)|refine Bn ?_|refine Fm rfl ?_)|refine Bt ?_|refine Bu ?_|refine Cl.mk c1 ?_|refine Cl.mk c2 ?_)
  all_goals first
   | exact congrArg (fun z=>[B z]) ((by unfold iH ;rw[e2];simp))
   |(exfalso;omega)
 cases e3:bj h.Spans h.Larges<;>rw[e3]at c3
 ·refine fO (n:=154) [] Tryz.func42 (by kernel_rfl) rfl (by kernel_rfl) (by rfl) (.inr ⟨trivial,trivial⟩) ?_
  repeat'((conv=>whnf);first|with_reducible (first|refine Lm ?_|refine Wm (by omega) ?_|refine Bf.N (fun hq=>?_) (fun hq=>?_)|refine Bn ?_|refine Fm rfl ?_)|refine Bt ?_|refine Bu ?_|refine Cl.mk c1 ?_|refine Cl.mk c2 ?_|refine Cl.mk c3 ?_)
  all_goals first
   | exact congrArg (fun z=>[B z]) ((by unfold iH ;rw[e3];simp))
   |(exfalso;omega)
 have c4:=wt h hs1 hs2 hst hsf e3
 cases e4:(pages0 h&&lU h)<;>rw[e4]at c4
 ·refine fO (n:=154) [] Tryz.func42 (by kernel_rfl) rfl (by kernel_rfl) (by rfl) (.inr ⟨trivial,trivial⟩) ?_
  repeat'((conv=>whnf);first|with_reducible (first|refine Lm ?_|refine Wm (by omega) ?_|refine Bf.N (fun hq=>?_) (fun hq=>?_)|refine Bn ?_|refine Fm rfl ?_)|refine Bt ?_|refine Bu ?_|refine Cl.mk c1 ?_|refine Cl.mk c2 ?_|refine Cl.mk c3 ?_|refine Cl.mk c4 ?_)
  all_goals first
   | exact congrArg (fun z=>[B z]) ((by unfold iH ;rw[e4];simp))
   |(exfalso;omega)
 cases e6:dC h.Mail<;>rw[e6]at c6
 ·refine fO (n:=154) [] Tryz.func42 (by kernel_rfl) rfl (by kernel_rfl) (by rfl) (.inr ⟨trivial,trivial⟩) ?_
  repeat'((conv=>whnf);first|with_reducible (first|refine Lm ?_|refine Wm (by omega) ?_|refine Bf.N (fun hq=>?_) (fun hq=>?_)|refine Bn ?_|refine Fm rfl ?_)|refine Bt ?_|refine Bu ?_|refine Cl.mk c1 ?_|refine Cl.mk c2 ?_|refine Cl.mk c3 ?_|refine Cl.mk c4 ?_|refine Cl.mk c6 ?_)
  all_goals first
   | exact congrArg (fun z=>[B z]) ((by unfold iH cI;rw[e6];simp))
   |(exfalso;omega)
 by_cases hcl:h.Caches.length=h.Mail.Buffers.length
 rotate_left
 ·refine fO (n:=154) [] Tryz.func42 (by kernel_rfl) rfl (by kernel_rfl) (by rfl) (.inr ⟨trivial,trivial⟩) ?_
  repeat'((conv=>whnf);first|with_reducible (first|refine Lm ?_|refine Wm (by omega) ?_|refine Bf.N (fun hq=>?_) (fun hq=>?_)|refine Bn ?_|refine Fm rfl ?_)|refine Bt ?_|refine Bu ?_|refine Cl.mk c1 ?_|refine Cl.mk c2 ?_|refine Cl.mk c3 ?_|refine Cl.mk c4 ?_|refine Cl.mk c6 ?_)
  all_goals first
   | exact congrArg (fun z=>[B z]) ((by unfold iH cI;rw[decide_eq_false hcl];simp))
   |(exfalso;omega)
 cases e7:eZ h.Quar<;>rw[e7]at c7
 ·refine fO (n:=154) [] Tryz.func42 (by kernel_rfl) rfl (by kernel_rfl) (by rfl) (.inr ⟨trivial,trivial⟩) ?_
  repeat'((conv=>whnf);first|with_reducible (first|refine Lm ?_|refine Wm (by omega) ?_|refine Bf.N (fun hq=>?_) (fun hq=>?_)|refine Bn ?_|refine Fm rfl ?_)|refine Bt ?_|refine Bu ?_|refine Cl.mk c1 ?_|refine Cl.mk c2 ?_|refine Cl.mk c3 ?_|refine Cl.mk c4 ?_|refine Cl.mk c6 ?_|refine Cl.mk c7 ?_)
  all_goals first
   | exact congrArg (fun z=>[B z]) ((by unfold iH cI;rw[e7];simp))
   |(exfalso;omega)
 have hmc:cI h=true:=by unfold cI;rw[e6,decide_eq_true hcl,e7];rfl
 refine fO (n:=154) [] Tryz.func42 (by kernel_rfl) rfl (by kernel_rfl) (by rfl) (.inr ⟨trivial,trivial⟩) ?_
 repeat'((conv=>whnf);first|with_reducible (first|refine Lm ?_|refine Wm (by omega) ?_|refine dF (by omega) (fun hq=>?_)|refine nT (by omega) (fun hq=>?_)|refine nF (by omega) (fun hq=>?_)|refine Bf.N (fun hq=>?_) (fun hq=>?_)|refine Bn ?_|refine Fm rfl ?_)|refine Bt ?_|refine Bu ?_|refine Cl.mk c1 ?_|refine Cl.mk c2 ?_|refine Cl.mk c3 ?_|refine Cl.mk c4 ?_|refine Cl.mk c6 ?_|refine Cl.mk c7 ?_)
 all_goals try(exfalso;omega)
 (conv=>whnf)
 refine Lp.mk (ι:=Nat) (fun k=>[(1,.hold .box (ac.enc .imm h)),(57,.hold .one (cP .imm h.Caches)),(58,.hold .one [I (h.Caches.length)]),(59,.hold .one [I ((k:Nat):Int)])]) (fun k=>k≤h.Caches.length∧(h.Caches.take k).all bw=true) (fun k=>h.Caches.length - k) (0) ?_ (⟨Nat.zero_le _,rfl⟩) fun k hk=>?_
 ·repeat'(first|exact trivial|rfl|refine And.intro ?_ ?_|(exact bQ (by first|omega|(simp only;omega)|(simp;omega))))
 obtain⟨hk,ak⟩:=hk
 by_cases lk:k<h.Caches.length
 ·have hx:=au lk
  have c8:=kU (nth h.Caches k) (hsc.2 _ (ay lk))
  cases e8:bw (nth h.Caches k)<;>rw[e8]at c8
  ·repeat'((conv=>whnf);first|with_reducible (first|refine Lm ?_|refine Wm (by omega) ?_|refine Ix.nat (aa hx) ?_|refine dT (by omega) (fun hq=>?_)|refine Bn ?_|refine Fm rfl ?_)|refine Bt ?_|refine Bu ?_|refine Cl.mk c8 ?_)
   exact congrArg (fun z=>[B z]) ((by unfold iH;rw[dI hx e8];simp))
  ·repeat'((conv=>whnf);first|with_reducible (first|refine Lm ?_|refine Wm (by omega) ?_|refine Ix.nat (aa hx) ?_|refine dT (by omega) (fun hq=>?_)|refine Bn ?_|refine Fm rfl ?_)|refine Bt ?_|refine Bu ?_|refine Cl.mk c8 ?_)
   ((conv=>whnf);refine Nx.mk (k+1) ⟨by omega,ce hx ak e8⟩ (by omega) ?_;(repeat'(first|exact trivial|rfl|refine And.intro ?_ ?_|(exact bQ (by first|omega|(simp only;omega)|(simp;omega))))))
 have hca:h.Caches.all bw=true:=fk (by omega) ak
 have c9:=zR h hs1 hs2 hlo hlc
 have c10:=su h hsA e3 e6 (List.all_eq_true.1 hca)
 have c12:=A6 h.Job hsj
 have c13:=qQ h h.Job.Plan.Keep hs1.1
 have c14:=qQ h h.Job.Plan.Move hs1.1
 cases e9:eg h<;>rw[e9]at c9
 ·repeat'((conv=>whnf);first|with_reducible (first|refine Lm ?_|refine Wm (by omega) ?_|refine dF (by omega) (fun hq=>?_)|refine Bn ?_|refine Fm rfl ?_)|refine Bt ?_|refine Bu ?_|refine Cl.mk c9 ?_)
  all_goals first
   | exact congrArg (fun z=>[B z]) ((by unfold iH;rw[e9];simp))
   |(exfalso;omega)
 cases e10:gV h<;>rw[e10]at c10
 ·repeat'((conv=>whnf);first|with_reducible (first|refine Lm ?_|refine Wm (by omega) ?_|refine dF (by omega) (fun hq=>?_)|refine Bn ?_|refine Fm rfl ?_)|refine Bt ?_|refine Bu ?_|refine Cl.mk c9 ?_|refine Cl.mk c10 ?_)
  all_goals first
   | exact congrArg (fun z=>[B z]) ((by unfold iH;rw[e10];simp))
   |(exfalso;omega)
 by_cases hn:eV h=true
 rotate_left
 ·have hn2:eV h=false:=by simpa using hn
  have hn':=hn2
  unfold eV at hn'
  rw[decide_eq_false_iff_not]at hn'
  repeat'((conv=>whnf);first|with_reducible (first|refine Lm ?_|refine Wm (by omega) ?_|refine dF (by omega) (fun hq=>?_)|refine Bf.D (fun hq=>?_) (fun hq=>?_)|refine Bn ?_|refine Fm rfl ?_)|refine Bt ?_|refine Bu ?_|refine Cl.mk (aH _ _ _) ?_|refine Cl.mk (mr _) ?_|refine Cl.mk c9 ?_|refine Cl.mk c10 ?_)
  all_goals first
   | exact congrArg (fun z=>[B z]) ((by unfold iH;rw[hn2];simp))
   |(exfalso;omega)
 have hn':=hn
 unfold eV at hn'
 rw[decide_eq_true_eq]at hn'
 have hfin:iH h=n5 h:=by unfold iH;rw[e1,e2,e3,e4,hmc,hca,hn,e9,e10];rfl
 rw[hfin]
 unfold n5
 cases em:h.Meshing
 ·repeat'((conv=>whnf);first|with_reducible (first|refine Lm ?_|refine Wm (by omega) ?_|refine dF (by omega) (fun hq=>?_)|refine dT (by omega) (fun hq=>?_)|refine dF (by omega) (fun hq=>?_)|refine Bf.D (fun hq=>?_) (fun hq=>?_)|refine Bf.E (fun hq=>?_) (fun hq=>?_)|refine Bn ?_|refine Fm rfl ?_)|refine Bt ?_|refine Bu ?_|refine Cl.mk (aH _ _ _) ?_|refine Cl.mk (mr _) ?_|refine Cl.mk c9 ?_|refine Cl.mk c10 ?_|refine Bf.f em ?_)
  all_goals first
   | exact congrArg (fun z=>[B z]) ((by unfold yu;simp only[Bool.false_eq_true,if_false];first|(symm;exact decide_eq_false (by omega))|(rw[Bool.eq_iff_iff,beq_iff_eq,decide_eq_true_eq];omega)))
   |(exfalso;omega)
 ·cases e12:qL h.Job<;>rw[e12]at c12
  all_goals
   repeat'((conv=>whnf);first|with_reducible (first|refine Lm ?_|refine Wm (by omega) ?_|refine dF (by omega) (fun hq=>?_)|refine dT (by omega) (fun hq=>?_)|refine dF (by omega) (fun hq=>?_)|refine Bf.D (fun hq=>?_) (fun hq=>?_)|refine Bf.D (fun hq=>?_) (fun hq=>?_)|refine Bn ?_|refine Fm rfl ?_)|refine Bt ?_|refine Bu ?_|refine Cl.mk (aH _ _ _) ?_|refine Cl.mk (mr _) ?_|refine Cl.mk c9 ?_|refine Cl.mk c10 ?_|refine Cl.mk c12 ?_|refine Cl.mk c13 ?_|refine Cl.mk c14 ?_|refine Bf.t em ?_)
   all_goals first
    | exact congrArg (fun z=>[B z]) ((by grind))
    |(exfalso;omega)
end Go.Proofs.YtogajjgmcnjkbaaGreat.Ab
