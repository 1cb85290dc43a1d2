/- The pages of a heap: the contracts of l27Pages, l27Meshed (the reference's) and pagesOk (the program's). No condition. -/
import Derived.Test.YtogajjgmcnjkbaaGreatMg
import Derived.Test.YtogajjgmcnjkbaaGreatMe
namespace Go.Proofs.YtogajjgmcnjkbaaGreat.Ab
open Go.RowKit
set_option maxRecDepth 20000
set_option maxHeartbeats 8000000
theorem eR {sp:List am} {la:List ah} (h:bj sp la=true):sp.all b8=true∧la.all cS=true∧(pgs sp la).Nodup:=by
 unfold bj at h;simp only[Bool.and_eq_true,decide_eq_true_eq]at h;exact⟨h.1.1,h.1.2,h.2⟩
theorem GM {α:Type} [Inhabited α] {xs:List α} {p:α→Bool} {i:Nat} (h:xs.all p=true) (hi:i<xs.length):p (nth xs i)=true:=List.all_eq_true.1 h _ (ay hi)
theorem yi {h:ac} (h1:cD h.Spans.length (ta h.Spans)=false):pages0 h=false:=by unfold pages0;rw[h1];rfl
theorem p7 {h:ac} (h1:cD h.Larges.length (oX h)=false):pages0 h=false:=by unfold pages0;rw[h1];simp
theorem zZ {h:ac} {p:Int} (h1:p∈pgs h.Spans h.Larges) (h2:¬p<eP h):pages0 h=false:=by
 have:((pgs h.Spans h.Larges).all fun p=>decide (p<eP h))=false:=List.all_eq_false.2 ⟨p,h1,by simpa using h2⟩
 unfold pages0;rw[this];simp
theorem Ad {h:ac} (h1:cD (eP h) (rg h)=false):pages0 h=false:=by unfold pages0;rw[h1];simp
theorem sG {h:ac} (h1:cD h.Spans.length (ta h.Spans)=true) (h2:cD h.Larges.length (oX h)=true) (h3:∀ p∈pgs h.Spans h.Larges,p<eP h) (h4:cD (eP h) (rg h)=true):pages0 h=true:=by
 have:((pgs h.Spans h.Larges).all fun p=>decide (p<eP h))=true:=List.all_eq_true.2 fun p hp=>decide_eq_true (h3 p hp)
 unfold pages0;rw[h1,h2,h4,this];rfl
theorem Gc {h:ac} {i:Nat} (h1:tN h.Larges i=false):oX h i=false:=by unfold oX;rw[h1];rfl
theorem FG {h:ac} {i k:Nat} (hk:k<(nth h.Larges i).Pages.toNat) (h1:sg h (nth h.Larges i) k=false):oX h i=false:=by unfold oX;rw[bN hk h1];simp
theorem yn {h:ac} {i:Nat} (h1:tN h.Larges i=true) (h2:cD (nth h.Larges i).Pages.toNat (sg h (nth h.Larges i))=true):oX h i=true:=by unfold oX;rw[h1,h2];rfl
theorem ko (h:ac) (p:Int):(bc h p).length≤eP h:=by
 unfold bc;split
 ·simp
 ·exact od ..
theorem pO {sp:List am} {la:List ah} (h:bj sp la=true) {i:Nat} {l:ah} (hx:la[i]? = some l):1≤l.Pages∧l.Pages≤63∧0≤l.Page∧l.Page≤31:=
 bn (List.all_eq_true.1 (eR h).2.1 l (List.mem_of_getElem? hx))
theorem zy (h:ac) (hs1:cf h.Spans) (hs2:bO h.Larges) (hst:A7 h) (hsf:dr h.Free) (hlay:bj h.Spans h.Larges=true):af Tryz.prog 92 false [.val (some 24) (ac.enc .imm h)] .one [B (pages0 h)]:=by
 have hl1:=hs1.1
 have hl2:=hs2.1
 have hl3:eP h≤1048576:=hst.1
 have hl4:=hsf.1
 refine fO (n:=144) [(7,18,[28,29,30,31,32,33,34,35,36,37,38,39,40,41,42,43,44,45]),(13,18,[62,63,64,65,66,67,68,69,70,71,72,73,74,75,76,77,78,79])] Tryz.func92 (by kernel_rfl) rfl (by kernel_rfl) (by rfl) (.inr ⟨trivial,trivial⟩) ?_
 repeat'((conv=>whnf);first|with_reducible (first|refine Lm ?_|refine Wm (by omega) ?_|refine Bn ?_|refine Fm rfl ?_)|refine Bt ?_|refine Bu ?_)
 (conv=>whnf)
 refine Lp.mk (ι:=Nat × List Int) (fun i=>[(1,.hold .box (ac.enc .imm h)),(3,.hold .box (aB.enc .imm (tbl h))),(4,.hold .one [I (eP h)]),(5,.hold .one (aI .own i.2)),(6,.hold .one [I ((i.1:Nat):Int)])]) (fun i=>i.1≤h.Spans.length∧i.2=(h.Spans.take i.1).map (·.Page)∧cD i.1 (ta h.Spans)=true) (fun i=>h.Spans.length - i.1) ((0,[])) ?_ (⟨Nat.zero_le _,rfl,rfl⟩) fun i hi=>?_
 ·repeat'(first|exact trivial|rfl|refine And.intro ?_ ?_)
 obtain⟨i,S⟩:=i
 obtain⟨hi,hS,ai⟩:=hi
 simp only at hi hS ai ⊢
 have hSl:S.length=i:=by rw[hS,List.length_map,List.length_take];omega
 by_cases li:i<h.Spans.length
 ·have hx:=au li
  repeat'((conv=>whnf);first|with_reducible (first|refine Lm ?_|refine Wm (by omega) ?_|refine Ix.nat (aa hx) ?_|refine dT (by omega) (fun hq=>?_)|refine Bf.D (fun hq=>?_) (fun hq=>?_)|refine Bn ?_|refine Fm rfl ?_)|refine Bt ?_|refine Bu ?_|refine Ix.mk (by omega) (aa (eL (by omega) li)) ?_|refine Ap.mk dl (fun r hr=>by rw[List.mem_singleton.1 hr];rfl) (by simp[aQ,dU]) (by simp;omega) (by simp only[List.length_map];exact tO (by simp;omega) (by decide)) rfl ?_)
  all_goals first
   | exact congrArg (fun z=>[B z]) ((yi (bN li (decide_eq_false (by omega)))).symm)
   | ((conv=>whnf)
      refine Nx.mk (i+1,S++[(nth h.Spans i).Page]) ⟨(by simp only;omega),(by simp only;rw[hS,List.take_add_one,hx];simp),b6 ai (decide_eq_true (by omega))⟩ (by simp only;omega) ?_
      (repeat'(first|exact trivial|rfl|exact And.intro rfl (And.intro (congrArg (C.s dy.own) (by simp[rI])) trivial)|refine And.intro ?_ ?_)))
 ·obtain rfl:i=h.Spans.length:=by omega
  rw[List.take_length]at hS
  repeat'((conv=>whnf);first|with_reducible (first|refine Lm ?_|refine Wm (by omega) ?_|refine dF (by omega) (fun hq=>?_)|refine Bn ?_|refine Fm rfl ?_)|refine Bt ?_|refine Bu ?_)
  (conv=>whnf)
  refine Lp.mk (ι:=Nat × List Int) (fun k=>[(1,.hold .box (ac.enc .imm h)),(3,.hold .box (aB.enc .imm (tbl h))),(4,.hold .one [I (eP h)]),(5,.hold .one (aI .own k.2)),(7,.hold .one [I ((k.1:Nat):Int)])]) (fun k=>k.1≤h.Larges.length∧k.2=pgs h.Spans (h.Larges.take k.1)∧cD k.1 (oX h)=true∧k.2.length≤1048576+64*k.1) (fun k=>h.Larges.length - k.1) ((0,S)) ?_ (⟨Nat.zero_le _,by rw[hS];unfold pgs;simp,rfl,by simp only;omega⟩) fun k hk=>?_
  ·repeat'(first|exact trivial|rfl|refine And.intro ?_ ?_)
  obtain⟨k,S2⟩:=k
  obtain⟨hk,hS2,ak,hb2⟩:=hk
  simp only at hk hS2 ak hb2 ⊢
  by_cases lk:k<h.Larges.length
  ·have hx:=au lk
   have hpg:=pO hlay hx
   repeat'((conv=>whnf);first|with_reducible (first|refine Lm ?_|refine Wm (by omega) ?_|refine Ix.nat (aa hx) ?_|refine dT (by omega) (fun hq=>?_)|refine Bf.D (fun hq=>?_) (fun hq=>?_)|refine Bn ?_|refine Fm rfl ?_)|refine Bt ?_|refine Bu ?_|refine Ix.mk (by omega) (aa (eL (by omega) lk)) ?_)
   all_goals first
    | exact congrArg (fun z=>[B z]) ((p7 (bN lk (Gc (decide_eq_false (by omega))))).symm)
    |have hsort:tN h.Larges k=true:=decide_eq_true (by omega)
     (conv=>whnf)
     refine Lp.mk (ι:=Nat × List Int) (fun q=>[(1,.hold .box (ac.enc .imm h)),(3,.hold .box (aB.enc .imm (tbl h))),(4,.hold .one [I (eP h)]),(5,.hold .one (aI .own q.2)),(7,.hold .one [I ((k:Nat):Int)]),(8,.hold .one [I ((q.1:Nat):Int)])]) (fun q=>q.1≤(nth h.Larges k).Pages.toNat∧q.2=S2++lpgs (nth h.Larges k) q.1∧cD q.1 (sg h (nth h.Larges k))=true) (fun q=>(nth h.Larges k).Pages.toNat - q.1) ((0,S2)) ?_ (⟨Nat.zero_le _,by simp[lpgs],rfl⟩) fun q hq=>?_
     ·repeat'(first|exact trivial|rfl|refine And.intro ?_ ?_)
     obtain⟨q,S3⟩:=q
     obtain⟨hq1,hS3,aq⟩:=hq
     simp only at hq1 hS3 aq ⊢
     have hl3':S3.length=S2.length+q:=by rw[hS3,List.length_append,y2]
     by_cases lq:q<(nth h.Larges k).Pages.toNat
     ·have hfl:=ko h ((nth h.Larges k).Page+(q:Nat))
      repeat'((conv=>whnf);first|with_reducible (first|refine Lm ?_|refine Wm (by omega) ?_|refine Ix.nat (aa hx) ?_|refine dT (by omega) (fun hq=>?_)|refine Bf.N (fun hq=>?_) (fun hq=>?_)|refine Bn ?_|refine Fm rfl ?_)|refine Bt ?_|refine Bu ?_|refine Cl.mk (lX h _ hst) ?_|refine Ap.mk dl (fun r hr=>by rw[List.mem_singleton.1 hr];rfl) (by simp[aQ,dU]) (by simp;omega) (by show _*8≤_;simp;omega) rfl ?_)
      all_goals first
       | exact congrArg (fun z=>[B z]) ((p7 (bN lk (FG lq (decide_eq_false (by omega))))).symm)
       | ((conv=>whnf)
          refine Nx.mk (q+1,S3++[(nth h.Larges k).Page+(q:Nat)]) ⟨(by simp only;omega),(by simp only;rw[hS3,jd,List.append_assoc]),b6 aq (decide_eq_true (by omega))⟩ (by simp only;omega) ?_
          (repeat'(first|exact trivial|rfl|exact And.intro rfl (And.intro (congrArg (C.s dy.own) (by simp[rI])) trivial)|refine And.intro ?_ ?_)))
     ·obtain rfl:q=(nth h.Larges k).Pages.toNat:=by omega
      repeat'((conv=>whnf);first|with_reducible (first|refine Lm ?_|refine Wm (by omega) ?_|refine Ix.nat (aa hx) ?_|refine dF (by omega) (fun hq=>?_)|refine Bn ?_|refine Fm rfl ?_)|refine Bt ?_|refine Bu ?_)
      ((conv=>whnf);refine Nx.mk (k+1,S3) ⟨(by simp only;omega),(by simp only;rw[hS3,hS2,←m8 _ hx]),b6 ak (yn hsort aq),(by simp only;omega)⟩ (by simp only;omega) ?_;(repeat'(first|exact trivial|rfl|refine And.intro ?_ ?_)))
  ·obtain rfl:k=h.Larges.length:=by omega
   rw[List.take_length]at hS2
   repeat'((conv=>whnf);first|with_reducible (first|refine Lm ?_|refine Wm (by omega) ?_|refine dF (by omega) (fun hq=>?_)|refine Bn ?_|refine Fm rfl ?_)|refine Bt ?_|refine Bu ?_)
   (conv=>whnf)
   refine Lp.mk (ι:=Nat) (fun q=>[(1,.hold .box (ac.enc .imm h)),(3,.hold .box (aB.enc .imm (tbl h))),(4,.hold .one [I (eP h)]),(5,.hold .one (aI .own S2)),(10,.hold .one [I ((q:Nat):Int)])]) (fun q=>q≤S2.length∧∀ j,j<q→nth S2 j<eP h) (fun q=>S2.length - q) (0) ?_ (⟨Nat.zero_le _,fun j hj=>by omega⟩) fun q hq=>?_
   ·repeat'(first|exact trivial|rfl|refine And.intro ?_ ?_)
   obtain⟨hq,aq⟩:=hq
   by_cases lq:q<S2.length
   ·have hx:=au lq
    repeat'((conv=>whnf);first|with_reducible (first|refine Lm ?_|refine Wm (by omega) ?_|refine Ix.nat (aa hx) ?_|refine dT (by omega) (fun hq=>?_)|refine Bf.D (fun hq=>?_) (fun hq=>?_)|refine Bn ?_|refine Fm rfl ?_)|refine Bt ?_|refine Bu ?_|refine Rw.one rfl (aa hx) rfl ?_)
    all_goals first
     | exact congrArg (fun z=>[B z]) ((zZ (by rw[←hS2];exact ay lq) (by omega)).symm)
     | ((conv=>whnf);refine Nx.mk (q+1) ⟨by omega,fun j hj=>by rcases Nat.lt_or_ge j q with h1|h1;exact aq j h1;(obtain rfl:j=q:=by omega);omega⟩ (by omega) ?_;(repeat'(first|exact trivial|rfl|refine And.intro ?_ ?_)))
   ·have hall:∀ p∈pgs h.Spans h.Larges,p<eP h:=fun p hp=>by
     rw[←hS2]at hp
     obtain⟨j,hj⟩:=List.mem_iff_getElem?.1 hp
     have h1:=(List.getElem?_eq_some_iff.1 hj).1
     have:=aq j (by omega)
     rwa [bE hj]at this
    repeat'((conv=>whnf);first|with_reducible (first|refine Lm ?_|refine Wm (by omega) ?_|refine dF (by omega) (fun hq=>?_)|refine Bn ?_|refine Fm rfl ?_)|refine Bt ?_|refine Bu ?_)
    (conv=>whnf)
    refine Lp.mk (ι:=Nat) (fun p=>[(1,.hold .box (ac.enc .imm h)),(3,.hold .box (aB.enc .imm (tbl h))),(4,.hold .one [I (eP h)]),(5,.hold .one (aI .own S2)),(11,.hold .one [I ((p:Nat):Int)])]) (fun p=>p≤eP h∧cD p (rg h)=true) (fun p=>eP h - p) 0 ?_ ⟨Nat.zero_le _,rfl⟩ fun p hp=>?_
    ·repeat'(first|exact trivial|rfl|refine And.intro ?_ ?_)
    obtain⟨hp,ap⟩:=hp
    by_cases lp:p<eP h
    ·have hx:=au (xs:=(tbl h).Entries) lp
     have hr:=ui h.Free (p:Nat) (by omega)
     repeat'((conv=>whnf);first|with_reducible (first|refine Lm ?_|refine Wm (by omega) ?_|refine Ix.nat (aa hx) ?_|refine dT (by omega) (fun hq=>?_)|refine Bf.D (fun hq=>?_) (fun hq=>?_)|refine Bf.NB (fun hq=>?_) (fun hq=>?_)|refine Bn ?_|refine Fm rfl ?_)|refine Bt ?_|refine Bu ?_|refine Cl.eq (kD S2 _ (by omega)) ⟨⟨rfl,eC _⟩,⟨rfl,rfl⟩,trivial⟩ ?_|refine Cl.mk hr ?_|refine Bf.P (fun hq=>?_) (fun hq=>?_))
     all_goals first
      | exact congrArg (fun z=>[B z]) ((Ad (bN lp (by unfold rg;rw[←hS2];grind))).symm)
      | ((conv=>whnf);refine Nx.mk (p+1) ⟨by omega,b6 ap (by unfold rg;rw[←hS2];grind)⟩ (by omega) ?_;(repeat'(first|exact trivial|rfl|refine And.intro ?_ ?_)))
    ·repeat'((conv=>whnf);first|with_reducible (first|refine Lm ?_|refine Wm (by omega) ?_|refine dF (by omega) (fun hq=>?_)|refine Bn ?_|refine Fm rfl ?_)|refine Bt ?_|refine Bu ?_)
     obtain rfl:p=eP h:=by omega
     exact congrArg (fun z=>[B z]) ((sG ai ak hall ap).symm)
end Go.Proofs.YtogajjgmcnjkbaaGreat.Ab
namespace Go.Proofs.YtogajjgmcnjkbaaGreat.Ab
open Go.RowKit
set_option maxRecDepth 20000
set_option maxHeartbeats 8000000
theorem bQ {z1 z2:Int} (h:z1=z2):HF (I z1) (I z2):=by subst h;rfl
theorem BR {S:List Int} {p z:Int} : z∈ins S p↔z∈S∨z=p:=by
 unfold ins
 split
 ·rename_i hp
  exact⟨.inl,fun h=>h.elim id fun e=>e ▸ hp⟩
 ·simp
theorem sH (S:List Int):(ec S).map (·.1)=S:=by unfold ec;rw[List.map_map];simp[Function.comp_def]
theorem k5 {t:aB} {p:Nat} (hp:p<t.Entries.length):aF t (p:Nat)=nth t.Entries p:=by
 unfold aF;rw[if_pos (by omega)];simp
theorem wt (h:ac) (hs1:cf h.Spans) (hs2:bO h.Larges) (hst:A7 h) (hsf:dr h.Free) (hlay:bj h.Spans h.Larges=true):af Tryz.prog 122 false [.val (some 24) (ac.enc .imm h)] .one [B (pages0 h&&lU h)]:=by
 have hl1:=hs1.1
 have hl2:=hs2.1
 have hl3:eP h≤1048576:=hst.1
 have hl4:=hsf.1
 have hno:pages0 h=false→[B false]=[B (pages0 h&&lU h)]:=fun e=>by rw[e];rfl
 refine fO (n:=177) [(4,14,[25,26,27,28,29,30,31,32,33,34,35,36,37,38]),(16,14,[60,61,62,63,64,65,66,67,68,69,70,71,72,73]),(28,18,[102,103,104,105,106,107,108,109,110,111,112,113,114,115,116,117,118,119]),(42,23,[152,153,154,155,156,157,158,159,160,161,162,163,164,165,166,167,168,169,170,171,172,173,174])] Tryz.func122 (by kernel_rfl) rfl (by kernel_rfl) (by rfl) (.inr ⟨trivial,trivial⟩) ?_
 repeat'((conv=>whnf);first|with_reducible (first|refine Lm ?_|refine Wm (by omega) ?_|refine Bn ?_|refine Fm rfl ?_)|refine Bt ?_|refine Bu ?_)
 (conv=>whnf)
 refine Lp.mk (ι:=Nat) (fun i=>[(1,.hold .box (ac.enc .imm h)),(18,.hold .one (bt .imm h.Spans)),(19,.hold .one [I (h.Spans.length)]),(20,.hold .one [I ((i:Nat):Int)])]) (fun i=>i≤h.Spans.length∧cD i (ta h.Spans)=true) (fun i=>h.Spans.length - i) 0 ?_ ⟨Nat.zero_le _,rfl⟩ fun i hi=>?_
 ·repeat'(first|exact trivial|rfl|refine And.intro ?_ ?_|(exact bQ (by first|omega|(simp only;omega)|(simp;omega))))
 obtain⟨hi,ai⟩:=hi
 by_cases li:i<h.Spans.length
 ·have hx:=au li
  repeat'((conv=>whnf);first|with_reducible (first|refine Lm ?_|refine Wm (by omega) ?_|refine Ix.nat (aa hx) ?_|refine dT (by omega) (fun hq=>?_)|refine Bf.D (fun hq=>?_) (fun hq=>?_)|refine Bn ?_|refine Fm rfl ?_)|refine Bt ?_|refine Bu ?_|refine Ix.mk (by omega) (aa (eL (by omega) li)) ?_)
  all_goals first
   |exact hno (yi (bN li (decide_eq_false (by omega))))
   | ((conv=>whnf);refine Nx.mk (i+1) ⟨by omega,b6 ai (decide_eq_true (by omega))⟩ (by omega) ?_;(repeat'(first|exact trivial|rfl|refine And.intro ?_ ?_|(exact bQ (by first|omega|(simp only;omega)|(simp;omega))))))
 obtain rfl:i=h.Spans.length:=by omega
 repeat'((conv=>whnf);first|with_reducible (first|refine Lm ?_|refine Wm (by omega) ?_|refine dF (by omega) (fun hq=>?_)|refine Bn ?_|refine Fm rfl ?_)|refine Bt ?_|refine Bu ?_)
 (conv=>whnf)
 refine Lp.mk (ι:=Nat × List Int) (fun i=>[(1,.hold .box (ac.enc .imm h)),(5,.hold .one [.m (ec i.2)]),(42,.hold .one (bt .imm h.Spans)),(43,.hold .one [I (h.Spans.length)]),(44,.hold .one [I ((i.1:Nat):Int)])]) (fun i=>i.1≤h.Spans.length∧∀ z,z∈i.2↔z∈(h.Spans.take i.1).map (·.Page)) (fun i=>h.Spans.length - i.1) ((0,[])) ?_ (⟨Nat.zero_le _,fun z=>Iff.rfl⟩) fun i hi=>?_
 ·repeat'(first|exact trivial|rfl|refine And.intro ?_ ?_|(exact bQ (by first|omega|(simp only;omega)|(simp;omega))))
 obtain⟨i,S⟩:=i
 obtain⟨hi2,hS⟩:=hi
 simp only at hi2 hS ⊢
 by_cases li2:i<h.Spans.length
 ·have hx:=au li2
  repeat'((conv=>whnf);first|with_reducible (first|refine Lm ?_|refine Wm (by omega) ?_|refine Ix.nat (aa hx) ?_|refine dT (by omega) (fun hq=>?_)|refine Bn ?_|refine Fm rfl ?_)|refine Bt ?_|refine Bu ?_|refine Mu.mk (sB S _) ?_)
  ((conv=>whnf);refine Nx.mk (i+1,ins S (nth h.Spans i).Page) ⟨(by simp only;omega),fun z=>by simp only[BR,hS];rw[List.take_add_one,hx];simp⟩ (by simp only;omega) ?_;(repeat'(first|exact trivial|rfl|refine And.intro ?_ ?_|(exact bQ (by first|omega|(simp only;omega)|(simp;omega))))))
 obtain rfl:i=h.Spans.length:=by omega
 rw[List.take_length]at hS
 repeat'((conv=>whnf);first|with_reducible (first|refine Lm ?_|refine Wm (by omega) ?_|refine dF (by omega) (fun hq=>?_)|refine Bn ?_|refine Fm rfl ?_)|refine Bt ?_|refine Bu ?_)
 (conv=>whnf)
 refine Lp.mk (ι:=Nat × List Int) (fun k=>[(1,.hold .box (ac.enc .imm h)),(5,.hold .one [.m (ec k.2)]),(53,.hold .one (aW .imm h.Larges)),(54,.hold .one [I (h.Larges.length)]),(55,.hold .one [I ((k.1:Nat):Int)])]) (fun k=>k.1≤h.Larges.length∧(∀ z,z∈k.2↔z∈pgs h.Spans (h.Larges.take k.1))∧cD k.1 (oX h)=true) (fun k=>h.Larges.length - k.1) ((0,S)) ?_ (⟨Nat.zero_le _,fun z=>by simp only[hS];unfold pgs;simp,rfl⟩) fun k hk=>?_
 ·repeat'(first|exact trivial|rfl|refine And.intro ?_ ?_|(exact bQ (by first|omega|(simp only;omega)|(simp;omega))))
 obtain⟨k,S2⟩:=k
 obtain⟨hk,hS2,ak⟩:=hk
 simp only at hk hS2 ak ⊢
 by_cases lk:k<h.Larges.length
 ·have hx:=au lk
  have hpg:=pO hlay hx
  repeat'((conv=>whnf);first|with_reducible (first|refine Lm ?_|refine Wm (by omega) ?_|refine Ix.nat (aa hx) ?_|refine dT (by omega) (fun hq=>?_)|refine Bf.D (fun hq=>?_) (fun hq=>?_)|refine Bn ?_|refine Fm rfl ?_)|refine Bt ?_|refine Bu ?_|refine Ix.mk (by omega) (aa (eL (by omega) lk)) ?_)
  all_goals first
   |exact hno (p7 (bN lk (Gc (decide_eq_false (by omega)))))
   |have hsort:tN h.Larges k=true:=decide_eq_true (by omega)
    (conv=>whnf)
    refine Lp.mk (ι:=Nat × List Int) (fun q=>[(1,.hold .box (ac.enc .imm h)),(5,.hold .one [.m (ec q.2)]),(9,.hold .box (ah.enc .imm (nth h.Larges k))),(10,.hold .one [I ((nth h.Larges k).Page+(q.1:Nat))]),(53,.hold .one (aW .imm h.Larges)),(54,.hold .one [I (h.Larges.length)]),(55,.hold .one [I ((k:Nat):Int)])]) (fun q=>q.1≤(nth h.Larges k).Pages.toNat∧(∀ z,z∈q.2↔z∈S2++lpgs (nth h.Larges k) q.1)∧cD q.1 (sg h (nth h.Larges k))=true) (fun q=>(nth h.Larges k).Pages.toNat - q.1) ((0,S2)) ?_ (⟨Nat.zero_le _,fun z=>by simp[lpgs],rfl⟩) fun q hq=>?_
    ·repeat'(first|exact trivial|rfl|refine And.intro ?_ ?_|(exact bQ (by first|omega|(simp only;omega)|(simp;omega))))
    obtain⟨q,S3⟩:=q
    obtain⟨hq1,hS3,aq⟩:=hq
    simp only at hq1 hS3 aq ⊢
    by_cases lq:q<(nth h.Larges k).Pages.toNat
    ·have hfl:=ko h ((nth h.Larges k).Page+(q:Nat))
     repeat'((conv=>whnf);first|with_reducible (first|refine Lm ?_|refine Wm (by omega) ?_|refine dT (by omega) (fun hq=>?_)|refine Bf.N (fun hq=>?_) (fun hq=>?_)|refine Bn ?_|refine Fm rfl ?_)|refine Bt ?_|refine Bu ?_|refine Cl.mk (rj h _ hst) ?_|refine Mu.mk (sB S3 _) ?_)
     all_goals first
      |exact hno (p7 (bN lk (FG lq (decide_eq_false (by omega)))))
      | ((conv=>whnf)
         refine Nx.mk (q+1,ins S3 ((nth h.Larges k).Page+(q:Nat))) ⟨(by simp only;omega),fun z=>by simp only[BR,hS3];rw[jd];simp[or_assoc],b6 aq (decide_eq_true (by omega))⟩ (by simp only;omega) ?_
         (repeat'(first|exact trivial|rfl|refine And.intro ?_ ?_|exact bQ (by simp;omega))))
    ·obtain rfl:q=(nth h.Larges k).Pages.toNat:=by omega
     repeat'((conv=>whnf);first|with_reducible (first|refine Lm ?_|refine Wm (by omega) ?_|refine dF (by omega) (fun hq=>?_)|refine Bn ?_|refine Fm rfl ?_)|refine Bt ?_|refine Bu ?_)
     ((conv=>whnf);refine Nx.mk (k+1,S3) ⟨(by simp only;omega),(fun z=>by simp only[hS3];rw[m8 _ hx];simp[hS2]),b6 ak (yn hsort aq)⟩ (by simp only;omega) ?_;(repeat'(first|exact trivial|rfl|refine And.intro ?_ ?_|(exact bQ (by first|omega|(simp only;omega)|(simp;omega))))))
 obtain rfl:k=h.Larges.length:=by omega
 rw[List.take_length]at hS2
 repeat'((conv=>whnf);first|with_reducible (first|refine Lm ?_|refine Wm (by omega) ?_|refine dF (by omega) (fun hq=>?_)|refine Bn ?_|refine Fm rfl ?_)|refine Bt ?_|refine Bu ?_)
 (conv=>whnf)
 refine Lp.mk (ι:=Nat) (fun p=>[(1,.hold .box (ac.enc .imm h)),(5,.hold .one [.m (ec S2)]),(98,.hold .one [I (eP h)]),(99,.hold .one [I ((p:Nat):Int)])]) (fun p=>p≤eP h∧cD p (rg h)=true) (fun p=>eP h - p) 0 ?_ ⟨Nat.zero_le _,rfl⟩ fun p hp=>?_
 ·repeat'(first|exact trivial|rfl|refine And.intro ?_ ?_|(exact bQ (by first|omega|(simp only;omega)|(simp;omega))))
 obtain⟨hp,ap⟩:=hp
 by_cases lp:p<eP h
 ·have hr:=u4 h.Free (p:Nat) (by omega)
  have hm:=q9 h.Kernel (p:Nat) hst
  rw[k5 lp]at hm
  repeat'((conv=>whnf);first|with_reducible (first|refine Lm ?_|refine Wm (by omega) ?_|refine dT (by omega) (fun hq=>?_)|refine Bf.D (fun hq=>?_) (fun hq=>?_)|refine Bf.NB (fun hq=>?_) (fun hq=>?_)|refine Bn ?_|refine Fm rfl ?_)|refine Bt ?_|refine Bu ?_|refine Cl.mk hm ?_|refine Ml.mk (lL (p:Nat) S2) ?_|refine Cl.mk hr ?_|refine Bf.P (fun hq=>?_) (fun hq=>?_))
  all_goals first
   |exact hno (Ad (bN lp (by unfold rg tbl;have:=hS2 (p:Nat);grind)))
   | ((conv=>whnf);refine Nx.mk (p+1) ⟨by omega,b6 ap (by unfold rg tbl;have:=hS2 (p:Nat);grind)⟩ (by omega) ?_;(repeat'(first|exact trivial|rfl|refine And.intro ?_ ?_|(exact bQ (by first|omega|(simp only;omega)|(simp;omega))))))
 obtain rfl:p=eP h:=by omega
 repeat'((conv=>whnf);first|with_reducible (first|refine Lm ?_|refine Wm (by omega) ?_|refine dF (by omega) (fun hq=>?_)|refine Bn ?_|refine Fm rfl ?_)|refine Bt ?_|refine Bu ?_)
 have hpn:eP h=h.Kernel.Machine.Table.Entries.length:=rfl
 (conv=>whnf)
 refine Lp.mk (ι:=Option Int × List Int) (fun t=>[(1,.hold .box (ac.enc .imm h)),(122,.hold .one [.it t.1 t.2])]) (fun t=>(∀ z∈S2,z∈t.2∨z<eP h)∧∀ z∈t.2,z∈S2) (fun t=>t.2.length) ((none,(ec S2).map (·.1))) ?_ (⟨fun z hz=>.inl (by rw[sH];exact hz),fun z hz=>by rw[sH]at hz;exact hz⟩) fun t ht=>?_
 ·repeat'(first|exact trivial|rfl|refine And.intro ?_ ?_|(exact bQ (by first|omega|(simp only;omega)|(simp;omega))))
 obtain⟨cur,left⟩:=t
 obtain⟨ht1,ht2⟩:=ht
 simp only at ht1 ht2 ⊢
 repeat'((conv=>whnf);first|with_reducible (first|refine Lm ?_|refine Wm (by omega) ?_|refine Bf.D (fun hq=>?_) (fun hq=>?_)|refine Bn ?_|refine Fm rfl ?_)|refine Bt ?_|refine Bu ?_|refine Nt.mk (fun hq=>?_) (fun l1 k l2 hq=>?_))
 rotate_left
 ·exact hno (zZ (p:=k) ((hS2 k).1 (ht2 k (by subst left;simp))) (by omega))
 ·((conv=>whnf);refine Nx.mk (some k,l1++l2) ⟨fun z hz=>by have h1:=ht1 z hz;subst left;simp only[List.mem_append,List.mem_cons]at h1 ⊢;rcases h1 with(h1|h1|h1)|h1;exact .inl (.inl h1);(subst h1;exact .inr (by omega));exact .inl (.inr h1);exact .inr h1,fun z hz=>ht2 z (by subst left;simp only[List.mem_append,List.mem_cons]at hz ⊢;grind)⟩ (by subst left;simp) ?_;(repeat'(first|exact trivial|rfl|refine And.intro ?_ ?_|(exact bQ (by first|omega|(simp only;omega)|(simp;omega))))))
 have hall:∀ p∈pgs h.Spans h.Larges,p<eP h:=fun p hp=>by
  have h1:=ht1 p ((hS2 p).2 hp)
  subst left
  simpa using h1
 have h0:pages0 h=true:=sG ai ak hall ap
 rw[h0,Bool.true_and]
 (conv=>whnf)
 refine Lp.mk (ι:=Nat) (fun i=>[(1,.hold .box (ac.enc .imm h)),(136,.hold .one (bt .imm h.Spans)),(137,.hold .one [I (h.Spans.length)]),(138,.hold .one [I ((i:Nat):Int)])]) (fun i=>i≤h.Spans.length∧cD i (fun i=>cD i (jp h i))=true) (fun i=>h.Spans.length - i) 0 ?_ ⟨Nat.zero_le _,rfl⟩ fun i hi=>?_
 ·repeat'(first|exact trivial|rfl|refine And.intro ?_ ?_|(exact bQ (by first|omega|(simp only;omega)|(simp;omega))))
 obtain⟨hi,ai⟩:=hi
 by_cases li:i<h.Spans.length
 ·have hx:=au li
  have htl:(h.Spans.take i).length=i:=by rw[List.length_take];omega
  repeat'((conv=>whnf);first|with_reducible (first|refine Lm ?_|refine Wm (by omega) ?_|refine Ix.nat (aa hx) ?_|refine dT (by omega) (fun hq=>?_)|refine Bn ?_|refine Fm rfl ?_)|refine Bt ?_|refine Bu ?_|refine Sl.pre i rfl (by simp;omega) (fun r hr=>by obtain⟨z,-,rfl⟩:=List.mem_map.1 hr;rfl) (List.map_take ..) ?_)
  (conv=>whnf)
  refine Lp.mk (ι:=Nat) (fun j=>[(1,.hold .box (ac.enc .imm h)),(14,.hold .box (am.enc .imm (nth h.Spans i))),(136,.hold .one (bt .imm h.Spans)),(137,.hold .one [I (h.Spans.length)]),(138,.hold .one [I ((i:Nat):Int)]),(146,.hold .one (bt .imm (h.Spans.take i))),(147,.hold .one [I ((h.Spans.take i).length)]),(148,.hold .one [I ((j:Nat):Int)])]) (fun j=>j≤(h.Spans.take i).length∧cD j (jp h i)=true) (fun j=>(h.Spans.take i).length - j) 0 ?_ ⟨Nat.zero_le _,rfl⟩ fun j hj=>?_
  ·repeat'(first|exact trivial|rfl|refine And.intro ?_ ?_|(exact bQ (by first|omega|(simp only;omega)|(simp;omega))))
  obtain⟨hj,aj⟩:=hj
  by_cases lj:j<(h.Spans.take i).length
  ·have hy:=au lj
   have he:nth (h.Spans.take i) j=nth h.Spans j:=bE (by rw[List.getElem?_take_of_lt (by omega)];exact au (by omega))
   rw[he]at hy
   have hm:=uJ (nth h.Spans i) (nth h.Spans j)
   cases em:meshable (nth h.Spans i) (nth h.Spans j)<;>rw[em]at hm
   all_goals
    repeat'((conv=>whnf);first|with_reducible (first|refine Lm ?_|refine Wm (by omega) ?_|refine Ix.nat (aa hy) ?_|refine dT (by omega) (fun hq=>?_)|refine Bf.E (fun hq=>?_) (fun hq=>?_)|refine Bn ?_|refine Fm rfl ?_)|refine Bt ?_|refine Bu ?_|refine Cl.mk (eQ (tbl h) _ hst) ?_|refine Cl.mk hm ?_)
    all_goals first
     | exact congrArg (fun z=>[B z]) ((by symm;exact bN li (bN (i:=j) (by omega) (by unfold jp;rw[em];grind))))
     | ((conv=>whnf);refine Nx.mk (j+1) ⟨by omega,b6 aj (by unfold jp;rw[em];grind)⟩ (by omega) ?_;(repeat'(first|exact trivial|rfl|refine And.intro ?_ ?_|(exact bQ (by first|omega|(simp only;omega)|(simp;omega))))))
  ·obtain rfl:j=(h.Spans.take i).length:=by omega
   rw[htl]at aj
   repeat'((conv=>whnf);first|with_reducible (first|refine Lm ?_|refine Wm (by omega) ?_|refine dF (by omega) (fun hq=>?_)|refine Bn ?_|refine Fm rfl ?_)|refine Bt ?_|refine Bu ?_)
   ((conv=>whnf);refine Nx.mk (i+1) ⟨by omega,b6 ai aj⟩ (by omega) ?_;(repeat'(first|exact trivial|rfl|refine And.intro ?_ ?_|(exact bQ (by first|omega|(simp only;omega)|(simp;omega))))))
 obtain rfl:i=h.Spans.length:=by omega
 repeat'((conv=>whnf);first|with_reducible (first|refine Lm ?_|refine Wm (by omega) ?_|refine dF (by omega) (fun hq=>?_)|refine Bn ?_|refine Fm rfl ?_)|refine Bt ?_|refine Bu ?_)
 exact congrArg (fun z=>[B z]) ((by unfold lU;rw[ai]))
end Go.Proofs.YtogajjgmcnjkbaaGreat.Ab
namespace Go.Proofs.YtogajjgmcnjkbaaGreat.Ab
open Go.RowKit
set_option maxRecDepth 20000
set_option maxHeartbeats 8000000
theorem yF {α:Type} [Inhabited α] (pr:α→Bool) (xs:List α):eO pr xs = -1∨∃ n,n<xs.length∧eO pr xs=(n:Nat)∧pr (nth xs n)=true:=by
 unfold eO
 cases h:xs.findIdx? pr with
 | none=>exact .inl rfl
 | some i=>
  obtain⟨hi,hp,-⟩:=List.findIdx?_eq_some_iff_getElem.1 h
  exact .inr ⟨i,hi,rfl,by rw[bE (List.getElem?_eq_getElem hi)];exact hp⟩
theorem yx {h:ac} {i k:Nat} (hi:i<h.Spans.length) (hk:k<(bc h (nth h.Spans i).Page).length) (hm:ke h i (nth (bc h (nth h.Spans i).Page) k)=false):rb h=false:=by
 unfold rb;exact bN hi (dI (au hk) hm)
theorem ww (h:ac) (hs1:cf h.Spans) (hst:A7 h):af Tryz.prog 93 false [.val (some 24) (ac.enc .imm h)] .one [B (rb h)]:=by
 have hl1:=hs1.1
 have hl3:eP h≤1048576:=hst.1
 refine fO (n:=55) [(4,8,[14,15,16,17,18,19,20,21]),(8,6,[28,29,30,31,32,33]),(9,21,[34,35,36,37,38,39,40,41,42,43,44,45,46,47,48,49,50,51,52,53,54])] Tryz.func93 (by kernel_rfl) rfl (by kernel_rfl) (by rfl) (.inr ⟨trivial,trivial⟩) ?_
 repeat'((conv=>whnf);first|with_reducible (first|refine Lm ?_|refine Wm (by omega) ?_|refine Bn ?_|refine Fm rfl ?_)|refine Bt ?_|refine Bu ?_)
 (conv=>whnf)
 refine Lp.mk (ι:=Nat) (fun i=>[(1,.hold .box (ac.enc .imm h)),(3,.hold .one [I ((i:Nat):Int)])]) (fun i=>i≤h.Spans.length∧cD i (fun i=>(bc h (nth h.Spans i).Page).all (ke h i))=true) (fun i=>h.Spans.length - i) 0 ?_ ⟨Nat.zero_le _,rfl⟩ fun i hi=>?_
 ·repeat'(first|exact trivial|rfl|refine And.intro ?_ ?_|(exact bQ (by first|omega|(simp only;omega)|(simp;omega))))
 obtain⟨hi,ai⟩:=hi
 by_cases li:i<h.Spans.length
 ·have hx:=au li
  have hfl:=ko h (nth h.Spans i).Page
  repeat'((conv=>whnf);first|with_reducible (first|refine Lm ?_|refine Wm (by omega) ?_|refine Ix.nat (aa hx) ?_|refine dT (by omega) (fun hq=>?_)|refine Bn ?_|refine Fm rfl ?_)|refine Bt ?_|refine Bu ?_|refine Cl.mk (lX h _ hst) ?_)
  (conv=>whnf)
  refine Lp.mk (ι:=Nat) (fun k=>[(1,.hold .box (ac.enc .imm h)),(3,.hold .one [I ((i:Nat):Int)]),(4,.hold .one (aI .own (bc h (nth h.Spans i).Page))),(5,.hold .one [I ((k:Nat):Int)])]) (fun k=>k≤(bc h (nth h.Spans i).Page).length∧((bc h (nth h.Spans i).Page).take k).all (ke h i)=true) (fun k=>(bc h (nth h.Spans i).Page).length - k) (0) ?_ (⟨Nat.zero_le _,rfl⟩) fun k hk=>?_
  ·repeat'(first|exact trivial|rfl|refine And.intro ?_ ?_|(exact bQ (by first|omega|(simp only;omega)|(simp;omega))))
  obtain⟨hk,ak⟩:=hk
  by_cases lk:k<(bc h (nth h.Spans i).Page).length
  ·have hy:=au lk
   have hso:=gL h (nth (bc h (nth h.Spans i).Page) k) hl1
   rcases yF (iA (nth (bc h (nth h.Spans i).Page) k)) h.Spans with hc|⟨n,hn,hc,-⟩
   ·rw[show eX h (nth (bc h (nth h.Spans i).Page) k) = -1 from hc]at hso
    have hmz:ke h i (nth (bc h (nth h.Spans i).Page) k)=false:=by
     unfold ke;rw[show eX h (nth (bc h (nth h.Spans i).Page) k) = -1 from hc,decide_eq_false (by omega),decide_eq_false (by omega)];rfl
    repeat'((conv=>whnf);first|with_reducible (first|refine Lm ?_|refine Wm (by omega) ?_|refine Ix.nat (aa hx) ?_|refine Ix.nat (aa hy) ?_|refine dT (by omega) (fun hq=>?_)|refine Bf.D (fun hq=>?_) (fun hq=>?_)|refine Bf.N (fun hq=>?_) (fun hq=>?_)|refine Bn ?_|refine Fm rfl ?_)|refine Bt ?_|refine Bu ?_|refine Rw.one rfl (aa hy) rfl ?_|refine Cl.mk hso ?_)
    all_goals first
     | exact congrArg (fun z=>[B z]) ((yx li lk hmz).symm)
     |(exfalso;omega)
   ·rw[show eX h (nth (bc h (nth h.Spans i).Page) k)=(n:Nat) from hc]at hso
    have hz:=au hn
    have hm:=uf (nth h.Spans i) (nth h.Spans n)
    have hma:ke h i (nth (bc h (nth h.Spans i).Page) k)=(decide ((n:Int)=(i:Nat)) || meshable (nth h.Spans i) (nth h.Spans n)):=by
     unfold ke;rw[show eX h (nth (bc h (nth h.Spans i).Page) k)=(n:Nat) from hc,decide_eq_true (p:=(0:Int)≤(n:Nat)) (by omega)];simp
    cases em:meshable (nth h.Spans i) (nth h.Spans n)<;>rw[em]at hm
    all_goals
     repeat'((conv=>whnf);first|with_reducible (first|refine Lm ?_|refine Wm (by omega) ?_|refine Ix.nat (aa hx) ?_|refine Ix.nat (aa hz) ?_|refine Ix.nat (aa hy) ?_|refine dT (by omega) (fun hq=>?_)|refine Bf.D (fun hq=>?_) (fun hq=>?_)|refine Bf.N (fun hq=>?_) (fun hq=>?_)|refine Bn ?_|refine Fm rfl ?_)|refine Bt ?_|refine Bu ?_|refine Rw.one rfl (aa hy) rfl ?_|refine Cl.mk hso ?_|refine Cl.mk hm ?_)
     all_goals first
      | exact congrArg (fun z=>[B z]) ((yx li lk (by rw[hma,em];grind)).symm)
      | ((conv=>whnf);refine Nx.mk (k+1) ⟨by omega,ce hy ak (by rw[hma,em];grind)⟩ (by omega) ?_;(repeat'(first|exact trivial|rfl|refine And.intro ?_ ?_|(exact bQ (by first|omega|(simp only;omega)|(simp;omega))))))
      |(exfalso;omega)
  ·repeat'((conv=>whnf);first|with_reducible (first|refine Lm ?_|refine Wm (by omega) ?_|refine dF (by omega) (fun hq=>?_)|refine Bn ?_|refine Fm rfl ?_)|refine Bt ?_|refine Bu ?_)
   ((conv=>whnf);refine Nx.mk (i+1) ⟨by omega,b6 ai (fk (by omega) ak)⟩ (by omega) ?_;(repeat'(first|exact trivial|rfl|refine And.intro ?_ ?_|(exact bQ (by first|omega|(simp only;omega)|(simp;omega))))))
 ·obtain rfl:i=h.Spans.length:=by omega
  repeat'((conv=>whnf);first|with_reducible (first|refine Lm ?_|refine Wm (by omega) ?_|refine dF (by omega) (fun hq=>?_)|refine Bn ?_|refine Fm rfl ?_)|refine Bt ?_|refine Bu ?_)
  exact congrArg (fun z=>[B z]) ((by unfold rb;rw[ai]))
theorem ED (j:bq) (hs:bq.sml j):af Tryz.prog 99 false [.val (some 5) (bq.enc .imm j)] .one [B (yu j)]:=by
 have hl:j.Plan.Cells.length≤1048576:=hs
 refine fO (n:=30) [] Tryz.func99 (by kernel_rfl) rfl (by kernel_rfl) (by rfl) (.inr ⟨trivial,trivial⟩) ?_
 repeat'((conv=>whnf);first|with_reducible (first|refine Lm ?_|refine Wm (by omega) ?_|refine Bf.E (fun hq=>?_) (fun hq=>?_)|refine Bf.D (fun hq=>?_) (fun hq=>?_)|refine Bn ?_|refine Fm rfl ?_)|refine Bt ?_|refine Bu ?_)
 all_goals exact congrArg (fun z=>[B z]) ((by unfold yu;first|(symm;exact decide_eq_false (by omega))|(rw[Bool.eq_iff_iff,beq_iff_eq,decide_eq_true_eq];omega)))
theorem kZ (sp:List am) (la:List ah) (a:Int):((denotes sp la a).Kind=1→0≤(denotes sp la a).Index∧(denotes sp la a).Index.toNat<sp.length)∧((denotes sp la a).Kind=3→0≤(denotes sp la a).Index∧(denotes sp la a).Index.toNat<la.length):=by
 unfold denotes
 cases h1:sp.findIdx? (cg · a) with
 | some i=>
  obtain⟨hi,-⟩:=List.findIdx?_eq_some_iff_getElem.1 h1
  simp only[mh]
  refine⟨fun _=>⟨by omega,by simpa using hi⟩,fun e=>?_⟩
  split at e<;>cases e
 | none=>
  cases h2:la.findIdx? (bi · a) with
  | some i=>
   obtain⟨hi,-⟩:=List.findIdx?_eq_some_iff_getElem.1 h2
   exact⟨fun e=>(by cases e),fun _=>⟨by simp,by simpa using hi⟩⟩
  | none=>exact⟨fun e=>(by cases e),fun e=>(by cases e)⟩
theorem Al (h:ac) (a c:Int) (hs1:cf h.Spans) (hs2:bO h.Larges) (hlay:bj h.Spans h.Larges=true) (hw:gz a):af Tryz.prog 213 false [.val (some 24) (ac.enc .imm h),.val none [I a],.val none [I c]] .one [B (cM h a c)]:=by
 have hd:=lb h.Spans h.Larges a hs1 hs2 hlay hw
 obtain⟨i1,-⟩:=kZ h.Spans h.Larges a
 unfold cM
 generalize denotes h.Spans h.Larges a=w at hd i1 ⊢
 refine fO (n:=37) [] Tryz.func213 (by kernel_rfl) rfl (by kernel_rfl) (by rfl) (.inr ⟨trivial,trivial⟩) ?_
 repeat'((conv=>whnf);first|with_reducible (first|refine Lm ?_|refine Wm (by omega) ?_|refine Bf.D (fun hq=>?_) (fun hq=>?_)|refine Bf.E (fun hq=>?_) (fun hq=>?_)|refine Bn ?_|refine Fm rfl ?_)|refine Bt ?_|refine Bu ?_|refine Cl.mk hd ?_|refine Ix.mk (i1 (by assumption)).1 (aa (au (i1 (by assumption)).2)) ?_)
 all_goals exact congrArg (fun z=>[B z]) ((by grind))
theorem vi (h:ac) (o:aM) (w:ct) (hw:denotes h.Spans h.Larges o.Addr=w):iK h o=(decide (w.Offset=0)&&((decide (w.Kind=1)&&decide ((nth h.Spans w.Index.toNat).Class=bk o.Size)) || (decide (w.Kind=3)&&decide ((nth h.Larges w.Index.toNat).Size=o.Size)))):=by
 unfold iK;rw[hw]
theorem gH {h:ac} {i:Nat} (hi:i<h.Objs.length) (ho:objAt (IntKind.i64.wrap (h.Next - 1)) h i=false):eg h=false:=bN hi ho
theorem Dq {nx:Int} {h:ac} {i:Nat} (h1:fF nx h i=false):objAt nx h i=false:=by unfold objAt;rw[h1];rfl
theorem BN {nx:Int} {h:ac} {i:Nat} (h1:(h.Objs.take i).any (jk (nth h.Objs i).Id)=true):objAt nx h i=false:=by unfold objAt;rw[h1];simp
theorem Da {nx:Int} {h:ac} {i:Nat} (h1:iK h (nth h.Objs i)=false):objAt nx h i=false:=by unfold objAt;rw[h1];simp
theorem vr {nx:Int} {h:ac} {i:Nat} (h1:fF nx h i=true) (h2:(h.Objs.take i).any (jk (nth h.Objs i).Id)=false) (h3:iK h (nth h.Objs i)=true):objAt nx h i=true:=by unfold objAt;rw[h1,h2,h3];rfl
theorem Bc (h:ac) (hs1:cf h.Spans) (hs2:bO h.Larges) (hlay:bj h.Spans h.Larges=true) (hl:h.Objs.length≤1048576) (hc:h.Caches.length≤1048576) (hw:∀ o∈h.Objs,gz o.Addr):af Tryz.prog 97 false [.val (some 24) (ac.enc .imm h)] .one [B (eg h)]:=by
 refine fO (n:=117) [(5,33,[21,22,23,24,25,26,27,28,29,30,31,32,33,34,35,36,37,38,39,40,41,42,43,44,45,46,47,48,49,50,51,52,53]),(10,9,[59,60,61,62,63,64,65,66,67]),(13,16,[75,76,77,78,79,80,81,82,83,84,85,86,87,88,89,90]),(14,15,[91,92,93,94,95,96,97,98,99,100,101,102,103,104,105])] Tryz.func97 (by kernel_rfl) rfl (by kernel_rfl) (by rfl) (.inr ⟨trivial,trivial⟩) ?_
 repeat'((conv=>whnf);first|with_reducible (first|refine Lm ?_|refine Wm (by omega) ?_|refine Bn ?_|refine Fm rfl ?_)|refine Bt ?_|refine Bu ?_)
 (conv=>whnf)
 refine Lp.mk (ι:=Nat) (fun i=>[(1,.hold .box (ac.enc .imm h)),(3,.hold .one [I ((i:Nat):Int)])]) (fun i=>i≤h.Objs.length∧cD i (objAt (IntKind.i64.wrap (h.Next - 1)) h)=true) (fun i=>h.Objs.length - i) 0 ?_ ⟨Nat.zero_le _,rfl⟩ fun i hi=>?_
 ·repeat'(first|exact trivial|rfl|refine And.intro ?_ ?_|(exact bQ (by first|omega|(simp only;omega)|(simp;omega))))
 obtain⟨hi,ai⟩:=hi
 by_cases li:i<h.Objs.length
 ·have hx:=au li
  have hd:=lb h.Spans h.Larges (nth h.Objs i).Addr hs1 hs2 hlay (hw _ (ay li))
  obtain⟨i1,i3⟩:=kZ h.Spans h.Larges (nth h.Objs i).Addr
  have hown:=vi h (nth h.Objs i) _ rfl
  generalize denotes h.Spans h.Larges (nth h.Objs i).Addr=w at hd i1 i3 hown
  by_cases hnum:fF (IntKind.i64.wrap (h.Next - 1)) h i=true
  ·have hnum':=hnum
   unfold fF at hnum'
   rw[decide_eq_true_eq]at hnum'
   repeat'((conv=>whnf);first|with_reducible (first|refine Lm ?_|refine Wm (by omega) ?_|refine Ix.nat (aa hx) ?_|refine dT (by omega) (fun hq=>?_)|refine dF (by omega) (fun hq=>?_)|refine Bf.D (fun hq=>?_) (fun hq=>?_)|refine Bn ?_|refine Fm rfl ?_)|refine Bt ?_|refine Bu ?_|refine Ix.mk (by omega) (aa (eL (by omega) li)) ?_|refine Cl.mk (aP _ _ _) ?_|refine Wr.mk rfl ?_)
   all_goals
    (conv=>whnf)
    refine Lp.mk (ι:=Nat) (fun k=>[(1,.hold .box (ac.enc .imm h)),(3,.hold .one [I ((i:Nat):Int)]),(4,.hold .box (aM.enc .imm (nth h.Objs i))),(5,.hold .one [I ((k:Nat):Int)])]) (fun k=>k≤i∧(h.Objs.take k).any (jk (nth h.Objs i).Id)=false) (fun k=>i - k) (0) ?_ (⟨Nat.zero_le _,rfl⟩) fun k hk=>?_
    ·repeat'(first|exact trivial|rfl|refine And.intro ?_ ?_|(exact bQ (by first|omega|(simp only;omega)|(simp;omega))))
    obtain⟨hk,ak⟩:=hk
    by_cases lk:k<i
    ·have hy:=au (xs:=h.Objs) (i:=k) (by omega)
     repeat'((conv=>whnf);first|with_reducible (first|refine Lm ?_|refine Wm (by omega) ?_|refine Ix.nat (aa hy) ?_|refine dT (by omega) (fun hq=>?_)|refine Bf.E (fun hq=>?_) (fun hq=>?_)|refine Bn ?_|refine Fm rfl ?_)|refine Bt ?_|refine Bu ?_)
     all_goals first
      | exact congrArg (fun z=>[B z]) ((gH li (BN (xl (i:=k) (by rw[List.getElem?_take_of_lt lk];exact hy) (decide_eq_true (by assumption))))).symm)
      | ((conv=>whnf);refine Nx.mk (k+1) ⟨by omega,sM hy ak (decide_eq_false (by assumption))⟩ (by omega) ?_;(repeat'(first|exact trivial|rfl|refine And.intro ?_ ?_|(exact bQ (by first|omega|(simp only;omega)|(simp;omega))))))
    ·obtain rfl:k=i:=by omega
     repeat'((conv=>whnf);first|with_reducible (first|refine Lm ?_|refine Wm (by omega) ?_|refine dF (by omega) (fun hq=>?_)|refine Bf.D (fun hq=>?_) (fun hq=>?_)|refine Bf.E (fun hq=>?_) (fun hq=>?_)|refine Bf.N (fun hq=>?_) (fun hq=>?_)|refine Bn ?_|refine Fm rfl ?_)|refine Bt ?_|refine Bu ?_|refine Cl.mk hd ?_|refine Ix.mk (i1 (by assumption)).1 (aa (au (i1 (by assumption)).2)) ?_|refine Ix.mk (i3 (by assumption)).1 (aa (au (i3 (by assumption)).2)) ?_|refine Cl.mk (oF _) ?_)
     all_goals first
      | exact congrArg (fun z=>[B z]) ((gH li (Da (by rw[hown];grind))).symm)
      | ((conv=>whnf);refine Nx.mk (k+1) ⟨by omega,b6 ai (vr hnum ak (by rw[hown];grind))⟩ (by omega) ?_;(repeat'(first|exact trivial|rfl|refine And.intro ?_ ?_|(exact bQ (by first|omega|(simp only;omega)|(simp;omega))))))
      |(exfalso;omega)
  ·have hn2:fF (IntKind.i64.wrap (h.Next - 1)) h i=false:=by simpa using hnum
   have hnum':=hn2
   unfold fF at hnum'
   rw[decide_eq_false_iff_not]at hnum'
   repeat'((conv=>whnf);first|with_reducible (first|refine Lm ?_|refine Wm (by omega) ?_|refine Ix.nat (aa hx) ?_|refine dT (by omega) (fun hq=>?_)|refine Bf.D (fun hq=>?_) (fun hq=>?_)|refine Bn ?_|refine Fm rfl ?_)|refine Bt ?_|refine Bu ?_|refine Ix.mk (by omega) (aa (eL (by omega) li)) ?_|refine Cl.mk (aP _ _ _) ?_|refine Wr.mk rfl ?_)
   all_goals first
    | exact congrArg (fun z=>[B z]) ((gH li (Dq hn2)).symm)
    |(exfalso;omega)
 ·obtain rfl:i=h.Objs.length:=by omega
  repeat'((conv=>whnf);first|with_reducible (first|refine Lm ?_|refine Wm (by omega) ?_|refine dF (by omega) (fun hq=>?_)|refine Bn ?_|refine Fm rfl ?_)|refine Bt ?_|refine Bu ?_)
  exact congrArg (fun z=>[B z]) ((show true=eg h from ai.symm))
theorem mR (o o0:aM):af Tryz.prog 237 false [.val (some 4) (aM.enc .imm o),.ptr (aM.enc .imm o0)] .one [B (jk o0.Id o)]:=by
 refine fO (n:=9) [] Tryz.func237 (by kernel_rfl) rfl (by kernel_rfl) (by rfl) (.inr ⟨trivial,trivial⟩) ?_
 repeat'((conv=>whnf);first|with_reducible (first|refine Lm ?_|refine Wm (by omega) ?_|refine Bn ?_|refine Fm rfl ?_)|refine Bt ?_|refine Bu ?_)
 exact congrArg (fun z=>[B z]) ((by unfold jk;rw[Bool.eq_iff_iff];simp))
theorem zR (h:ac) (hs1:cf h.Spans) (hs2:bO h.Larges) (hl:h.Objs.length≤1048576) (hc:h.Caches.length≤1048576):af Tryz.prog 126 false [.val (some 24) (ac.enc .imm h)] .one [B (eg h)]:=by
 refine fO (n:=105) [(4,33,[16,17,18,19,20,21,22,23,24,25,26,27,28,29,30,31,32,33,34,35,36,37,38,39,40,41,42,43,44,45,46,47,48]),(9,16,[62,63,64,65,66,67,68,69,70,71,72,73,74,75,76,77]),(10,15,[78,79,80,81,82,83,84,85,86,87,88,89,90,91,92])] Tryz.func126 (by kernel_rfl) rfl (by kernel_rfl) (by rfl) (.inr ⟨trivial,trivial⟩) ?_
 repeat'((conv=>whnf);first|with_reducible (first|refine Lm ?_|refine Wm (by omega) ?_|refine Bn ?_|refine Fm rfl ?_)|refine Bt ?_|refine Bu ?_)
 (conv=>whnf)
 refine Lp.mk (ι:=Nat) (fun i=>[(1,.hold .box (ac.enc .imm h)),(9,.hold .one (dA .imm h.Objs)),(10,.hold .one [I (h.Objs.length)]),(11,.hold .one [I ((i:Nat):Int)])]) (fun i=>i≤h.Objs.length∧cD i (objAt (IntKind.i64.wrap (h.Next - 1)) h)=true) (fun i=>h.Objs.length - i) 0 ?_ ⟨Nat.zero_le _,rfl⟩ fun i hi=>?_
 ·repeat'(first|exact trivial|rfl|refine And.intro ?_ ?_|(exact bQ (by first|omega|(simp only;omega)|(simp;omega))))
 obtain⟨hi,ai⟩:=hi
 by_cases li:i<h.Objs.length
 ·have hx:=au li
  have hd:=iR h.Spans h.Larges (nth h.Objs i).Addr hs1 hs2
  obtain⟨i1,i3⟩:=kZ h.Spans h.Larges (nth h.Objs i).Addr
  have hown:=vi h (nth h.Objs i) _ rfl
  generalize denotes h.Spans h.Larges (nth h.Objs i).Addr=w at hd i1 i3 hown
  have hcf:=qp (h.Objs.take i) (jk (nth h.Objs i).Id) (by rw[List.length_take];omega)
  by_cases hnum:fF (IntKind.i64.wrap (h.Next - 1)) h i=true
  ·have hnum':=hnum
   unfold fF at hnum'
   rw[decide_eq_true_eq]at hnum'
   cases hany:(h.Objs.take i).any (jk (nth h.Objs i).Id)<;>rw[hany]at hcf
   ·repeat'((conv=>whnf);first|with_reducible (first|refine Lm ?_|refine Wm (by omega) ?_|refine Ix.nat (aa hx) ?_|refine dT (by omega) (fun hq=>?_)|refine dF (by omega) (fun hq=>?_)|refine Bf.D (fun hq=>?_) (fun hq=>?_)|refine Bf.E (fun hq=>?_) (fun hq=>?_)|refine Bf.N (fun hq=>?_) (fun hq=>?_)|refine Bn ?_|refine Fm rfl ?_)|refine Bt ?_|refine Bu ?_|refine Ix.mk (by omega) (aa (eL (by omega) li)) ?_|refine Cl.mk (aH _ _ _) ?_|refine Sl.pre i rfl (by simp;omega) (fun r hr=>by obtain⟨z,-,rfl⟩:=List.mem_map.1 hr;rfl) (List.map_take ..) ?_|refine Cq.mk (uS (some 4) (aM.enc .imm) (jk (nth h.Objs i).Id) (h.Objs.take i)) (mR default (nth h.Objs i)).has (fun L k rcs hQ=>by obtain⟨y,-,rfl,rfl,rfl⟩:=hQ;exact mR y (nth h.Objs i)) ?_|refine Cl.mk hcf ?_|refine Cl.mk hd ?_|refine Ix.mk (i1 (by assumption)).1 (aa (au (i1 (by assumption)).2)) ?_|refine Ix.mk (i3 (by assumption)).1 (aa (au (i3 (by assumption)).2)) ?_|refine Cl.mk (pm _) ?_|refine Wr.mk rfl ?_)
    all_goals first
     | exact congrArg (fun z=>[B z]) ((gH li (Da (by rw[hown];grind))).symm)
     | ((conv=>whnf);refine Nx.mk (i+1) ⟨by omega,b6 ai (vr hnum hany (by rw[hown];grind))⟩ (by omega) ?_;(repeat'(first|exact trivial|rfl|refine And.intro ?_ ?_|(exact bQ (by first|omega|(simp only;omega)|(simp;omega))))))
     |(exfalso;omega)
   ·repeat'((conv=>whnf);first|with_reducible (first|refine Lm ?_|refine Wm (by omega) ?_|refine Ix.nat (aa hx) ?_|refine dT (by omega) (fun hq=>?_)|refine dF (by omega) (fun hq=>?_)|refine Bf.D (fun hq=>?_) (fun hq=>?_)|refine Bn ?_|refine Fm rfl ?_)|refine Bt ?_|refine Bu ?_|refine Ix.mk (by omega) (aa (eL (by omega) li)) ?_|refine Cl.mk (aH _ _ _) ?_|refine Sl.pre i rfl (by simp;omega) (fun r hr=>by obtain⟨z,-,rfl⟩:=List.mem_map.1 hr;rfl) (List.map_take ..) ?_|refine Cq.mk (uS (some 4) (aM.enc .imm) (jk (nth h.Objs i).Id) (h.Objs.take i)) (mR default (nth h.Objs i)).has (fun L k rcs hQ=>by obtain⟨y,-,rfl,rfl,rfl⟩:=hQ;exact mR y (nth h.Objs i)) ?_|refine Cl.mk hcf ?_|refine Wr.mk rfl ?_)
    all_goals first
     | exact congrArg (fun z=>[B z]) ((gH li (BN hany)).symm)
     |(exfalso;omega)
  ·have hn2:fF (IntKind.i64.wrap (h.Next - 1)) h i=false:=by simpa using hnum
   have hnum':=hn2
   unfold fF at hnum'
   rw[decide_eq_false_iff_not]at hnum'
   repeat'((conv=>whnf);first|with_reducible (first|refine Lm ?_|refine Wm (by omega) ?_|refine Ix.nat (aa hx) ?_|refine dT (by omega) (fun hq=>?_)|refine Bf.D (fun hq=>?_) (fun hq=>?_)|refine Bn ?_|refine Fm rfl ?_)|refine Bt ?_|refine Bu ?_|refine Ix.mk (by omega) (aa (eL (by omega) li)) ?_|refine Cl.mk (aH _ _ _) ?_|refine Wr.mk rfl ?_)
   all_goals first
    | exact congrArg (fun z=>[B z]) ((gH li (Dq hn2)).symm)
    |(exfalso;omega)
 ·obtain rfl:i=h.Objs.length:=by omega
  repeat'((conv=>whnf);first|with_reducible (first|refine Lm ?_|refine Wm (by omega) ?_|refine dF (by omega) (fun hq=>?_)|refine Bn ?_|refine Fm rfl ?_)|refine Bt ?_|refine Bu ?_)
  exact congrArg (fun z=>[B z]) ((show true=eg h from ai.symm))
end Go.Proofs.YtogajjgmcnjkbaaGreat.Ab
