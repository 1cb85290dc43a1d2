/- The pages of a heap: the contracts of l27Pages, l27Meshed (the reference's) and pagesOk (the program's). No condition. -/
import Derived.Test.YtembpgjjnioagaaGreatMd
import Derived.Test.YtembpgjjnioagaaGreatShelf
import Derived.WalkKit
import Derived.Lib.SliceRun
set_option linter.unusedVariables false
set_option linter.unusedSimpArgs false
set_option linter.constructorNameAsVariable false
namespace Go.Proofs.YtembpgjjnioagaaGreat.Ab
open Go.RowKit
set_option maxRecDepth 20000
set_option maxHeartbeats 8000000
theorem cY {sp:List au} {la:List a8} (h:bk sp la=true):sp.all aY=true/\la.all bR=true/\(pgs sp la).Nodup:=by
 unfold bk at h;simp only[I0,C0]at h;exact⟨h.1.1,h.1.2,h.2⟩
theorem KY {α:Type} [Inhabited α] {xs:List α} {p:α->Bool} {i:Nat} (h:xs.all p=true) (hi:i<xs.length):p (nth xs i)=true:=v3.1 h _ (am hi)
theorem AP {h:ab} (h1:cA h.Spans.length (ug h.Spans)=false):pages0 h=false:=by unfold pages0;rw[h1];rfl
theorem qu {h:ab} (h1:cA h.Larges.length (q9 h)=false):pages0 h=false:=by unfold pages0;rw[h1];simp
theorem Dg {h:ab} {p:Int} (h1:p∈pgs h.Spans h.Larges) (h2:¬p<dQ h):pages0 h=false:=by
 have:((pgs h.Spans h.Larges).all fun p=>decide (p<dQ h))=false:=List.all_eq_false.2 ⟨p,h1,by simpa using h2⟩;unfold pages0;rw[this];simp
theorem Di {h:ab} (h1:cA (dQ h) (tl h)=false):pages0 h=false:=by unfold pages0;rw[h1];simp
theorem vI {h:ab} (h1:cA h.Spans.length (ug h.Spans)=true) (h2:cA h.Larges.length (q9 h)=true) (h3:∀ p∈pgs h.Spans h.Larges,p<dQ h) (h4:cA (dQ h) (tl h)=true):pages0 h=true:=by
 have:((pgs h.Spans h.Larges).all fun p=>decide (p<dQ h))=true:=v3.2 fun p hp=>O0 (h3 p hp)
 unfold pages0;rw[h1,h2,h4,this];rfl
theorem H1 {h:ab} {i:Nat} (h1:wi h.Larges i=false):q9 h i=false:=by unfold q9;rw[h1];rfl
theorem HC {h:ab} {i k:Nat} (hk:k<(nth h.Larges i).Pages.toNat) (h1:ve h (nth h.Larges i) k=false):q9 h i=false:=by unfold q9;rw[ce hk h1];simp
theorem BZ {h:ab} {i:Nat} (h1:wi h.Larges i=true) (h2:cA (nth h.Larges i).Pages.toNat (ve h (nth h.Larges i))=true):q9 h i=true:=by unfold q9;rw[h1,h2];rfl
theorem fp (h:ab) (p:Int):(aP h p).length<=dQ h:=by
 unfold aP;split
 ·simp
 ·exact pe ..
theorem rz {sp:List au} {la:List a8} (h:bk sp la=true) {i:Nat} {l:a8} (hx:la[i]? = some l):1<=l.Pages/\l.Pages<=63/\0<=l.Page/\l.Page<=31:=
 aU (v3.1 (cY h).2.1 l (O1 hx))
theorem Bc (h:ab) (hs1:dt h.Spans) (hs2:dq h.Larges) (hst:tB h) (hsf:gB h.Free) (hlay:bk h.Spans h.Larges=true):ao Tryz.prog 204 false [.val (some 24) (ab.enc .imm h)] .one [B (pages0 h)]:=by
 have hl1:=hs1.1;have hl2:=hs2.1;have hl3:dQ h<=1048576:=hst.1;have hl4:=hsf.1;refine fO 144 [(7,18,[28,29,30,31,32,33,34,35,36,37,38,39,40,41,42,43,44,45]),(13,18,[62,63,64,65,66,67,68,69,70,71,72,73,74,75,76,77,78,79])] Tryz.func204 rfl ?_
 repeat'(first|refine gO ?_|fail)
 (conv=>whnf)
 refine Lp.mk (ι:=Nat × List Int) (fun i=>[(1,.hold .box (ab.enc .imm h)),(3,.hold .box (aG.enc .imm (tbl h))),(4,.hold .one [I (dQ h)]),(5,.hold .one (aD .own i.2)),(6,.hold .one [I ((i.1:Nat):Int)])]) (fun i=>i.1<=h.Spans.length/\i.2=(h.Spans.take i.1).map (·.Page)/\cA i.1 (ug h.Spans)=true) (fun i=>h.Spans.length - i.1) ((0,[])) ?_ (⟨Q0 _,rfl,rfl⟩) fun i hi=>?_
 ·exact wB
 obtain⟨i,S⟩:=i;obtain⟨hi,hS,ai⟩:=hi;simp only at hi hS ai |-;have hSl:S.length=i:=by rw[hS,U0,C1];omega
 by_cases li:i<h.Spans.length
 ·have hx:=ah li
  repeat'(first|refine gD ?_|(conv=>whnf);first|with_reducible (first|refine Ix.nat (aa hx) ?_|refine Bf.D (fun hq=>?_) (fun hq=>?_))|refine Ix.mk (by omega) (aa (f8 (by omega) li)) ?_|refine Ap.mk cq (fun r hr=>by rw[X0.1 hr];rfl) (by simp[aV,d4]) (by simp;omega) (by simp only[U0];exact wI (by simp;omega) (by decide)) rfl ?_)
  all_goals first
   | exact R0 (fun z=>[B z]) ((AP (ce li (P0 (by omega)))).symm)
   | ((conv=>whnf)
      refine Nx.mk (i+1,S++[(nth h.Spans i).Page]) ⟨(by simp only;omega),(by simp only;rw[hS,v4,hx];simp),bK ai (O0 (by omega))⟩ (by simp only;omega) ?_
      (repeat'(first|exact trivial|rfl|exact And.intro rfl (And.intro (R0 (C.s dz.own) (by simp[rI])) trivial)|refine And.intro ?_ ?_)))
 ·obtain rfl:i=h.Spans.length:=by omega
  rw[X3]at hS
  repeat'(first|refine gD ?_|fail)
  (conv=>whnf)
  refine Lp.mk (ι:=Nat × List Int) (fun k=>[(1,.hold .box (ab.enc .imm h)),(3,.hold .box (aG.enc .imm (tbl h))),(4,.hold .one [I (dQ h)]),(5,.hold .one (aD .own k.2)),(7,.hold .one [I ((k.1:Nat):Int)])]) (fun k=>k.1<=h.Larges.length/\k.2=pgs h.Spans (h.Larges.take k.1)/\cA k.1 (q9 h)=true/\k.2.length<=1048576+64*k.1) (fun k=>h.Larges.length - k.1) ((0,S)) ?_ (⟨Q0 _,by rw[hS];unfold pgs;simp,rfl,by simp only;omega⟩) fun k hk=>?_
  ·exact wB
  obtain⟨k,S2⟩:=k;obtain⟨hk,hS2,ak,hb2⟩:=hk;simp only at hk hS2 ak hb2 |-;by_cases lk:k<h.Larges.length
  ·have hx:=ah lk
   have hpg:=rz hlay hx
   repeat'(first|refine gD ?_|(conv=>whnf);first|with_reducible (first|refine Ix.nat (aa hx) ?_|refine Bf.D (fun hq=>?_) (fun hq=>?_))|refine Ix.mk (by omega) (aa (f8 (by omega) lk)) ?_)
   all_goals first
    | exact R0 (fun z=>[B z]) ((qu (ce lk (H1 (P0 (by omega))))).symm)
    |have hsort:wi h.Larges k=true:=O0 (by omega)
     (conv=>whnf)
     refine Lp.mk (ι:=Nat × List Int) (fun q=>[(1,.hold .box (ab.enc .imm h)),(3,.hold .box (aG.enc .imm (tbl h))),(4,.hold .one [I (dQ h)]),(5,.hold .one (aD .own q.2)),(7,.hold .one [I ((k:Nat):Int)]),(8,.hold .one [I ((q.1:Nat):Int)])]) (fun q=>q.1<=(nth h.Larges k).Pages.toNat/\q.2=S2++lpgs (nth h.Larges k) q.1/\cA q.1 (ve h (nth h.Larges k))=true) (fun q=>(nth h.Larges k).Pages.toNat - q.1) ((0,S2)) ?_ (⟨Q0 _,by simp[lpgs],rfl⟩) fun q hq=>?_
     ·exact wB
     obtain⟨q,S3⟩:=q;obtain⟨hq1,hS3,aq⟩:=hq;simp only at hq1 hS3 aq |-;have hl3':S3.length=S2.length+q:=by rw[hS3,P2,B4]
     by_cases lq:q<(nth h.Larges k).Pages.toNat
     ·have hfl:=fp h ((nth h.Larges k).Page+(q:Nat))
      repeat'(first|refine gD ?_|(conv=>whnf);first|with_reducible (first|refine Ix.nat (aa hx) ?_|refine Bf.N (fun hq=>?_) (fun hq=>?_))|refine Cl.mk (fj h _ hst) ?_|refine Ap.mk cq (fun r hr=>by rw[X0.1 hr];rfl) (by simp[aV,d4]) (by simp;omega) (by show _*8<=_;simp;omega) rfl ?_)
      all_goals first
       | exact R0 (fun z=>[B z]) ((qu (ce lk (HC lq (P0 (by omega))))).symm)
       | ((conv=>whnf)
          refine Nx.mk (q+1,S3++[(nth h.Larges k).Page+(q:Nat)]) ⟨(by simp only;omega),(by simp only;rw[hS3,j8,z4]),bK aq (O0 (by omega))⟩ (by simp only;omega) ?_
          (repeat'(first|exact trivial|rfl|exact And.intro rfl (And.intro (R0 (C.s dz.own) (by simp[rI])) trivial)|refine And.intro ?_ ?_)))
     ·obtain rfl:q=(nth h.Larges k).Pages.toNat:=by omega
      repeat'(first|refine gD ?_|(conv=>whnf);first|with_reducible refine Ix.nat (aa hx) ?_)
      ((conv=>whnf);refine Nx.mk (k+1,S3) ⟨(by simp only;omega),(by simp only;rw[hS3,hS2,<-nj _ hx]),bK ak (BZ hsort aq),(by simp only;omega)⟩ (by simp only;omega) ?_;(exact wB))
  ·obtain rfl:k=h.Larges.length:=by omega
   rw[X3]at hS2
   repeat'(first|refine gD ?_|fail)
   (conv=>whnf)
   refine Lp.mk (ι:=Nat) (fun q=>[(1,.hold .box (ab.enc .imm h)),(3,.hold .box (aG.enc .imm (tbl h))),(4,.hold .one [I (dQ h)]),(5,.hold .one (aD .own S2)),(10,.hold .one [I ((q:Nat):Int)])]) (fun q=>q<=S2.length/\∀ j,j<q->nth S2 j<dQ h) (fun q=>S2.length - q) (0) ?_ (⟨Q0 _,fun j hj=>by omega⟩) fun q hq=>?_
   ·exact wB
   obtain⟨hq,aq⟩:=hq;by_cases lq:q<S2.length
   ·have hx:=ah lq
    repeat'(first|refine gD ?_|(conv=>whnf);first|with_reducible (first|refine Ix.nat (aa hx) ?_|refine Bf.D (fun hq=>?_) (fun hq=>?_))|refine Rw.one rfl (aa hx) rfl ?_)
    all_goals first
     | exact R0 (fun z=>[B z]) ((Dg (by rw[<-hS2];exact am lq) (by omega)).symm)
     | ((conv=>whnf);refine Nx.mk (q+1) ⟨by omega,fun j hj=>by rcases Nat.lt_or_ge j q with h1|h1;exact aq j h1;(obtain rfl:j=q:=by omega);omega⟩ (by omega) ?_;(exact wB))
   ·have hall:∀ p∈pgs h.Spans h.Larges,p<dQ h:=fun p hp=>by
     rw[<-hS2]at hp;obtain⟨j,hj⟩:=List.mem_iff_getElem?.1 hp;have h1:=(R1.1 hj).1;have:=aq j (by omega)
     rwa [bn hj]at this
    repeat'(first|refine gD ?_|fail)
    (conv=>whnf)
    refine Lp.mk (ι:=Nat) (fun p=>[(1,.hold .box (ab.enc .imm h)),(3,.hold .box (aG.enc .imm (tbl h))),(4,.hold .one [I (dQ h)]),(5,.hold .one (aD .own S2)),(11,.hold .one [I ((p:Nat):Int)])]) (fun p=>p<=dQ h/\cA p (tl h)=true) (fun p=>dQ h - p) 0 ?_ ⟨Q0 _,rfl⟩ fun p hp=>?_
    ·exact wB
    obtain⟨hp,ap⟩:=hp;by_cases lp:p<dQ h
    ·have hx:=ah (xs:=(tbl h).Entries) lp
     have hr:=xe h.Free (p:Nat) (by omega)
     repeat'(first|refine gD ?_|(conv=>whnf);first|with_reducible (first|refine Ix.nat (aa hx) ?_|refine Bf.D (fun hq=>?_) (fun hq=>?_)|refine Bf.NB (fun hq=>?_) (fun hq=>?_))|refine Cl.eq (ly S2 _ (by omega)) ⟨⟨rfl,dG _⟩,⟨rfl,rfl⟩,trivial⟩ ?_|refine Cl.mk hr ?_|refine Bf.P (fun hq=>?_) (fun hq=>?_))
     all_goals first
      | exact R0 (fun z=>[B z]) ((Di (ce lp (by unfold tl;rw[<-hS2];grind))).symm)
      | ((conv=>whnf);refine Nx.mk (p+1) ⟨by omega,bK ap (by unfold tl;rw[<-hS2];grind)⟩ (by omega) ?_;(exact wB))
    ·repeat'(first|refine gD ?_|fail)
     obtain rfl:p=dQ h:=by omega
     exact R0 (fun z=>[B z]) ((vI ai ak hall ap).symm)
set_option maxHeartbeats 8000000
theorem AG {z1 z2:Int} (h:z1=z2):Lk (I z1) (I z2):=by subst h;rfl
theorem Fh {S:List Int} {p z:Int} : z∈ins S p↔z∈S\/z=p:=by
 unfold ins;split
 ·rename_i hp
  exact⟨.inl,fun h=>h.elim id fun e=>e ▸ hp⟩
 ·simp
theorem uW (S:List Int):(eJ S).map (·.1)=S:=by unfold eJ;rw[List.map_map];simp[I4]
theorem kN {t:aG} {p:Nat} (hp:p<t.Entries.length):ar t (p:Nat)=nth t.Entries p:=by
 unfold ar;rw[if_pos (by omega)];simp
theorem yK (h:ab) (hs1:dt h.Spans) (hs2:dq h.Larges) (hst:tB h) (hsf:gB h.Free) (hlay:bk h.Spans h.Larges=true):ao Tryz.prog 69 false [.val (some 24) (ab.enc .imm h)] .one [B (pages0 h&&m0 h)]:=by
 have hl1:=hs1.1;have hl2:=hs2.1;have hl3:dQ h<=1048576:=hst.1;have hl4:=hsf.1;have hno:pages0 h=false->[B false]=[B (pages0 h&&m0 h)]:=fun e=>by rw[e];rfl
 refine fO 177 [(4,14,[25,26,27,28,29,30,31,32,33,34,35,36,37,38]),(16,14,[60,61,62,63,64,65,66,67,68,69,70,71,72,73]),(28,18,[102,103,104,105,106,107,108,109,110,111,112,113,114,115,116,117,118,119]),(42,23,[152,153,154,155,156,157,158,159,160,161,162,163,164,165,166,167,168,169,170,171,172,173,174])] Tryz.func69 rfl ?_
 repeat'(first|refine gO ?_|fail)
 (conv=>whnf)
 refine Lp.mk (ι:=Nat) (fun i=>[(1,.hold .box (ab.enc .imm h)),(18,.hold .one (b6 .imm h.Spans)),(19,.hold .one [I (h.Spans.length)]),(20,.hold .one [I ((i:Nat):Int)])]) (fun i=>i<=h.Spans.length/\cA i (ug h.Spans)=true) (fun i=>h.Spans.length - i) 0 ?_ ⟨Q0 _,rfl⟩ fun i hi=>?_
 ·exact wB
 obtain⟨hi,ai⟩:=hi;by_cases li:i<h.Spans.length
 ·have hx:=ah li
  repeat'(first|refine gD ?_|(conv=>whnf);first|with_reducible (first|refine Ix.nat (aa hx) ?_|refine Bf.D (fun hq=>?_) (fun hq=>?_))|refine Ix.mk (by omega) (aa (f8 (by omega) li)) ?_)
  all_goals first
   |exact hno (AP (ce li (P0 (by omega))))
   | ((conv=>whnf);refine Nx.mk (i+1) ⟨by omega,bK ai (O0 (by omega))⟩ (by omega) ?_;(exact wB))
 obtain rfl:i=h.Spans.length:=by omega
 repeat'(first|refine gD ?_|fail)
 (conv=>whnf)
 refine Lp.mk (ι:=Nat × List Int) (fun i=>[(1,.hold .box (ab.enc .imm h)),(5,.hold .one [.m (eJ i.2)]),(42,.hold .one (b6 .imm h.Spans)),(43,.hold .one [I (h.Spans.length)]),(44,.hold .one [I ((i.1:Nat):Int)])]) (fun i=>i.1<=h.Spans.length/\∀ z,z∈i.2↔z∈(h.Spans.take i.1).map (·.Page)) (fun i=>h.Spans.length - i.1) ((0,[])) ?_ (⟨Q0 _,fun z=>Iff.rfl⟩) fun i hi=>?_
 ·exact wB
 obtain⟨i,S⟩:=i;obtain⟨hi2,hS⟩:=hi;simp only at hi2 hS |-;by_cases li2:i<h.Spans.length
 ·have hx:=ah li2
  repeat'(first|refine gD ?_|(conv=>whnf);first|with_reducible refine Ix.nat (aa hx) ?_|refine Mu.mk (vH S _) ?_)
  ((conv=>whnf);refine Nx.mk (i+1,ins S (nth h.Spans i).Page) ⟨(by simp only;omega),fun z=>by simp only[Fh,hS];rw[v4,hx];simp⟩ (by simp only;omega) ?_;(exact wB))
 obtain rfl:i=h.Spans.length:=by omega
 rw[X3]at hS
 repeat'(first|refine gD ?_|fail)
 (conv=>whnf)
 refine Lp.mk (ι:=Nat × List Int) (fun k=>[(1,.hold .box (ab.enc .imm h)),(5,.hold .one [.m (eJ k.2)]),(53,.hold .one (bX .imm h.Larges)),(54,.hold .one [I (h.Larges.length)]),(55,.hold .one [I ((k.1:Nat):Int)])]) (fun k=>k.1<=h.Larges.length/\(∀ z,z∈k.2↔z∈pgs h.Spans (h.Larges.take k.1))/\cA k.1 (q9 h)=true) (fun k=>h.Larges.length - k.1) ((0,S)) ?_ (⟨Q0 _,fun z=>by simp only[hS];unfold pgs;simp,rfl⟩) fun k hk=>?_
 ·exact wB
 obtain⟨k,S2⟩:=k;obtain⟨hk,hS2,ak⟩:=hk;simp only at hk hS2 ak |-;by_cases lk:k<h.Larges.length
 ·have hx:=ah lk
  have hpg:=rz hlay hx
  repeat'(first|refine gD ?_|(conv=>whnf);first|with_reducible (first|refine Ix.nat (aa hx) ?_|refine Bf.D (fun hq=>?_) (fun hq=>?_))|refine Ix.mk (by omega) (aa (f8 (by omega) lk)) ?_)
  all_goals first
   |exact hno (qu (ce lk (H1 (P0 (by omega)))))
   |have hsort:wi h.Larges k=true:=O0 (by omega)
    (conv=>whnf)
    refine Lp.mk (ι:=Nat × List Int) (fun q=>[(1,.hold .box (ab.enc .imm h)),(5,.hold .one [.m (eJ q.2)]),(9,.hold .box (a8.enc .imm (nth h.Larges k))),(10,.hold .one [I ((nth h.Larges k).Page+(q.1:Nat))]),(53,.hold .one (bX .imm h.Larges)),(54,.hold .one [I (h.Larges.length)]),(55,.hold .one [I ((k:Nat):Int)])]) (fun q=>q.1<=(nth h.Larges k).Pages.toNat/\(∀ z,z∈q.2↔z∈S2++lpgs (nth h.Larges k) q.1)/\cA q.1 (ve h (nth h.Larges k))=true) (fun q=>(nth h.Larges k).Pages.toNat - q.1) ((0,S2)) ?_ (⟨Q0 _,fun z=>by simp[lpgs],rfl⟩) fun q hq=>?_
    ·exact wB
    obtain⟨q,S3⟩:=q;obtain⟨hq1,hS3,aq⟩:=hq;simp only at hq1 hS3 aq |-;by_cases lq:q<(nth h.Larges k).Pages.toNat
    ·have hfl:=fp h ((nth h.Larges k).Page+(q:Nat))
     repeat'(first|refine gD ?_|(conv=>whnf);first|with_reducible refine Bf.N (fun hq=>?_) (fun hq=>?_)|refine Cl.mk (mw h _ hst) ?_|refine Mu.mk (vH S3 _) ?_)
     all_goals first
      |exact hno (qu (ce lk (HC lq (P0 (by omega)))))
      | ((conv=>whnf)
         refine Nx.mk (q+1,ins S3 ((nth h.Larges k).Page+(q:Nat))) ⟨(by simp only;omega),fun z=>by simp only[Fh,hS3];rw[j8];simp[or_assoc],bK aq (O0 (by omega))⟩ (by simp only;omega) ?_
         (repeat'(first|exact trivial|rfl|refine And.intro ?_ ?_|exact AG (by simp;omega))))
    ·obtain rfl:q=(nth h.Larges k).Pages.toNat:=by omega
     repeat'(first|refine gD ?_|fail)
     ((conv=>whnf);refine Nx.mk (k+1,S3) ⟨(by simp only;omega),(fun z=>by simp only[hS3];rw[nj _ hx];simp[hS2]),bK ak (BZ hsort aq)⟩ (by simp only;omega) ?_;(exact wB))
 obtain rfl:k=h.Larges.length:=by omega
 rw[X3]at hS2
 repeat'(first|refine gD ?_|fail)
 (conv=>whnf)
 refine Lp.mk (ι:=Nat) (fun p=>[(1,.hold .box (ab.enc .imm h)),(5,.hold .one [.m (eJ S2)]),(98,.hold .one [I (dQ h)]),(99,.hold .one [I ((p:Nat):Int)])]) (fun p=>p<=dQ h/\cA p (tl h)=true) (fun p=>dQ h - p) 0 ?_ ⟨Q0 _,rfl⟩ fun p hp=>?_
 ·exact wB
 obtain⟨hp,ap⟩:=hp;by_cases lp:p<dQ h
 ·have hr:=wQ h.Free (p:Nat) (by omega)
  have hm:=Dt h.Kernel (p:Nat) hst;rw[kN lp]at hm
  repeat'(first|refine gD ?_|(conv=>whnf);first|with_reducible (first|refine Bf.D (fun hq=>?_) (fun hq=>?_)|refine Bf.NB (fun hq=>?_) (fun hq=>?_))|refine Cl.mk hm ?_|refine Ml.mk (lL (p:Nat) S2) ?_|refine Cl.mk hr ?_|refine Bf.P (fun hq=>?_) (fun hq=>?_))
  all_goals first
   |exact hno (Di (ce lp (by unfold tl tbl;have:=hS2 (p:Nat);grind)))
   | ((conv=>whnf);refine Nx.mk (p+1) ⟨by omega,bK ap (by unfold tl tbl;have:=hS2 (p:Nat);grind)⟩ (by omega) ?_;(exact wB))
 obtain rfl:p=dQ h:=by omega
 repeat'(first|refine gD ?_|fail)
 have hpn:dQ h=h.Kernel.Machine.Table.Entries.length:=rfl
 (conv=>whnf)
 refine Lp.mk (ι:=Option Int × List Int) (fun t=>[(1,.hold .box (ab.enc .imm h)),(122,.hold .one [.it t.1 t.2])]) (fun t=>(∀ z∈S2,z∈t.2\/z<dQ h)/\∀ z∈t.2,z∈S2) (fun t=>t.2.length) ((none,(eJ S2).map (·.1))) ?_ (⟨fun z hz=>.inl (by rw[uW];exact hz),fun z hz=>by rw[uW]at hz;exact hz⟩) fun t ht=>?_
 ·exact wB
 obtain⟨cur,left⟩:=t;obtain⟨ht1,ht2⟩:=ht;simp only at ht1 ht2 |-
 repeat'(first|refine gO ?_|(conv=>whnf);first|with_reducible refine Bf.D (fun hq=>?_) (fun hq=>?_)|refine Nt.mk (fun hq=>?_) (fun l1 k l2 hq=>?_))
 rotate_left
 ·exact hno (Dg (p:=k) ((hS2 k).1 (ht2 k (by subst left;simp))) (by omega))
 ·((conv=>whnf);refine Nx.mk (some k,l1++l2) ⟨fun z hz=>by have h1:=ht1 z hz;subst left;simp only[C2,List.mem_cons]at h1 |-;rcases h1 with(h1|h1|h1)|h1;exact .inl (.inl h1);(subst h1;exact .inr (by omega));exact .inl (.inr h1);exact .inr h1,fun z hz=>ht2 z (by subst left;simp only[C2,List.mem_cons]at hz |-;grind)⟩ (by subst left;simp) ?_;(exact wB))
 have hall:∀ p∈pgs h.Spans h.Larges,p<dQ h:=fun p hp=>by
  have h1:=ht1 p ((hS2 p).2 hp);subst left;simpa using h1
 have h0:pages0 h=true:=vI ai ak hall ap;rw[h0,Bool.true_and]
 (conv=>whnf)
 refine Lp.mk (ι:=Nat) (fun i=>[(1,.hold .box (ab.enc .imm h)),(136,.hold .one (b6 .imm h.Spans)),(137,.hold .one [I (h.Spans.length)]),(138,.hold .one [I ((i:Nat):Int)])]) (fun i=>i<=h.Spans.length/\cA i (fun i=>cA i (jI h i))=true) (fun i=>h.Spans.length - i) 0 ?_ ⟨Q0 _,rfl⟩ fun i hi=>?_
 ·exact wB
 obtain⟨hi,ai⟩:=hi;by_cases li:i<h.Spans.length
 ·have hx:=ah li
  have htl:(h.Spans.take i).length=i:=by rw[C1];omega
  repeat'(first|refine gD ?_|(conv=>whnf);first|with_reducible refine Ix.nat (aa hx) ?_|refine Sl.pre i rfl (by simp;omega) (fun r hr=>by obtain⟨z,-,rfl⟩:=O3.1 hr;rfl) (C3 ..) ?_)
  (conv=>whnf)
  refine Lp.mk (ι:=Nat) (fun j=>[(1,.hold .box (ab.enc .imm h)),(14,.hold .box (au.enc .imm (nth h.Spans i))),(136,.hold .one (b6 .imm h.Spans)),(137,.hold .one [I (h.Spans.length)]),(138,.hold .one [I ((i:Nat):Int)]),(146,.hold .one (b6 .imm (h.Spans.take i))),(147,.hold .one [I ((h.Spans.take i).length)]),(148,.hold .one [I ((j:Nat):Int)])]) (fun j=>j<=(h.Spans.take i).length/\cA j (jI h i)=true) (fun j=>(h.Spans.take i).length - j) 0 ?_ ⟨Q0 _,rfl⟩ fun j hj=>?_
  ·exact wB
  obtain⟨hj,aj⟩:=hj;by_cases lj:j<(h.Spans.take i).length
  ·have hy:=ah lj
   have he:nth (h.Spans.take i) j=nth h.Spans j:=bn (by rw[List.getElem?_take_of_lt (by omega)];exact ah (by omega));rw[he]at hy;have hm:=kH (nth h.Spans i) (nth h.Spans j);cases em:meshable (nth h.Spans i) (nth h.Spans j)<;>rw[em]at hm
   all_goals
    repeat'(first|refine gD ?_|(conv=>whnf);first|with_reducible (first|refine Ix.nat (aa hy) ?_|refine Bf.E (fun hq=>?_) (fun hq=>?_))|refine Cl.mk (jO (tbl h) _ hst) ?_|refine Cl.mk hm ?_)
    all_goals first
     | exact R0 (fun z=>[B z]) ((by symm;exact ce li (ce (i:=j) (by omega) (by unfold jI;rw[em];grind))))
     | ((conv=>whnf);refine Nx.mk (j+1) ⟨by omega,bK aj (by unfold jI;rw[em];grind)⟩ (by omega) ?_;(exact wB))
  ·obtain rfl:j=(h.Spans.take i).length:=by omega
   rw[htl]at aj
   repeat'(first|refine gD ?_|fail)
   ((conv=>whnf);refine Nx.mk (i+1) ⟨by omega,bK ai aj⟩ (by omega) ?_;(exact wB))
 obtain rfl:i=h.Spans.length:=by omega
 repeat'(first|refine gD ?_|fail)
 exact R0 (fun z=>[B z]) ((by unfold m0;rw[ai]))
set_option maxHeartbeats 8000000
theorem ng {α:Type} [Inhabited α] (pr:α->Bool) (xs:List α):du pr xs = -1\/∃ n,n<xs.length/\du pr xs=(n:Nat)/\pr (nth xs n)=true:=by
 unfold du;cases h:xs.findIdx? pr with
 | none=>exact .inl rfl
 | some i=>
  obtain⟨hi,hp,-⟩:=Z4.1 h;exact .inr ⟨i,hi,rfl,by rw[bn (Q1 hi)];exact hp⟩
theorem A7 {h:ab} {i k:Nat} (hi:i<h.Spans.length) (hk:k<(aP h (nth h.Spans i).Page).length) (hm:kC h i (nth (aP h (nth h.Spans i).Page) k)=false):sT h=false:=by
 unfold sT;exact ce hi (dU (ah hk) hm)
theorem Aj (h:ab) (hs1:dt h.Spans) (hst:tB h):ao Tryz.prog 205 false [.val (some 24) (ab.enc .imm h)] .one [B (sT h)]:=by
 have hl1:=hs1.1;have hl3:dQ h<=1048576:=hst.1;refine fO 55 [(4,8,[14,15,16,17,18,19,20,21]),(8,6,[28,29,30,31,32,33]),(9,21,[34,35,36,37,38,39,40,41,42,43,44,45,46,47,48,49,50,51,52,53,54])] Tryz.func205 rfl ?_
 repeat'(first|refine gO ?_|fail)
 (conv=>whnf)
 refine Lp.mk (ι:=Nat) (fun i=>[(1,.hold .box (ab.enc .imm h)),(3,.hold .one [I ((i:Nat):Int)])]) (fun i=>i<=h.Spans.length/\cA i (fun i=>(aP h (nth h.Spans i).Page).all (kC h i))=true) (fun i=>h.Spans.length - i) 0 ?_ ⟨Q0 _,rfl⟩ fun i hi=>?_
 ·exact wB
 obtain⟨hi,ai⟩:=hi;by_cases li:i<h.Spans.length
 ·have hx:=ah li
  have hfl:=fp h (nth h.Spans i).Page
  repeat'(first|refine gD ?_|(conv=>whnf);first|with_reducible refine Ix.nat (aa hx) ?_|refine Cl.mk (fj h _ hst) ?_)
  (conv=>whnf)
  refine Lp.mk (ι:=Nat) (fun k=>[(1,.hold .box (ab.enc .imm h)),(3,.hold .one [I ((i:Nat):Int)]),(4,.hold .one (aD .own (aP h (nth h.Spans i).Page))),(5,.hold .one [I ((k:Nat):Int)])]) (fun k=>k<=(aP h (nth h.Spans i).Page).length/\((aP h (nth h.Spans i).Page).take k).all (kC h i)=true) (fun k=>(aP h (nth h.Spans i).Page).length - k) (0) ?_ (⟨Q0 _,rfl⟩) fun k hk=>?_
  ·exact wB
  obtain⟨hk,ak⟩:=hk;by_cases lk:k<(aP h (nth h.Spans i).Page).length
  ·have hy:=ah lk
   have hso:=fU h (nth (aP h (nth h.Spans i).Page) k) hl1;rcases ng (jb (nth (aP h (nth h.Spans i).Page) k)) h.Spans with hc|⟨n,hn,hc,-⟩
   ·rw[show er h (nth (aP h (nth h.Spans i).Page) k) = -1 from hc]at hso
    have hmz:kC h i (nth (aP h (nth h.Spans i).Page) k)=false:=by
     unfold kC;rw[show er h (nth (aP h (nth h.Spans i).Page) k) = -1 from hc,P0 (by omega),P0 (by omega)];rfl
    repeat'(first|refine gD ?_|(conv=>whnf);first|with_reducible (first|refine Ix.nat (aa hx) ?_|refine Ix.nat (aa hy) ?_|refine Bf.D (fun hq=>?_) (fun hq=>?_)|refine Bf.N (fun hq=>?_) (fun hq=>?_))|refine Rw.one rfl (aa hy) rfl ?_|refine Cl.mk hso ?_)
    all_goals first
     | exact R0 (fun z=>[B z]) ((A7 li lk hmz).symm)
     |(exfalso;omega)
   ·rw[show er h (nth (aP h (nth h.Spans i).Page) k)=(n:Nat) from hc]at hso
    have hz:=ah hn;have hm:=iB (nth h.Spans i) (nth h.Spans n);have hma:kC h i (nth (aP h (nth h.Spans i).Page) k)=(decide ((n:Int)=(i:Nat)) || meshable (nth h.Spans i) (nth h.Spans n)):=by
     unfold kC;rw[show er h (nth (aP h (nth h.Spans i).Page) k)=(n:Nat) from hc,O0 (p:=(0:Int)<=(n:Nat)) (by omega)];simp
    cases em:meshable (nth h.Spans i) (nth h.Spans n)<;>rw[em]at hm
    all_goals
     repeat'(first|refine gD ?_|(conv=>whnf);first|with_reducible (first|refine Ix.nat (aa hx) ?_|refine Ix.nat (aa hz) ?_|refine Ix.nat (aa hy) ?_|refine Bf.D (fun hq=>?_) (fun hq=>?_)|refine Bf.N (fun hq=>?_) (fun hq=>?_))|refine Rw.one rfl (aa hy) rfl ?_|refine Cl.mk hso ?_|refine Cl.mk hm ?_)
     all_goals first
      | exact R0 (fun z=>[B z]) ((A7 li lk (by rw[hma,em];grind)).symm)
      | ((conv=>whnf);refine Nx.mk (k+1) ⟨by omega,cy hy ak (by rw[hma,em];grind)⟩ (by omega) ?_;(exact wB))
      |(exfalso;omega)
  ·repeat'(first|refine gD ?_|fail)
   ((conv=>whnf);refine Nx.mk (i+1) ⟨by omega,bK ai (gg (by omega) ak)⟩ (by omega) ?_;(exact wB))
 ·obtain rfl:i=h.Spans.length:=by omega
  repeat'(first|refine gD ?_|fail)
  exact R0 (fun z=>[B z]) ((by unfold sT;rw[ai]))
theorem Gz (j:cj) (hs:cj.sml j):ao Tryz.prog 211 false [.val (some 5) (cj.enc .imm j)] .one [B (qC j)]:=by
 have hl:j.Plan.Cells.length<=1048576:=hs;refine fO 30 [] Tryz.func211 rfl ?_
 repeat'(first|refine gO ?_|(conv=>whnf);first|with_reducible (first|refine Bf.E (fun hq=>?_) (fun hq=>?_)|refine Bf.D (fun hq=>?_) (fun hq=>?_)))
 all_goals exact R0 (fun z=>[B z]) ((by unfold qC;first|(symm;exact P0 (by omega))|(rw[U3,beq_iff_eq,C0];omega)))
theorem lI (sp:List au) (la:List a8) (a:Int):((denotes sp la a).Kind=1->0<=(denotes sp la a).Index/\(denotes sp la a).Index.toNat<sp.length)/\((denotes sp la a).Kind=3->0<=(denotes sp la a).Index/\(denotes sp la a).Index.toNat<la.length):=by
 unfold denotes;cases h1:sp.findIdx? (cw · a) with
 | some i=>
  obtain⟨hi,-⟩:=Z4.1 h1;simp only[ov];refine⟨fun _=>⟨by omega,by simpa using hi⟩,fun e=>?_⟩;split at e<;>cases e
 | none=>
  cases h2:la.findIdx? (bw · a) with
  | some i=>
   obtain⟨hi,-⟩:=Z4.1 h2;exact⟨fun e=>(by cases e),fun _=>⟨by simp,by simpa using hi⟩⟩
  | none=>exact⟨fun e=>(by cases e),fun e=>(by cases e)⟩
theorem EB (h:ab) (a c:Int) (hs1:dt h.Spans) (hs2:dq h.Larges) (hlay:bk h.Spans h.Larges=true) (hw:l9 a):ao Tryz.prog 276 false [.val (some 24) (ab.enc .imm h),.val none [I a],.val none [I c]] .one [B (cV h a c)]:=by
 have hd:=lK h.Spans h.Larges a hs1 hs2 hlay hw;obtain⟨i1,-⟩:=lI h.Spans h.Larges a;unfold cV;generalize denotes h.Spans h.Larges a=w at hd i1 |-;refine fO 37 [] Tryz.func276 rfl ?_
 repeat'(first|refine gO ?_|(conv=>whnf);first|with_reducible (first|refine Bf.D (fun hq=>?_) (fun hq=>?_)|refine Bf.E (fun hq=>?_) (fun hq=>?_))|refine Cl.mk hd ?_|refine Ix.mk (i1 (by assumption)).1 (aa (ah (i1 (by assumption)).2)) ?_)
 all_goals exact R0 (fun z=>[B z]) ((by grind))
theorem xK (h:ab) (o:bJ) (w:i7) (hw:denotes h.Spans h.Larges o.Addr=w):jv h o=(decide (w.Offset=0)&&((decide (w.Kind=1)&&decide ((nth h.Spans w.Index.toNat).Class=aO o.Size)) || (decide (w.Kind=3)&&decide ((nth h.Larges w.Index.toNat).Size=o.Size)))):=by
 unfold jv;rw[hw]
theorem iz {h:ab} {i:Nat} (hi:i<h.Objs.length) (ho:objAt (IntKind.i64.wrap (h.Next - 1)) h i=false):eS h=false:=ce hi ho
theorem FK {nx:Int} {h:ab} {i:Nat} (h1:gy nx h i=false):objAt nx h i=false:=by unfold objAt;rw[h1];rfl
theorem EZ {nx:Int} {h:ab} {i:Nat} (h1:(h.Objs.take i).any (jU (nth h.Objs i).Id)=true):objAt nx h i=false:=by unfold objAt;rw[h1];simp
theorem FH {nx:Int} {h:ab} {i:Nat} (h1:jv h (nth h.Objs i)=false):objAt nx h i=false:=by unfold objAt;rw[h1];simp
theorem xW {nx:Int} {h:ab} {i:Nat} (h1:gy nx h i=true) (h2:(h.Objs.take i).any (jU (nth h.Objs i).Id)=false) (h3:jv h (nth h.Objs i)=true):objAt nx h i=true:=by unfold objAt;rw[h1,h2,h3];rfl
theorem DG (h:ab) (hs1:dt h.Spans) (hs2:dq h.Larges) (hlay:bk h.Spans h.Larges=true) (hl:h.Objs.length<=1048576) (hc:h.Caches.length<=1048576) (hw:∀ o∈h.Objs,l9 o.Addr):ao Tryz.prog 209 false [.val (some 24) (ab.enc .imm h)] .one [B (eS h)]:=by
 refine fO 117 [(5,33,[21,22,23,24,25,26,27,28,29,30,31,32,33,34,35,36,37,38,39,40,41,42,43,44,45,46,47,48,49,50,51,52,53]),(10,9,[59,60,61,62,63,64,65,66,67]),(13,16,[75,76,77,78,79,80,81,82,83,84,85,86,87,88,89,90]),(14,15,[91,92,93,94,95,96,97,98,99,100,101,102,103,104,105])] Tryz.func209 rfl ?_
 repeat'(first|refine gO ?_|fail)
 (conv=>whnf)
 refine Lp.mk (ι:=Nat) (fun i=>[(1,.hold .box (ab.enc .imm h)),(3,.hold .one [I ((i:Nat):Int)])]) (fun i=>i<=h.Objs.length/\cA i (objAt (IntKind.i64.wrap (h.Next - 1)) h)=true) (fun i=>h.Objs.length - i) 0 ?_ ⟨Q0 _,rfl⟩ fun i hi=>?_
 ·exact wB
 obtain⟨hi,ai⟩:=hi;by_cases li:i<h.Objs.length
 ·have hx:=ah li
  have hd:=lK h.Spans h.Larges (nth h.Objs i).Addr hs1 hs2 hlay (hw _ (am li));obtain⟨i1,i3⟩:=lI h.Spans h.Larges (nth h.Objs i).Addr;have hown:=xK h (nth h.Objs i) _ rfl;generalize denotes h.Spans h.Larges (nth h.Objs i).Addr=w at hd i1 i3 hown;by_cases hnum:gy (IntKind.i64.wrap (h.Next - 1)) h i=true
  ·have hnum':=hnum
   unfold gy at hnum';rw[C0]at hnum'
   repeat'(first|refine gD ?_|(conv=>whnf);first|with_reducible (first|refine Ix.nat (aa hx) ?_|refine Bf.D (fun hq=>?_) (fun hq=>?_))|refine Ix.mk (by omega) (aa (f8 (by omega) li)) ?_|refine Cl.mk (aE _ _ _) ?_|refine Wr.mk rfl ?_)
   all_goals
    (conv=>whnf)
    refine Lp.mk (ι:=Nat) (fun k=>[(1,.hold .box (ab.enc .imm h)),(3,.hold .one [I ((i:Nat):Int)]),(4,.hold .box (bJ.enc .imm (nth h.Objs i))),(5,.hold .one [I ((k:Nat):Int)])]) (fun k=>k<=i/\(h.Objs.take k).any (jU (nth h.Objs i).Id)=false) (fun k=>i - k) (0) ?_ (⟨Q0 _,rfl⟩) fun k hk=>?_
    ·exact wB
    obtain⟨hk,ak⟩:=hk;by_cases lk:k<i
    ·have hy:=ah (xs:=h.Objs) (i:=k) (by omega)
     repeat'(first|refine gD ?_|(conv=>whnf);first|with_reducible (first|refine Ix.nat (aa hy) ?_|refine Bf.E (fun hq=>?_) (fun hq=>?_)))
     all_goals first
      | exact R0 (fun z=>[B z]) ((iz li (EZ (zd (i:=k) (by rw[List.getElem?_take_of_lt lk];exact hy) (O0 (by assumption))))).symm)
      | ((conv=>whnf);refine Nx.mk (k+1) ⟨by omega,vS hy ak (P0 (by assumption))⟩ (by omega) ?_;(exact wB))
    ·obtain rfl:k=i:=by omega
     repeat'(first|refine gD ?_|(conv=>whnf);first|with_reducible (first|refine Bf.D (fun hq=>?_) (fun hq=>?_)|refine Bf.E (fun hq=>?_) (fun hq=>?_)|refine Bf.N (fun hq=>?_) (fun hq=>?_))|refine Cl.mk hd ?_|refine Ix.mk (i1 (by assumption)).1 (aa (ah (i1 (by assumption)).2)) ?_|refine Ix.mk (i3 (by assumption)).1 (aa (ah (i3 (by assumption)).2)) ?_|refine Cl.mk (jg _) ?_)
     all_goals first
      | exact R0 (fun z=>[B z]) ((iz li (FH (by rw[hown];grind))).symm)
      | ((conv=>whnf);refine Nx.mk (k+1) ⟨by omega,bK ai (xW hnum ak (by rw[hown];grind))⟩ (by omega) ?_;(exact wB))
      |(exfalso;omega)
  ·have hn2:gy (IntKind.i64.wrap (h.Next - 1)) h i=false:=by simpa using hnum
   have hnum':=hn2;unfold gy at hnum';rw[T3]at hnum'
   repeat'(first|refine gD ?_|(conv=>whnf);first|with_reducible (first|refine Ix.nat (aa hx) ?_|refine Bf.D (fun hq=>?_) (fun hq=>?_))|refine Ix.mk (by omega) (aa (f8 (by omega) li)) ?_|refine Cl.mk (aE _ _ _) ?_|refine Wr.mk rfl ?_)
   all_goals first
    | exact R0 (fun z=>[B z]) ((iz li (FK hn2)).symm)
    |(exfalso;omega)
 ·obtain rfl:i=h.Objs.length:=by omega
  repeat'(first|refine gD ?_|fail)
  exact R0 (fun z=>[B z]) ((show true=eS h from ai.symm))
theorem oe (o o0:bJ):ao Tryz.prog 169 false [.val (some 4) (bJ.enc .imm o),.ptr (bJ.enc .imm o0)] .one [B (jU o0.Id o)]:=by
 refine fO 9 [] Tryz.func169 rfl ?_
 repeat'(first|refine gO ?_|fail)
 exact R0 (fun z=>[B z]) ((by unfold jU;rw[U3];simp))
theorem BD (h:ab) (hs1:dt h.Spans) (hs2:dq h.Larges) (hl:h.Objs.length<=1048576) (hc:h.Caches.length<=1048576):ao Tryz.prog 73 false [.val (some 24) (ab.enc .imm h)] .one [B (eS h)]:=by
 refine fO 105 [(4,33,[16,17,18,19,20,21,22,23,24,25,26,27,28,29,30,31,32,33,34,35,36,37,38,39,40,41,42,43,44,45,46,47,48]),(9,16,[62,63,64,65,66,67,68,69,70,71,72,73,74,75,76,77]),(10,15,[78,79,80,81,82,83,84,85,86,87,88,89,90,91,92])] Tryz.func73 rfl ?_
 repeat'(first|refine gO ?_|fail)
 (conv=>whnf)
 refine Lp.mk (ι:=Nat) (fun i=>[(1,.hold .box (ab.enc .imm h)),(9,.hold .one (nz .imm h.Objs)),(10,.hold .one [I (h.Objs.length)]),(11,.hold .one [I ((i:Nat):Int)])]) (fun i=>i<=h.Objs.length/\cA i (objAt (IntKind.i64.wrap (h.Next - 1)) h)=true) (fun i=>h.Objs.length - i) 0 ?_ ⟨Q0 _,rfl⟩ fun i hi=>?_
 ·exact wB
 obtain⟨hi,ai⟩:=hi;by_cases li:i<h.Objs.length
 ·have hx:=ah li
  have hd:=qi h.Spans h.Larges (nth h.Objs i).Addr hs1 hs2;obtain⟨i1,i3⟩:=lI h.Spans h.Larges (nth h.Objs i).Addr;have hown:=xK h (nth h.Objs i) _ rfl;generalize denotes h.Spans h.Larges (nth h.Objs i).Addr=w at hd i1 i3 hown;have hcf:=r7 (h.Objs.take i) (jU (nth h.Objs i).Id) (by rw[C1];omega);by_cases hnum:gy (IntKind.i64.wrap (h.Next - 1)) h i=true
  ·have hnum':=hnum
   unfold gy at hnum';rw[C0]at hnum';cases hany:(h.Objs.take i).any (jU (nth h.Objs i).Id)<;>rw[hany]at hcf
   ·repeat'(first|refine gD ?_|(conv=>whnf);first|with_reducible (first|refine Ix.nat (aa hx) ?_|refine Bf.D (fun hq=>?_) (fun hq=>?_)|refine Bf.E (fun hq=>?_) (fun hq=>?_)|refine Bf.N (fun hq=>?_) (fun hq=>?_))|refine Ix.mk (by omega) (aa (f8 (by omega) li)) ?_|refine Cl.mk (aJ _ _ _) ?_|refine Sl.pre i rfl (by simp;omega) (fun r hr=>by obtain⟨z,-,rfl⟩:=O3.1 hr;rfl) (C3 ..) ?_|refine Cq.mk (y4 (some 4) (bJ.enc .imm) (jU (nth h.Objs i).Id) (h.Objs.take i)) (oe default (nth h.Objs i)).has (fun L k rcs hQ=>by obtain⟨y,-,rfl,rfl,rfl⟩:=hQ;exact oe y (nth h.Objs i)) ?_|refine Cl.mk hcf ?_|refine Cl.mk hd ?_|refine Ix.mk (i1 (by assumption)).1 (aa (ah (i1 (by assumption)).2)) ?_|refine Ix.mk (i3 (by assumption)).1 (aa (ah (i3 (by assumption)).2)) ?_|refine Cl.mk (yR _) ?_|refine Wr.mk rfl ?_)
    all_goals first
     | exact R0 (fun z=>[B z]) ((iz li (FH (by rw[hown];grind))).symm)
     | ((conv=>whnf);refine Nx.mk (i+1) ⟨by omega,bK ai (xW hnum hany (by rw[hown];grind))⟩ (by omega) ?_;(exact wB))
     |(exfalso;omega)
   ·repeat'(first|refine gD ?_|(conv=>whnf);first|with_reducible (first|refine Ix.nat (aa hx) ?_|refine Bf.D (fun hq=>?_) (fun hq=>?_))|refine Ix.mk (by omega) (aa (f8 (by omega) li)) ?_|refine Cl.mk (aJ _ _ _) ?_|refine Sl.pre i rfl (by simp;omega) (fun r hr=>by obtain⟨z,-,rfl⟩:=O3.1 hr;rfl) (C3 ..) ?_|refine Cq.mk (y4 (some 4) (bJ.enc .imm) (jU (nth h.Objs i).Id) (h.Objs.take i)) (oe default (nth h.Objs i)).has (fun L k rcs hQ=>by obtain⟨y,-,rfl,rfl,rfl⟩:=hQ;exact oe y (nth h.Objs i)) ?_|refine Cl.mk hcf ?_|refine Wr.mk rfl ?_)
    all_goals first
     | exact R0 (fun z=>[B z]) ((iz li (EZ hany)).symm)
     |(exfalso;omega)
  ·have hn2:gy (IntKind.i64.wrap (h.Next - 1)) h i=false:=by simpa using hnum
   have hnum':=hn2;unfold gy at hnum';rw[T3]at hnum'
   repeat'(first|refine gD ?_|(conv=>whnf);first|with_reducible (first|refine Ix.nat (aa hx) ?_|refine Bf.D (fun hq=>?_) (fun hq=>?_))|refine Ix.mk (by omega) (aa (f8 (by omega) li)) ?_|refine Cl.mk (aJ _ _ _) ?_|refine Wr.mk rfl ?_)
   all_goals first
    | exact R0 (fun z=>[B z]) ((iz li (FK hn2)).symm)
    |(exfalso;omega)
 ·obtain rfl:i=h.Objs.length:=by omega
  repeat'(first|refine gD ?_|fail)
  exact R0 (fun z=>[B z]) ((show true=eS h from ai.symm))
set_option maxHeartbeats 8000000
theorem Hi {sp:List au} {la:List a8} {n:Nat} (h:iZ sp la n=true):ke sp la (n+1)=ke sp la n++[(n:Int)]:=by
 unfold ke;rw[List.range_succ,List.filter_append,C4];simp[h]
theorem Jz {sp:List au} {la:List a8} {n:Nat} (h:iZ sp la n=false):ke sp la (n+1)=ke sp la n:=by
 unfold ke;rw[List.range_succ,List.filter_append,C4];simp[h]
theorem xZ (sp:List au) (la:List a8) (n:Nat):(ke sp la n).length<=n:=by
 unfold ke;rw[U0];exact V3 (List.length_filter_le ..) (by simp)
theorem q7 {sp:List au} {la:List a8} {n:Nat} {w:i7} (hw:denotes sp la (n:Nat)=w):iZ sp la n=(decide (w.Offset=0)&&(decide (w.Kind=1) || decide (w.Kind=3))):=by
 unfold iZ;rw[hw]
theorem KK {n:Nat} (h:n<=1048576):l9 (n:Nat):=⟨by omega,by omega⟩
theorem vP (sp:List au) (la:List a8) (hs1:dt sp) (hs2:dq la) (hlay:bk sp la=true):ao Tryz.prog 278 false [.val none (b6 .imm sp),.val none (bX .imm la)] .one (aD .own (hJ sp la)):=by
 have h0:=kA sp la hs1 hs2;rw[hlay]at h0;refine fO 40 [] Tryz.func278 rfl ?_ (.inr (bF _))
 repeat'(first|refine gO ?_|fail)
 (conv=>whnf)
 refine Lp.mk (ι:=Nat) (fun n=>[(0,.hold .one (b6 .imm sp)),(1,.hold .one (bX .imm la)),(5,.hold .one (aD .own (ke sp la n))),(6,.hold .one [I ((n:Nat):Int)])]) (fun n=>n<=512) (fun n=>512 - n) (0) ?_ (Q0 _) fun n hn=>?_
 ·exact wB
 have hll:=xZ sp la n;by_cases ln:n<512
 ·have hd:=lK sp la (n:Nat) hs1 hs2 hlay (KK (by omega))
  generalize hw:denotes sp la (n:Nat)=w at hd;have hlw:=q7 hw
  repeat'(first|refine gD ?_|(conv=>whnf);first|with_reducible refine Bf.E (fun hq=>?_) (fun hq=>?_)|refine Cl.mk h0 ?_|refine Cl.mk hd ?_|refine Ap.mk cq (fun r hr=>by rw[X0.1 hr];rfl) (by simp[aV,d4]) (by simp;omega) (by simp only[U0];exact wI (by simp;omega) (by decide)) rfl ?_)
  all_goals first
   |(have hon:iZ sp la n=true:=by rw[hlw];grind
     (conv=>whnf)
     refine Nx.mk (n+1) (by omega) (by omega) ?_;rw[Hi hon]
     (repeat'(first|exact trivial|rfl|exact And.intro rfl (And.intro (R0 (C.s dz.own) (by simp[rI])) trivial)|refine And.intro ?_ ?_)))
   |(have hon:iZ sp la n=false:=by rw[hlw];grind
     (conv=>whnf)
     refine Nx.mk (n+1) (by omega) (by omega) ?_;rw[Jz hon]
     (exact wA))
 ·obtain rfl:n=512:=by omega
  repeat'(first|refine gD ?_|(conv=>whnf);first|refine Cl.mk h0 ?_)
  rfl
theorem vO (m:aH) (hi:m.Inbox.length=m.Buffers.length):∀ i,i<=m.Buffers.length->(((flight1 m i).length+(flight2 m i).length:Nat):Int)=bp m i
 | 0,_=>rfl
 | i+1,h=>by
  have ih:=vO m hi i (by omega);have h1:=ah (xs:=m.Buffers) (i:=i) (by omega);have h2:=ah (xs:=m.Inbox) (i:=i) (by omega);rw[lB h1,lJ h2];simp only[P2,U0];show _=bp m i+((nth m.Buffers i).length+(nth m.Inbox i).length);omega
theorem pM {m:aH} (h:bD m=true):(aK m).length<=30:=by
 have hf:=lG h;have h1:=vO m hf.2.2 m.Buffers.length (I2 _);have h2:bp m m.Buffers.length<=30:=by
  unfold bD at h;simp only[I0,C0]at h;exact h.2
 rw[mK h,P2,hf.2.2];omega
theorem BU {m:aH} (hw:aH.wf m):∀ a∈aK m,l9 a:=by
 intro a ha;unfold aK at ha;split at ha
 ·rcases C2.1 ha with h|h
  ·obtain⟨l,hl,h⟩:=List.mem_flatMap.1 h
   obtain⟨p,hp,rfl⟩:=O3.1 h;exact((hw.1.2 l hl).2 p hp).2
  ·obtain⟨l,hl,h⟩:=List.mem_flatten.1 h
   exact(hw.2.2 l hl).2 a h
 ·cases ha
theorem GN {h:ab} (h1:h.Caches.all (dX h)=false):ia h=false:=by unfold ia gw;rw[h1];rfl
theorem Hp {h:ab} (h1:h.Quar.Lst.all (gp h)=false):ia h=false:=by unfold ia gw;rw[h1];simp
theorem G3 {h:ab} (h1:(aK h.Mail).all (ju h)=false):ia h=false:=by unfold ia gw;rw[h1];simp
theorem GR {h:ab} {i:Nat} (hi:i<(holders h).length) (hd:nth (holders h) i∈(holders h).take i):ia h=false:=by
 have h1:decide (holders h).Nodup=false:=J2 (S:=(holders h).take i) (p:=nth (holders h) i) (by
   have:=ah hi;have e:(holders h).take i++[nth (holders h) i]=(holders h).take (i+1):=by rw[v4,this];rfl
   rw[e];exact List.take_prefix ..) hd
 unfold ia;rw[h1];simp
theorem su {h:ab} {i:Nat} {c:aB} (hx:h.Caches[i]? = some c):((h.Caches.take (i+1)).flatMap fun c=>c.Lists.flatten)=((h.Caches.take i).flatMap fun c=>c.Lists.flatten)++c.Lists.flatten:=by
 rw[v4,hx,List.flatMap_append];simp
theorem wm {c:aB} {k:Nat} {l:List Int} (hx:c.Lists[k]? = some l):(c.Lists.take (k+1)).flatten=(c.Lists.take k).flatten++l:=by
 rw[v4,hx,List.flatten_append];simp
theorem Ea (h:ab) (hs:ab.sml h) (hw:ab.wf h) (hlay:bk h.Spans h.Larges=true) (hmail:bD h.Mail=true) (hco:∀ c∈h.Caches,br c=true):ao Tryz.prog 210 false [.val (some 24) (ab.enc .imm h)] .one [B (ia h)]:=by
 obtain⟨-,-,hs1,hs2,hso,hsc,hsm,hsq,-⟩:=hs;obtain⟨-,-,-,-,-,hwc,hwm,hwq,-⟩:=hw;have hlo:h.Objs.length<=1048576:=hso.1;have hlc:h.Caches.length<=1048576:=hsc.1;have hlq:h.Quar.Lst.length<=1048576:=hsq.1;have hfl:=pM hmail;have hfw:=BU hwm;have hsl:∀ a c,l9 a->ao Tryz.prog 276 false [.val (some 24) (ab.enc .imm h),.val none [I a],.val none [I c]] .one [B (cV h a c)]:=fun a c ha=>EB h a c hs1 hs2 hlay ha
 refine fO 159 [(16,8,[63,64,65,66,67,68,69,70]),(22,17,[86,87,88,89,90,91,92,93,94,95,96,97,98,99,100,101,102]),(29,7,[122,123,124,125,126,127,128]),(35,8,[142,143,144,145,146,147,148,149])] Tryz.func210 rfl ?_
 repeat'(first|refine gO ?_|fail)
 (conv=>whnf)
 refine Lp.mk (ι:=Nat × List Int) (fun i=>[(1,.hold .box (ab.enc .imm h)),(3,.hold .one (aD .own i.2)),(4,.hold .one [I ((i.1:Nat):Int)])]) (fun i=>i.1<=h.Objs.length/\i.2=(h.Objs.take i.1).map (·.Addr)) (fun i=>h.Objs.length - i.1) ((0,[])) ?_ (⟨Q0 _,rfl⟩) fun i hi=>?_
 ·exact wB
 obtain⟨i,S⟩:=i;obtain⟨hi,hS⟩:=hi;simp only at hi hS |-;have hSl:S.length=i:=by rw[hS,U0,C1];omega
 by_cases li:i<h.Objs.length
 ·have hx:=ah li
  repeat'(first|refine gD ?_|(conv=>whnf);first|with_reducible refine Ix.nat (aa hx) ?_|refine Ap.mk cq (fun r hr=>by rw[X0.1 hr];rfl) (by simp[aV,d4]) (by simp;omega) (by simp only[U0];exact wI (by simp;omega) (by decide)) rfl ?_)
  ((conv=>whnf)
   refine Nx.mk (i+1,S++[(nth h.Objs i).Addr]) ⟨(by simp only;omega),(by simp only;rw[hS,v4,hx];simp)⟩ (by simp only;omega) ?_
   (repeat'(first|exact trivial|rfl|exact And.intro rfl (And.intro (R0 (C.s dz.own) (by simp[rI])) trivial)|refine And.intro ?_ ?_)))
 obtain rfl:i=h.Objs.length:=by omega
 rw[X3]at hS
 repeat'(first|refine gD ?_|fail)
 (conv=>whnf)
 refine Lp.mk (ι:=Nat × List Int) (fun i=>[(1,.hold .box (ab.enc .imm h)),(3,.hold .one (aD .own i.2)),(5,.hold .one [I ((i.1:Nat):Int)])]) (fun i=>i.1<=h.Caches.length/\i.2=S++((h.Caches.take i.1).flatMap fun c=>c.Lists.flatten)/\(h.Caches.take i.1).all (dX h)=true/\i.2.length<=1048576+32*i.1) (fun i=>h.Caches.length - i.1) ((0,S)) ?_ (⟨Q0 _,by simp,rfl,by simp only;omega⟩) fun i hi=>?_
 ·exact wB
 obtain⟨i,S2⟩:=i;obtain⟨hi2,hS2,ai,hb2⟩:=hi;simp only at hi2 hS2 ai hb2 |-;by_cases li2:i<h.Caches.length
 ·have hx:=ah li2
  obtain⟨h4,h8⟩:=sQ (hco _ (am li2));have hwl:=hwc.2 _ (am li2)
  repeat'(first|refine gD ?_|(conv=>whnf);first|with_reducible refine Ix.nat (aa hx) ?_)
  (conv=>whnf)
  refine Lp.mk (ι:=Nat × List Int) (fun k=>[(1,.hold .box (ab.enc .imm h)),(3,.hold .one (aD .own k.2)),(5,.hold .one [I ((i:Nat):Int)]),(6,.hold .one [I ((k.1:Nat):Int)])]) (fun k=>k.1<=(nth h.Caches i).Lists.length/\k.2=S2++((nth h.Caches i).Lists.take k.1).flatten/\cA k.1 (pN h (nth h.Caches i))=true/\k.2.length<=S2.length+8*k.1) (fun k=>(nth h.Caches i).Lists.length - k.1) ((0,S2)) ?_ (⟨Q0 _,by simp,rfl,by simp⟩) fun k hk=>?_
  ·exact wB
  obtain⟨k,S3⟩:=k;obtain⟨hk,hS3,ak,hb3⟩:=hk;simp only at hk hS3 ak hb3 |-;by_cases lk:k<(nth h.Caches i).Lists.length
  ·have hy:=ah lk
   have hl8:=h8 _ (am lk);have hwa:=(hwl.2 _ (am lk)).2
   repeat'(first|refine gD ?_|(conv=>whnf);first|with_reducible (first|refine Ix.nat (aa hx) ?_|refine Ix.nat (aa hy) ?_))
   (conv=>whnf)
   refine Lp.mk (ι:=Nat × List Int) (fun j=>[(1,.hold .box (ab.enc .imm h)),(3,.hold .one (aD .own j.2)),(5,.hold .one [I ((i:Nat):Int)]),(6,.hold .one [I ((k:Nat):Int)]),(7,.hold .one (aD .imm (nth (nth h.Caches i).Lists k))),(8,.hold .one [I ((j.1:Nat):Int)])]) (fun j=>j.1<=(nth (nth h.Caches i).Lists k).length/\j.2=S3++(nth (nth h.Caches i).Lists k).take j.1/\((nth (nth h.Caches i).Lists k).take j.1).all (fun a=>cV h a (k:Nat))=true) (fun j=>(nth (nth h.Caches i).Lists k).length - j.1) ((0,S3)) ?_ (⟨Q0 _,by simp,rfl⟩) fun j hj=>?_
   ·exact wB
   obtain⟨j,S4⟩:=j;obtain⟨hj,hS4,aj⟩:=hj;simp only at hj hS4 aj |-;have hl4:S4.length=S3.length+j:=by rw[hS4,P2,C1];omega
   by_cases lj:j<(nth (nth h.Caches i).Lists k).length
   ·have hz:=ah lj
    have hsj:=hsl (nth (nth (nth h.Caches i).Lists k) j) (k:Nat) (hwa _ (am lj));cases eh:cV h (nth (nth (nth h.Caches i).Lists k) j) (k:Nat)<;>rw[eh]at hsj
    ·repeat'(first|refine gD ?_|(conv=>whnf);first|with_reducible refine Ix.nat (aa hz) ?_|refine Cl.mk hsj ?_)
     exact R0 (fun z=>[B z]) ((GN (dU hx (by unfold dX;exact ce lk (dU hz eh)))).symm)
    ·repeat'(first|refine gD ?_|(conv=>whnf);first|with_reducible refine Ix.nat (aa hz) ?_|refine Cl.mk hsj ?_|refine Ap.mk cq (fun r hr=>by rw[X0.1 hr];rfl) (by simp[aV,d4]) (by simp;omega) (by show _*8<=_;simp;omega) rfl ?_)
     ((conv=>whnf)
      refine Nx.mk (j+1,S4++[nth (nth (nth h.Caches i).Lists k) j]) ⟨(by simp only;omega),(by simp only;rw[hS4,v4,hz,z4];rfl),cy hz aj eh⟩ (by simp only;omega) ?_
      (repeat'(first|exact trivial|rfl|exact And.intro rfl (And.intro (R0 (C.s dz.own) (by simp[rI])) trivial)|refine And.intro ?_ ?_)))
   ·obtain rfl:j=(nth (nth h.Caches i).Lists k).length:=by omega
    rw[X3]at hS4 aj
    repeat'(first|refine gD ?_|fail)
    ((conv=>whnf);refine Nx.mk (k+1,S4) ⟨(by simp only;omega),(by simp only;rw[hS4,hS3,wm hy,z4]),bK ak aj,(by simp only;omega)⟩ (by simp only;omega) ?_;(exact wB))
  ·obtain rfl:k=(nth h.Caches i).Lists.length:=by omega
   rw[X3]at hS3
   repeat'(first|refine gD ?_|(conv=>whnf);first|with_reducible refine Ix.nat (aa hx) ?_)
   ((conv=>whnf);refine Nx.mk (i+1,S3) ⟨(by simp only;omega),(by simp only;rw[hS3,hS2,su hx,z4]),cy hx ai ak,(by simp only;omega)⟩ (by simp only;omega) ?_;(exact wB))
 obtain rfl:i=h.Caches.length:=by omega
 rw[X3]at hS2 ai
 repeat'(first|refine gD ?_|fail)
 (conv=>whnf)
 refine Lp.mk (ι:=Nat × List Int) (fun q=>[(1,.hold .box (ab.enc .imm h)),(3,.hold .one (aD .own q.2)),(9,.hold .one [I ((q.1:Nat):Int)])]) (fun q=>q.1<=h.Quar.Lst.length/\q.2=S2++(h.Quar.Lst.take q.1).map (·.Addr)/\(h.Quar.Lst.take q.1).all (gp h)=true) (fun q=>h.Quar.Lst.length - q.1) ((0,S2)) ?_ (⟨Q0 _,by simp,rfl⟩) fun q hq=>?_
 ·exact wB
 obtain⟨q,S5⟩:=q;obtain⟨hq1,hS5,aq⟩:=hq;simp only at hq1 hS5 aq |-;have hl5:S5.length=S2.length+q:=by rw[hS5,P2,U0,C1];omega
 by_cases lq:q<h.Quar.Lst.length
 ·have hz:=ah lq
  have hsj:=hsl (nth h.Quar.Lst q).Addr (nth h.Quar.Lst q).Class (hwq.2.2 _ (am lq)).1;cases eh:cV h (nth h.Quar.Lst q).Addr (nth h.Quar.Lst q).Class<;>rw[eh]at hsj
  ·repeat'(first|refine gD ?_|(conv=>whnf);first|with_reducible refine Ix.nat (aa hz) ?_|refine Cl.mk hsj ?_)
   exact R0 (fun z=>[B z]) ((Hp (dU hz eh)).symm)
  ·repeat'(first|refine gD ?_|(conv=>whnf);first|with_reducible refine Ix.nat (aa hz) ?_|refine Cl.mk hsj ?_|refine Ap.mk cq (fun r hr=>by rw[X0.1 hr];rfl) (by simp[aV,d4]) (by simp;omega) (by show _*8<=_;simp;omega) rfl ?_)
   ((conv=>whnf)
    refine Nx.mk (q+1,S5++[(nth h.Quar.Lst q).Addr]) ⟨(by simp only;omega),(by simp only;rw[hS5,v4,hz,C4,z4];rfl),cy hz aq eh⟩ (by simp only;omega) ?_
    (repeat'(first|exact trivial|rfl|exact And.intro rfl (And.intro (R0 (C.s dz.own) (by simp[rI])) trivial)|refine And.intro ?_ ?_)))
 obtain rfl:q=h.Quar.Lst.length:=by omega
 rw[X3]at hS5 aq
 repeat'(first|refine gD ?_|(conv=>whnf);first|refine Cl.mk (xg h.Mail hsm) ?_)
 (conv=>whnf)
 refine Lp.mk (ι:=Nat × List Int) (fun q=>[(1,.hold .box (ab.enc .imm h)),(3,.hold .one (aD .own q.2)),(10,.hold .one (aD .own (aK h.Mail))),(11,.hold .one [I ((q.1:Nat):Int)])]) (fun q=>q.1<=(aK h.Mail).length/\q.2=S5++(aK h.Mail).take q.1/\((aK h.Mail).take q.1).all (ju h)=true) (fun q=>(aK h.Mail).length - q.1) ((0,S5)) ?_ (⟨Q0 _,by simp,rfl⟩) fun q hq=>?_
 ·exact wB
 obtain⟨q,S6⟩:=q;obtain⟨hq1,hS6,aq6⟩:=hq;simp only at hq1 hS6 aq6 |-;have hl6:S6.length=S5.length+q:=by rw[hS6,P2,C1];omega
 by_cases lq:q<(aK h.Mail).length
 ·have hz:=ah lq
  have hsj:=hsl (nth (aK h.Mail) q) (-1) (hfw _ (am lq));cases eh:cV h (nth (aK h.Mail) q) (-1)<;>rw[eh]at hsj
  ·repeat'(first|refine gD ?_|(conv=>whnf);first|with_reducible refine Ix.nat (aa hz) ?_|refine Rw.one rfl (aa hz) rfl ?_|refine Cl.mk hsj ?_)
   exact R0 (fun z=>[B z]) ((G3 (dU hz eh)).symm)
  ·repeat'(first|refine gD ?_|(conv=>whnf);first|with_reducible refine Ix.nat (aa hz) ?_|refine Rw.one rfl (aa hz) rfl ?_|refine Cl.mk hsj ?_|refine Ap.mk cq (fun r hr=>by rw[X0.1 hr];rfl) (by simp[aV,d4]) (by simp;omega) (by show _*8<=_;simp;omega) rfl ?_)
   ((conv=>whnf)
    refine Nx.mk (q+1,S6++[nth (aK h.Mail) q]) ⟨(by simp only;omega),(by simp only;rw[hS6,v4,hz,z4];rfl),cy hz aq6 eh⟩ (by simp only;omega) ?_
    (repeat'(first|exact trivial|rfl|exact And.intro rfl (And.intro (R0 (C.s dz.own) (by simp[rI])) trivial)|refine And.intro ?_ ?_)))
 obtain rfl:q=(aK h.Mail).length:=by omega
 rw[X3]at hS6 aq6;have hall:S6=holders h:=by rw[hS6,hS5,hS2,hS];rfl
 have hheld:gw h=true:=by unfold gw;rw[ai,aq,aq6];rfl
 have hbig:S6.length<=100000000:=by omega
 clear hS6 hS5 hS2 hS hSl hl5 hb2 hl6
 repeat'(first|refine gD ?_|fail)
 (conv=>whnf)
 refine Lp.fz 3 (ι:=Nat) (fun i=>[(1,.hold .box (ab.enc .imm h)),(3,.hold .one (aD .imm S6)),(12,.hold .one [I ((i:Nat):Int)])]) (fun i=>i<=S6.length/\(S6.take i).Nodup) (fun i=>S6.length - i) 0 ?_ ⟨Q0 _,by simp⟩ fun i hi=>?_
 ·(repeat'(first|exact trivial|rfl|exact And.intro rfl (show Jm (d3 (aD .own S6)) (aD .imm S6) by rw[dG];exact lf _)|refine And.intro ?_ ?_))
 obtain⟨hi,hnd⟩:=hi;by_cases lj:i<S6.length
 ·have hz:=ah lj
  have htl:(S6.take i).length=i:=by rw[C1];omega
  repeat'(first|refine gD ?_|(conv=>whnf);first|with_reducible (first|refine Ix.nat (aa hz) ?_|refine Bf.D (fun hq=>?_) (fun hq=>?_))|refine Sl.pre i rfl (by simp;omega) (fun r hr=>by obtain⟨z,-,rfl⟩:=O3.1 hr;rfl) (C3 ..) ?_|refine Cl.mk (ly (S6.take i) _ (by omega)) ?_)
  all_goals first
   | exact R0 (fun z=>[B z]) ((by rw[hall]at *;exact(GR (by assumption) (by assumption)).symm))
   | ((conv=>whnf);refine Nx.mk (i+1) ⟨by omega,by rw[v4,hz];exact jH hnd (by assumption)⟩ (by omega) ?_;(exact wB))
 ·obtain rfl:i=S6.length:=by omega
  rw[X3]at hnd;have hlv:=xZ h.Spans h.Larges 512
  repeat'(first|refine gD ?_|(conv=>whnf);first|refine Cl.mk (vP h.Spans h.Larges hs1 hs2 hlay) ?_)
  exact R0 (fun z=>[B z]) ((by unfold ia;rw[hheld,<-hall,O0 hnd,Bool.true_and,Bool.true_and];rw[U3,beq_iff_eq,C0];unfold hJ at *;omega))
set_option maxHeartbeats 8000000
def cT (h:ab):Bool:=(bD h.Mail&&decide (h.Caches.length=h.Mail.Buffers.length))&&f6 h.Quar
def eC (h:ab):Bool:=((((((kD h&&sT h)&&cT h)&&jt h)&&h.Caches.all br)&&bW h)&&(eS h&&ia h))&&oG h
theorem BT (h:ab) (hs:ab.sml h) (hw:ab.wf h):ao Tryz.prog 125 false [.val (some 24) (ab.enc .imm h)] .one [B (eC h)]:=by
 have hsA:=hs;have hwA:=hw;obtain⟨hsk,hsf,hs1,hs2,hso,hsc,hsm,hsq,hsj⟩:=hs;obtain⟨-,-,-,-,hwo,hwc,hwm,hwq,-⟩:=hw;have hst:tB h:=hsk.1.2;have hpn:dQ h<=1048576:=hst.1;have hlo:h.Objs.length<=1048576:=hso.1;have hlc:h.Caches.length<=1048576:=hsc.1;have hlq:h.Quar.Lst.length<=1048576:=hsq.1;have hlb:h.Mail.Buffers.length<=1048576:=hsm.1.1;have c1:=k4 h.Kernel hsk;have c2:=kL (dQ h) h.Free ⟨by omega,by omega⟩ hsf;have c3:=kA h.Spans h.Larges hs1 hs2;have c5:=Aj h hs1 hst;have c6:=ku h.Mail hsm;have c7:=mY h.Quar hsq;cases e1:aA h.Kernel<;>rw[e1]at c1
 ·refine fO 150 [(8,10,[67,68,69,70,71,72,73,74,75,76])] Tryz.func125 rfl ?_
  repeat'(first|refine gO ?_|(conv=>whnf);first|with_reducible refine Bf.N (fun hq=>?_) (fun hq=>?_)|refine Cl.mk c1 ?_)
  all_goals first
   | exact R0 (fun z=>[B z]) ((by unfold eC kD;rw[e1];simp))
   |(exfalso;omega)
 cases e2:bv (dQ h) h.Free<;>rw[e2]at c2
 ·refine fO 150 [(8,10,[67,68,69,70,71,72,73,74,75,76])] Tryz.func125 rfl ?_
  repeat'(first|refine gO ?_|(conv=>whnf);first|with_reducible refine Bf.N (fun hq=>?_) (fun hq=>?_)|refine Cl.mk c1 ?_|refine Cl.mk c2 ?_)
  all_goals first
   | exact R0 (fun z=>[B z]) ((by unfold eC kD;rw[e2];simp))
   |(exfalso;omega)
 cases e3:bk h.Spans h.Larges<;>rw[e3]at c3
 ·refine fO 150 [(8,10,[67,68,69,70,71,72,73,74,75,76])] Tryz.func125 rfl ?_
  repeat'(first|refine gO ?_|(conv=>whnf);first|with_reducible refine Bf.N (fun hq=>?_) (fun hq=>?_)|refine Cl.mk c1 ?_|refine Cl.mk c2 ?_|refine Cl.mk c3 ?_)
  all_goals first
   | exact R0 (fun z=>[B z]) ((by unfold eC kD;rw[e3];simp))
   |(exfalso;omega)
 have c4:=Bc h hs1 hs2 hst hsf e3;cases e4:pages0 h<;>rw[e4]at c4
 ·refine fO 150 [(8,10,[67,68,69,70,71,72,73,74,75,76])] Tryz.func125 rfl ?_
  repeat'(first|refine gO ?_|(conv=>whnf);first|with_reducible refine Bf.N (fun hq=>?_) (fun hq=>?_)|refine Cl.mk c1 ?_|refine Cl.mk c2 ?_|refine Cl.mk c3 ?_|refine Cl.mk c4 ?_)
  all_goals first
   | exact R0 (fun z=>[B z]) ((by unfold eC kD;rw[e4];simp))
   |(exfalso;omega)
 cases e5:sT h<;>rw[e5]at c5
 ·refine fO 150 [(8,10,[67,68,69,70,71,72,73,74,75,76])] Tryz.func125 rfl ?_
  repeat'(first|refine gO ?_|(conv=>whnf);first|with_reducible refine Bf.N (fun hq=>?_) (fun hq=>?_)|refine Cl.mk c1 ?_|refine Cl.mk c2 ?_|refine Cl.mk c3 ?_|refine Cl.mk c4 ?_|refine Cl.mk c5 ?_)
  all_goals first
   | exact R0 (fun z=>[B z]) ((by unfold eC ;rw[e5];simp))
   |(exfalso;omega)
 cases e6:bD h.Mail<;>rw[e6]at c6
 ·refine fO 150 [(8,10,[67,68,69,70,71,72,73,74,75,76])] Tryz.func125 rfl ?_
  repeat'(first|refine gO ?_|(conv=>whnf);first|with_reducible refine Bf.N (fun hq=>?_) (fun hq=>?_)|refine Cl.mk c1 ?_|refine Cl.mk c2 ?_|refine Cl.mk c3 ?_|refine Cl.mk c4 ?_|refine Cl.mk c5 ?_|refine Cl.mk c6 ?_)
  all_goals first
   | exact R0 (fun z=>[B z]) ((by unfold eC cT;rw[e6];simp))
   |(exfalso;omega)
 by_cases hcl:h.Caches.length=h.Mail.Buffers.length;rotate_left
 ·refine fO 150 [(8,10,[67,68,69,70,71,72,73,74,75,76])] Tryz.func125 rfl ?_
  repeat'(first|refine gO ?_|(conv=>whnf);first|with_reducible refine Bf.N (fun hq=>?_) (fun hq=>?_)|refine Cl.mk c1 ?_|refine Cl.mk c2 ?_|refine Cl.mk c3 ?_|refine Cl.mk c4 ?_|refine Cl.mk c5 ?_|refine Cl.mk c6 ?_)
  all_goals first
   | exact R0 (fun z=>[B z]) ((by unfold eC cT;rw[P0 hcl];simp))
   |(exfalso;omega)
 cases e7:f6 h.Quar<;>rw[e7]at c7
 ·refine fO 150 [(8,10,[67,68,69,70,71,72,73,74,75,76])] Tryz.func125 rfl ?_
  repeat'(first|refine gO ?_|(conv=>whnf);first|with_reducible refine Bf.N (fun hq=>?_) (fun hq=>?_)|refine Cl.mk c1 ?_|refine Cl.mk c2 ?_|refine Cl.mk c3 ?_|refine Cl.mk c4 ?_|refine Cl.mk c5 ?_|refine Cl.mk c6 ?_|refine Cl.mk c7 ?_)
  all_goals first
   | exact R0 (fun z=>[B z]) ((by unfold eC cT;rw[e7];simp))
   |(exfalso;omega)
 have hlay:kD h=true:=by unfold kD;rw[e1,e2,e3,e4];rfl
 have hmc:cT h=true:=by unfold cT;rw[e6,O0 hcl,e7];rfl
 refine fO 150 [(8,10,[67,68,69,70,71,72,73,74,75,76])] Tryz.func125 rfl ?_
 repeat'(first|refine gA ?_|(conv=>whnf);first|with_reducible refine Bf.N (fun hq=>?_) (fun hq=>?_)|refine Cl.mk c1 ?_|refine Cl.mk c2 ?_|refine Cl.mk c3 ?_|refine Cl.mk c4 ?_|refine Cl.mk c5 ?_|refine Cl.mk c6 ?_|refine Cl.mk c7 ?_)
 all_goals try(exfalso;omega)
 (conv=>whnf)
 refine Lp.mk (ι:=Nat) (fun i=>[(1,.hold .box (ab.enc .imm h)),(3,.hold .one [I ((i:Nat):Int)])]) (fun i=>i<=h.Quar.Lst.length/\(h.Quar.Lst.take i).all (fun x=>decide (x.Since<=h.Clock))=true) (fun i=>h.Quar.Lst.length - i) (0) ?_ (⟨Q0 _,rfl⟩) fun i hi=>?_
 ·exact wB
 obtain⟨hi,ai⟩:=hi;by_cases li:i<h.Quar.Lst.length
 ·have hx:=ah li
  repeat'(first|refine gD ?_|(conv=>whnf);first|with_reducible (first|refine Ix.nat (aa hx) ?_|refine Bf.D (fun hq=>?_) (fun hq=>?_)))
  all_goals first
   | exact R0 (fun z=>[B z]) ((by unfold eC jt;rw[dU hx (P0 (by omega))];simp))
   | ((conv=>whnf);refine Nx.mk (i+1) ⟨by omega,cy hx ai (O0 (by omega))⟩ (by omega) ?_;(exact wB))
 have hsi:jt h=true:=gg (by omega) ai
 repeat'(first|refine gD ?_|fail)
 (conv=>whnf)
 refine Lp.mk (ι:=Nat) (fun k=>[(1,.hold .box (ab.enc .imm h)),(4,.hold .one [I ((k:Nat):Int)])]) (fun k=>k<=h.Caches.length/\(h.Caches.take k).all br=true) (fun k=>h.Caches.length - k) (0) ?_ (⟨Q0 _,rfl⟩) fun k hk=>?_
 ·exact wB
 obtain⟨hk,ak⟩:=hk;by_cases lk:k<h.Caches.length
 ·have hx:=ah lk
  have c8:=lP (nth h.Caches k) (hsc.2 _ (am lk));cases e8:br (nth h.Caches k)<;>rw[e8]at c8
  ·repeat'(first|refine gD ?_|(conv=>whnf);first|with_reducible refine Ix.nat (aa hx) ?_|refine Cl.mk c8 ?_)
   exact R0 (fun z=>[B z]) ((by unfold eC;rw[dU hx e8];simp))
  ·repeat'(first|refine gD ?_|(conv=>whnf);first|with_reducible refine Ix.nat (aa hx) ?_|refine Cl.mk c8 ?_)
   ((conv=>whnf);refine Nx.mk (k+1) ⟨by omega,cy hx ak e8⟩ (by omega) ?_;(exact wB))
 have hca:h.Caches.all br=true:=gg (by omega) ak;have c9:=DG h hs1 hs2 e3 hlo hlc (fun o ho=>(hwo.2 o ho).2.1);have c10:=Ea h hsA hwA e3 e6 (v3.1 hca);have c11:=Gz h.Job hsj;have c12:=vL h.Job hsj;have c13:=fU h h.Job.Plan.Keep hs1.1;have c14:=fU h h.Job.Plan.Move hs1.1;by_cases hn:bW h=true;rotate_left
 ·have hn2:bW h=false:=by simpa using hn
  have hn':=hn2;unfold bW at hn';rw[T3]at hn';cases e9:eS h<;>rw[e9]at c9<;>cases e10:ia h<;>rw[e10]at c10
  all_goals
   repeat'(first|refine gD ?_|(conv=>whnf);first|with_reducible refine Bf.D (fun hq=>?_) (fun hq=>?_)|refine Cl.mk (aE _ _ _) ?_|refine Cl.mk c9 ?_|refine Cl.mk c10 ?_)
   all_goals first
    | exact R0 (fun z=>[B z]) ((by unfold eC;rw[hn2];simp))
    |(exfalso;omega)
 have hn':=hn;unfold bW at hn';rw[C0]at hn';cases e9:eS h<;>rw[e9]at c9
 ·repeat'(first|refine gD ?_|(conv=>whnf);first|with_reducible refine Bf.D (fun hq=>?_) (fun hq=>?_)|refine Cl.mk (aE _ _ _) ?_|refine Cl.mk c9 ?_)
  all_goals first
   | exact R0 (fun z=>[B z]) ((by unfold eC;rw[e9];simp))
   |(exfalso;omega)
 cases e10:ia h<;>rw[e10]at c10
 ·repeat'(first|refine gD ?_|(conv=>whnf);first|with_reducible refine Bf.D (fun hq=>?_) (fun hq=>?_)|refine Cl.mk (aE _ _ _) ?_|refine Cl.mk c9 ?_|refine Cl.mk c10 ?_)
  all_goals first
   | exact R0 (fun z=>[B z]) ((by unfold eC;rw[e10];simp))
   |(exfalso;omega)
 have hfin:eC h=oG h:=by unfold eC;rw[hlay,e5,hmc,hsi,hca,hn,e9,e10];rfl
 rw[hfin];unfold oG;cases em:h.Meshing
 ·repeat'(first|refine gD ?_|(conv=>whnf);first|with_reducible refine Bf.D (fun hq=>?_) (fun hq=>?_)|refine Cl.mk (aE _ _ _) ?_|refine Cl.mk c9 ?_|refine Cl.mk c10 ?_|refine Cl.mk c11 ?_|refine Bf.f em ?_)
  all_goals first
   |rfl
   | exact R0 (fun z=>[B z]) ((by simp;done))
   |(exfalso;omega)
 ·cases e12:iH h.Job<;>rw[e12]at c12
  all_goals
   repeat'(first|refine gD ?_|(conv=>whnf);first|with_reducible (first|refine Bf.D (fun hq=>?_) (fun hq=>?_)|refine Bf.D (fun hq=>?_) (fun hq=>?_))|refine Cl.mk (aE _ _ _) ?_|refine Cl.mk c9 ?_|refine Cl.mk c10 ?_|refine Cl.mk c12 ?_|refine Cl.mk c13 ?_|refine Cl.mk c14 ?_|refine Bf.t em ?_)
   all_goals first
    | exact R0 (fun z=>[B z]) ((by grind))
    |(exfalso;omega)
set_option maxHeartbeats 4000000
def sorted (xs:List Int):List Int:=xs.mergeSort fun x y=>decide (x<=y)
theorem wu (xs:List Int):(sorted xs).length=xs.length:=List.length_mergeSort ..
theorem DJ {w w':World} {g n:Nat} {d:Array Int} {os:Array Obj} {c:Array Value} {e:TypeId} {fr:Nat × Nat} (hg:w.heap[g]? = some (.cells c e fr)) (hw:w'=Sort.grow (Sort.putRow (Value.int .i64) (Sort.ahead w n) g 0 d) os) :
  w'.os=w.os/\w'.tape=w.tape/\w'.output=w.output/\w.heap.size<=w'.heap.size/\(∀ b,b<w.heap.size->b≠g->w'.heap[b]? = w.heap[b]?)/\w'.heap[g]? = some (.cells (Sort.putCells (Value.int .i64) 0 d c) e fr):=by
 subst hw;have hlt:g<w.heap.size:=(R2.1 hg).1;have hh:∀ b,b<w.heap.size->(Sort.grow (Sort.putRow (Value.int .i64) (Sort.ahead w n) g 0 d) os).heap[b]? = if g=b then(w.heap[b]?).map (Sort.onCells (Sort.putCells (Value.int .i64) 0 d)) else w.heap[b]?:=fun b hb=>by
  rw[Sort.heap_grow_old _ _ (by simpa[Sort.putRow,Sort.mapBlock,Sort.ahead] using hb)];show(w.heap.modify g _)[b]? = _;rw[Array.getElem?_modify]
 refine⟨rfl,rfl,rfl,?_,fun b hb hne=>?_,?_⟩
 ·show w.heap.size<=((w.heap.modify g _)++os).size
  simp
 ·rw[hh b hb,if_neg fun e=>hne e.symm]
 ·rw[hh g hlt,if_pos rfl,hg];rfl
theorem LM (d:Array Int) (c:Array Value) (q:Nat):(Sort.putCells (Value.int .i64) 0 d c)[q]? = if q<d.size then(c[q]?).map (fun _=>.int .i64 d[q]!) else c[q]?:=by
 unfold Sort.putCells;rw[Array.getElem?_mapIdx];by_cases h:q<d.size
 ·rw[if_pos h]
  cases c[q]? with
  | none=>rfl
  | some y=>simp[h]
 ·rw[if_neg h]
  cases c[q]? with
  | none=>rfl
  | some y=>simp[h]
theorem row1 {w:World} {S Y:ac} {c:C} {v:Value} (h:dP w S Y c v):cF w S Y [c] (fun _=>v):=by
 refine⟨fun _=>Y,fun j c' hj=>?_,fun _ _ _ _ h=>h,fun j j' hj hj' hne=>?_⟩
 ·cases j with
  | zero=>simp at hj;subst hj;exact h
  | succ j=>simp at hj
 ·simp at hj hj';omega
def Pa (Y:ac):Nat->ac
 | 0=>Y
 | _+1=>NO
theorem AH (xs:List Int) {j:Nat} (hj:j<xs.length):xs.toArray[j]! = xs[j]:=by
 rw[getElem!_pos xs.toArray j (by simpa using hj)];simp
theorem LU (xs:List Int) (hl:xs.length<=1048576*64):aS Tryz.prog 175 false [.mut none (aD .own xs)] [.mut none (aD .own (sorted xs))] (.tup []) []:=by
 refine⟨⟨_,Tryz.func175,by kernel_rfl,by kernel_rfl⟩,fun w S V vs hS hV hVV hA=>?_⟩
 match vs,hA with
 | [v],⟨hA,_⟩=>
  have hrep:=bN.rep1 (show bN w S (V 0) none [C.s .own (xs.map (rI .own))] v from hA);generalize hcc:C.s .own (xs.map (rI .own))=cc at hrep;cases hrep with
  | nil _ o a ho=>
   cases hcc0:xs with
   | cons x xs'=>rw[hcc0]at hcc;cases hcc
   | nil=>
    refine(Tryz.slices_Sort_int_none a 0 w).mono fun e w' ⟨he,hw'⟩=>?_
    subst hw';refine⟨.tuple #[],he,bH.refl _ _,NO,fun _=>NO,NO,fun _ _ h=>h.elim,fun _ _ _ h=>h.elim,fun _ _ h=>h.elim,fun _ _ _ _ _ h=>h.elim,fun _ _ _ h=>h.elim,fun _ _ h=>h.elim,fun _ _ _ h=>h.elim,⟨#[],rfl,trivial,rfl⟩,cF.nil _ _ _ _,⟨⟨rfl,fun _=>.slice a 0 0,rfl,row1 (by rw[show sorted []=[] from List.mergeSort_nil ..];exact .nil _ .own _ trivial)⟩,trivial⟩⟩
  | own _ o g k n cap rows u f ho hn hk hcap hpos hF hu hf hd hc=>
   cases hcc;have hnx:n=xs.length:=by rw[<-hn,U0]
   have hx0:0<xs.length:=by omega
   have hk1:k=1:=by
    have:=hk (rI .own xs[0]) (O3.2 ⟨_,List.getElem_mem hx0,rfl⟩);exact this.symm
   subst hk1 hnx;have hval:∀ j (hj:j<xs.length),cel w g j=some (.int .i64 xs[j]):=fun j hj=>by
    have h1:=hu j (by omega);have h2:=hc j 0 (rI .own xs[j]) (I xs[j]) (by rw[O2,Q1 hj];rfl) rfl;rw[Nat.mul_one,Nat.add_zero]at h2;rw[h1];generalize u j=z at h2;cases h2
    rfl
   have hgs:g<w.heap.size:=(hV 0 g 0 (hF 0 (by omega)).1).1;obtain⟨c,e0,fr,hg,-⟩:=Sort.cells_of_cell? (hval 0 hx0);have hH:Sort.Holds (Value.int .i64) w g 0 xs.toArray:=fun j hj=>by
    have hj':j<xs.length:=by simpa using hj
    refine⟨?_,?_⟩
    ·rw[AH xs hj',Y4];exact hval j hj'
    ·rw[Y4];exact R0 Prod.fst (hF j (by omega)).2.2
   refine(Tryz.slices_Sort_int g 0 cap xs w hH hgs (by omega)).mono fun e w' ⟨he,m,os,hw'⟩=>?_
   obtain⟨q1,q2,q3,q4,q5,q6⟩:=DJ hg hw';have hsl:=wu xs;have hcel:∀ q,cel w g q=c[q]?:=fun q=>by show World.cell? w _=_;unfold World.cell?;simp[hg]
   have hcel':∀ q,cel w' g q=if q<xs.length then(c[q]?).map (fun _=>.int .i64 (sorted xs).toArray[q]!) else c[q]?:=fun q=>by
    have h1:=LM (sorted xs).toArray c q;have h2:(sorted xs).toArray.size=xs.length:=by simpa using hsl
    rw[h2]at h1;rw[<-h1];show World.cell? w' _=_;unfold World.cell?;simp[q6,sorted]
   have hval':∀ q (hq:q<xs.length),cel w' g q=some (.int .i64 ((sorted xs)[q]'(by omega))):=fun q hq=>by
    have h1:=hval q hq;rw[hcel]at h1;rw[hcel',if_pos hq,h1,Y3,AH (sorted xs) (by omega)]
   have hfro:∀ q,fro w' g q=fro w g q:=fun q=>by
    refine Prod.ext ?_ ?_
    ·show World.frozen? w' _=World.frozen? w _
     unfold World.frozen?;simp[q6,hg]
    ·show mp w' g=mp w g
     unfold mp;rw[q6,hg]
   have hother:∀ b,b<w.heap.size->b≠g->∀ o,cel w' b o=cel w b o/\fro w' b o=fro w b o:=fun b hb hne o=>by
    have hb':=q5 b hb hne;refine⟨?_,Prod.ext ?_ ?_⟩
    ·show World.cell? w' _=World.cell? w _
     unfold World.cell?;simp only[hb']
    ·show World.frozen? w' _=World.frozen? w _
     unfold World.frozen?;simp only[hb']
    ·show mp w' b=mp w b
     unfold mp;rw[hb']
   have hkeep:bH (fun b o=>∃ i,V i b o) w w':=by
    refine⟨q1,q2,q3,q4,fun b hb hn=>q5 b hb fun e=>?_,fun b o hb hn=>?_,fun b o hb hn=>?_⟩
    ·subst e;exact hn 0 ⟨0,(hF 0 (by omega)).1⟩
    ·by_cases e:b=g
     ·subst e
      have ho:¬o<xs.length:=fun h=>hn ⟨0,(hF o (by omega)).1⟩
      rw[hcel',if_neg ho,hcel]
     ·exact(hother b hb e o).1
    ·by_cases e:b=g
     ·subst e;exact hfro o
     ·exact(hother b hb e o).2
   refine⟨.tuple #[],he,hkeep,NO,Pa (V 0),NO,fun _ _ h=>h.elim,fun i b o h=>?_,fun _ _ h=>h.elim,fun i i' hne b o h h'=>?_,fun _ _ _ h=>h.elim,fun _ _ h=>h.elim,fun _ _ _ _ h=>h.elim,⟨#[],rfl,trivial,rfl⟩,cF.nil _ _ _ _,⟨⟨rfl,fun _=>.slice (some ⟨g,0,none⟩) xs.length cap,rfl,row1 ?_⟩,trivial⟩⟩
   ·cases i with
    | zero=>exact .inl ⟨0,h⟩
    | succ i=>exact h.elim
   ·cases i with
    | zero=>
     cases i' with
     | zero=>exact hne rfl
     | succ i'=>exact h'.elim
    | succ i=>exact h.elim
   ·show dP w' _ (V 0) _ _
    refine .own _ .own g 1 xs.length cap _ (fun q=>(cel w' g q).getD undef) (fun _=>NO) trivial (by rw[U0,hsl]) (fun r hr=>by obtain⟨z,-,rfl⟩:=O3.1 hr;rfl) hcap hpos (fun q hq=>?_) (fun q hq=>?_) (fun _ _ _ _ h=>h.elim) (fun _ _ _ _ _ _ _ h=>h.elim) (fun i j r c2 hi hj=>?_)
    ·obtain⟨a1,⟨z,a2,a3⟩,a4⟩:=hF q hq
     refine⟨a1,?_,(hfro q).trans a4⟩;by_cases hqx:q<xs.length
     ·exact⟨_,hval' q hqx,rfl⟩
     ·rw[hcel',if_neg hqx,<-hcel];exact⟨z,a2,a3⟩
    ·rw[hval' q (by omega)];rfl
    ·rw[O2]at hi
     have hil:i<(sorted xs).length:=by
      rcases Nat.lt_or_ge i (sorted xs).length with h|h
      ·exact h
      ·rw[U1 h]at hi;cases hi
     rw[Q1 hil]at hi;simp only[Y3,T0]at hi;subst hi
     match j,hj with
     | 0,hj=>
      simp only[rI,List.getElem?_cons_zero,T0]at hj;subst hj;simp only[Nat.mul_one,Nat.add_zero,hval' i (by omega),Option.getD_some];exact .v _ _ rfl
     | j+1,hj=>simp[rI]at hj
  | _=>cases hcc
set_option maxHeartbeats 8000000
def jR (s:au) (k:Nat):Int:=16*s.Page+(k:Nat)*csz s.Class
def d7 (s:au) (n:Nat):List Int:=((List.range n).filter fun k=>aT s.Bits (k:Nat)).map (jR s)
theorem Ah {s:au} {n:Nat} (h:aT s.Bits (n:Nat)=true):d7 s (n+1)=d7 s n++[jR s n]:=by
 unfold d7;rw[List.range_succ,List.filter_append,C4];simp[h]
theorem Dv {s:au} {n:Nat} (h:aT s.Bits (n:Nat)=false):d7 s (n+1)=d7 s n:=by
 unfold d7;rw[List.range_succ,List.filter_append,C4];simp[h]
theorem qw (s:au) (n:Nat):(d7 s n).length<=n:=by
 unfold d7;rw[U0];exact V3 (List.length_filter_le ..) (by simp)
def eG (sp:List au):List Int:=sp.flatMap fun s=>d7 s (slots s.Class).toNat
def live0 (sp:List au) (la:List a8):List Int:=eG sp++la.map fun l=>16*l.Page
def m6 (sp:List au) (la:List a8):List Int:=sorted (live0 sp la)
theorem qb (k:Int):0<=slots k/\slots k<=16:=by
 unfold slots;(repeat' split)<;>decide
theorem yw {k:Int} (h:0<=k/\k<=3):slots k*csz k=16:=by
 obtain rfl|rfl|rfl|rfl:k=0\/k=1\/k=2\/k=3:=by omega
 all_goals decide
theorem wa {sp:List au} {i:Nat} {s:au} (h:sp[i]? = some s):eG (sp.take (i+1))=eG (sp.take i)++d7 s (slots s.Class).toNat:=by
 unfold eG;rw[v4,h,List.flatMap_append];simp
theorem xl (s:au) (k:Nat) (hs:aY s=true) (hk:(k:Int)<slots s.Class):ao Tryz.prog 174 false [.val (some 3) (au.enc .imm s),.val none [I (k:Nat)]] .one [I (jR s k)]:=by
 have h1:=gN s;have h2:=dy s.Class;have h3:=ic s.Class;rw[hs]at h1;have hc:=aF hs;have hb:=qb s.Class;rcases cg ⟨hc.2.2.1,hc.2.2.2⟩ with e|e|e|e<;>rw[e]at h2
 all_goals
  refine fO 26 [(3,9,[17,18,19,20,21,22,23,24,25])] Tryz.func174 rfl ?_
  repeat'(first|refine gD ?_|(conv=>whnf);first|with_reducible refine Bf.D (fun hq=>?_) (fun hq=>?_)|refine Cl.mk h1 ?_|refine Cl.mk h2 ?_|refine Cl.mk h3 ?_|refine Cl.mk (aJ _ 0 _) ?_)
  all_goals exact R0 (fun z=>[I z]) (by unfold jR;rw[e];omega)
theorem vK (sp:List au) (la:List a8) (hs1:dt sp) (hs2:dq la) (hlay:bk sp la=true):ao Tryz.prog 79 false [.val none (b6 .imm sp),.val none (bX .imm la)] .one (aD .own (m6 sp la)):=by
 have hl1:=hs1.1;have hl2:=hs2.1;have h0:=oI sp la hs1 hs2;rw[hlay]at h0;obtain⟨ho1,ho2,-⟩:=cY hlay;refine fP 56 [(175,[1])] [] Tryz.func79 rfl ?_ (.inr (bF _))
 repeat'(first|refine gO ?_|(conv=>whnf);first|refine Cl.mk h0 ?_)
 (conv=>whnf)
 refine Lp.mk (ι:=Nat × List Int) (fun i=>[(1,.hold .one (bX .imm la)),(5,.hold .one (aD .own i.2)),(16,.hold .one (b6 .imm sp)),(17,.hold .one [I (sp.length)]),(18,.hold .one [I ((i.1:Nat):Int)])]) (fun i=>i.1<=sp.length/\i.2=eG (sp.take i.1)/\i.2.length<=16*i.1) (fun i=>sp.length - i.1) ((0,[])) ?_ (⟨Q0 _,rfl,Q0 _⟩) fun i hi=>?_
 ·exact wB
 obtain⟨i,S⟩:=i;obtain⟨hi,hS,hb⟩:=hi;simp only at hi hS hb |-;by_cases li:i<sp.length
 ·have hx:=ah li
  have hok:aY (nth sp i)=true:=KY ho1 li;have hsl:=qb (nth sp i).Class;have hbt:=dC hok
  repeat'(first|refine gD ?_|(conv=>whnf);first|with_reducible refine Ix.nat (aa hx) ?_)
  (conv=>whnf)
  refine Lp.mk (ι:=Nat × List Int) (fun k=>[(1,.hold .one (bX .imm la)),(5,.hold .one (aD .own k.2)),(7,.hold .box (au.enc .imm (nth sp i))),(8,.hold .one [I ((k.1:Nat):Int)]),(16,.hold .one (b6 .imm sp)),(17,.hold .one [I (sp.length)]),(18,.hold .one [I ((i:Nat):Int)])]) (fun k=>k.1<=(slots (nth sp i).Class).toNat/\k.2=S++d7 (nth sp i) k.1) (fun k=>(slots (nth sp i).Class).toNat - k.1) ((0,S)) ?_ (⟨Q0 _,by simp[d7]⟩) fun k hk=>?_
  ·exact wB
  obtain⟨k,S2⟩:=k;obtain⟨hk,hS2⟩:=hk;simp only at hk hS2 |-;have hll:=qw (nth sp i) k;have hl2':S2.length=S.length+(d7 (nth sp i) k).length:=by rw[hS2,P2]
  by_cases lk:k<(slots (nth sp i).Class).toNat
  ·have hh:=jf (nth sp i).Bits (k:Nat) hbt.2
   cases eh:aT (nth sp i).Bits (k:Nat)<;>rw[eh]at hh
   ·repeat'(first|refine gD ?_|(conv=>whnf);first|refine Cl.mk (ic _) ?_|refine Cl.mk hh ?_)
    ((conv=>whnf);refine Nx.mk (k+1,S2) ⟨(by simp only;omega),(by simp only;rw[Dv eh];exact hS2)⟩ (by simp only;omega) ?_;(exact wB))
   ·repeat'(first|refine gD ?_|(conv=>whnf);first|refine Cl.mk (ic _) ?_|refine Cl.mk hh ?_|refine Cl.mk (xl (nth sp i) k hok (by omega)) ?_|refine Ap.mk cq (fun r hr=>by rw[X0.1 hr];rfl) (by simp[aV,d4]) (by simp;omega) (by show _*8<=_;simp;omega) rfl ?_)
    ((conv=>whnf)
     refine Nx.mk (k+1,S2++[jR (nth sp i) k]) ⟨(by simp only;omega),(by simp only;rw[Ah eh,hS2,z4])⟩ (by simp only;omega) ?_
     (repeat'(first|exact trivial|rfl|exact And.intro rfl (And.intro (R0 (C.s dz.own) (by simp[rI])) trivial)|refine And.intro ?_ ?_)))
  ·obtain rfl:k=(slots (nth sp i).Class).toNat:=by omega
   repeat'(first|refine gD ?_|(conv=>whnf);first|refine Cl.mk (ic _) ?_)
   ((conv=>whnf);refine Nx.mk (i+1,S2) ⟨(by simp only;omega),(by simp only;rw[wa hx,<-hS,hS2]),(by simp only;omega)⟩ (by simp only;omega) ?_;(exact wB))
 obtain rfl:i=sp.length:=by omega
 rw[X3]at hS
 repeat'(first|refine gD ?_|fail)
 (conv=>whnf)
 refine Lp.mk (ι:=Nat × List Int) (fun i=>[(5,.hold .one (aD .own i.2)),(40,.hold .one (bX .imm la)),(41,.hold .one [I (la.length)]),(42,.hold .one [I ((i.1:Nat):Int)])]) (fun i=>i.1<=la.length/\i.2=S++(la.take i.1).map (fun l=>16*l.Page)) (fun i=>la.length - i.1) ((0,S)) ?_ (⟨Q0 _,by simp⟩) fun i hi=>?_
 ·exact wB
 obtain⟨i,S2⟩:=i;obtain⟨hi2,hS2⟩:=hi;simp only at hi2 hS2 |-;have hl2':S2.length=S.length+i:=by rw[hS2,P2,U0,C1];omega
 by_cases li:i<la.length
 ·have hx:=ah li
  have hpg:=rz hlay hx
  repeat'(first|refine gD ?_|(conv=>whnf);first|with_reducible refine Ix.nat (aa hx) ?_|refine Ap.mk cq (fun r hr=>by rw[X0.1 hr];rfl) (by simp[aV,d4]) (by simp;omega) (by show _*8<=_;simp;omega) rfl ?_)
  ((conv=>whnf)
   refine Nx.mk (i+1,S2++[16*(nth la i).Page]) ⟨(by simp only;omega),(by simp only;rw[hS2,v4,hx];simp)⟩ (by simp only;omega) ?_
   (repeat'(first|exact trivial|rfl|exact And.intro rfl (And.intro (R0 (C.s dz.own) (by simp[rI];omega)) trivial)|refine And.intro ?_ ?_)))
 obtain rfl:i=la.length:=by omega
 rw[X3]at hS2
 repeat'(first|refine gD ?_|(conv=>whnf);first|refine cu.mk (LU S2 (by omega)) (.inl rfl) ?_)
 show _=aD .own (sorted (eG sp++la.map fun l=>16*l.Page));rw[<-hS,<-hS2];rfl
def oK (es:List (Int × Value)) (L:List Int):Prop:=∀ a,mlook es a (.int .i64 0)=.int .i64 (L.count a:Nat)
theorem GK (es:List (Int × Value)) (a b:Int) (v d:Value):mlook (mput es a v) b d=if a=b then v else mlook es b d:=by
 induction es with
 | nil=>simp only[mput,mlook]
 | cons p es ih=>
  simp only[mput];by_cases h:p.1=a
  ·rw[if_pos h]
   simp only[mlook];by_cases hb:a=b
   ·rw[if_pos hb,if_pos hb]
   ·rw[if_neg hb,if_neg hb,if_neg (by rw[h];exact hb)]
  ·rw[if_neg h]
   simp only[mlook];by_cases hb:p.1=b
   ·rw[if_pos hb,if_pos hb,if_neg (fun e=>h (hb.trans e.symm))]
   ·rw[if_neg hb,if_neg hb,ih]
def inc (es:List (Int × Value)) (L:List Int) (a:Int):List (Int × Value):=mput es a (.int .i64 ((L.count a:Nat)+1))
theorem Gx:oK [] []:=fun _=>rfl
theorem nK {es:List (Int × Value)} {L:List Int} (h:oK es L) (a:Int):oK (inc es L a) (L++[a]):=fun b=>by
 unfold inc;rw[GK,P4];by_cases hab:a=b
 ·subst hab;rw[if_pos rfl,List.count_singleton_self];simp
 ·rw[if_neg hab,h b,List.count_singleton,if_neg (by simpa using hab)];rfl
theorem zb (h:ab) (hs1:dt h.Spans) (hs2:dq h.Larges) (es:List (Int × Value)) (L:List Int) (a c:Int) (hes:oK es L) (hL:L.length<=1000000000) :
  aS Tryz.prog 170 false [.val none [I a],.val none [I c],.ptr [.m es],.ptr (ab.enc .imm h)] [.val none [I a],.val none [I c],.ptr [.m (inc es L a)],.ptr (ab.enc .imm h)] .one [B (cV h a c)]:=by
 have hd:=qi h.Spans h.Larges a hs1 hs2;obtain⟨i1,-⟩:=lI h.Spans h.Larges a;have hcl:L.count a<=L.length:=List.count_le_length;unfold cV;generalize denotes h.Spans h.Larges a=w at hd i1 |-;refine fM 41 [] [] [(0,0),(0,0),(0,0),(0,0)] Tryz.func170 rfl (fun u q=>?_)
 repeat'(first|refine gO ?_|(conv=>whnf);first|with_reducible (first|refine Bf.D (fun hq=>?_) (fun hq=>?_)|refine Bf.E (fun hq=>?_) (fun hq=>?_))|refine Ml.mk (hes a) ?_|refine Mu.mk (es':=inc es L a) rfl ?_|refine Cl.mk hd ?_|refine Ix.mk (i1 (by assumption)).1 (aa (ah (i1 (by assumption)).2)) ?_)
 all_goals
  refine aR.mk rfl ?_ ?_
  ·exact R0 (fun z=>[B z]) ((by grind))
  ·exact wB
set_option maxHeartbeats 8000000
def qd (h:ab) (x0:aL):Bool:=gp h x0&&decide (x0.Since<=h.Clock)
def lg (h:ab):List Int:=((ch h++h.Quar.Lst.map (·.Addr))++aK h.Mail)++h.Objs.map (·.Addr)
def iI (h:ab):Bool:=((h.Caches.all (dX h)&&h.Quar.Lst.all (qd h))&&(aK h.Mail).all (ju h))&&(m6 h.Spans h.Larges).all fun a=>decide ((lg h).count a=1)
theorem KL {h:ab} (h1:h.Caches.all (dX h)=false):iI h=false:=by unfold iI;rw[h1];rfl
theorem FB {h:ab} (h1:h.Quar.Lst.all (qd h)=false):iI h=false:=by unfold iI;rw[h1];simp
theorem Lw {h:ab} (h1:(aK h.Mail).all (ju h)=false):iI h=false:=by unfold iI;rw[h1];simp
theorem LH {h:ab} (h1:((m6 h.Spans h.Larges).all fun a=>decide ((lg h).count a=1))=false):iI h=false:=by unfold iI;rw[h1];simp
theorem G9 {sp:List au} {la:List a8} (h1:sp.length<=1048576) (h2:la.length<=1048576):(m6 sp la).length<=100000000:=by
 have h3:∀ (l:List au),(eG l).length<=16*l.length:=by
  intro l
  induction l with
  | nil=>exact Q0 _
  | cons s l ih=>
   have e:eG (s::l)=d7 s (slots s.Class).toNat++eG l:=by unfold eG;rw[W4]
   have hb:=qb s.Class;have hl:=qw s (slots s.Class).toNat;rw[e,P2,List.length_cons];omega
 have h4:=h3 sp;unfold m6 live0;rw[wu,P2,U0];omega
theorem tX (h:ab) (hs:ab.sml h) (hlay:bk h.Spans h.Larges=true) (hmail:bD h.Mail=true) (hco:∀ c∈h.Caches,br c=true):ao Tryz.prog 74 false [.val (some 24) (ab.enc .imm h)] .one [B (iI h)]:=by
 obtain⟨-,-,hs1,hs2,hso,hsc,hsm,hsq,-⟩:=hs;have hlo:h.Objs.length<=1048576:=hso.1;have hlc:h.Caches.length<=1048576:=hsc.1;have hlq:h.Quar.Lst.length<=1048576:=hsq.1;have hfl:=pM hmail;have hno:iI h=false->[B false]=[B (iI h)]:=fun e=>by rw[e]
 refine fP 114 [(170,[0,0,2,2])] [] Tryz.func74 rfl ?_
 repeat'(first|refine gO ?_|fail)
 (conv=>whnf)
 refine Lp.mk (ι:=Nat × List (Int × Value) × List Int) (fun i=>[(1,.hold .box (ab.enc .imm h)),(3,.hold .box [.m i.2.1]),(4,.fn 170 [3,1]),(22,.hold .one (nC .imm h.Caches)),(23,.hold .one [I (h.Caches.length)]),(24,.hold .one [I ((i.1:Nat):Int)])]) (fun i=>i.1<=h.Caches.length/\oK i.2.1 i.2.2/\i.2.2=((h.Caches.take i.1).flatMap fun c=>c.Lists.flatten)/\(h.Caches.take i.1).all (dX h)=true/\i.2.2.length<=32*i.1) (fun i=>h.Caches.length - i.1) ((0,[],[])) ?_ (⟨Q0 _,Gx,rfl,rfl,Q0 _⟩) fun i hi=>?_
 ·exact wB
 obtain⟨i,es,L⟩:=i;obtain⟨hi,hes,hL,ai,hb⟩:=hi;simp only at hi hes hL ai hb |-;by_cases li:i<h.Caches.length
 ·have hx:=ah li
  obtain⟨h4,h8⟩:=sQ (hco _ (am li))
  repeat'(first|refine gD ?_|(conv=>whnf);first|with_reducible refine Ix.nat (aa hx) ?_)
  (conv=>whnf)
  refine Lp.mk (ι:=Nat × List (Int × Value) × List Int) (fun k=>[(1,.hold .box (ab.enc .imm h)),(3,.hold .box [.m k.2.1]),(4,.fn 170 [3,1]),(22,.hold .one (nC .imm h.Caches)),(23,.hold .one [I (h.Caches.length)]),(24,.hold .one [I ((i:Nat):Int)]),(29,.hold .one (iu .imm (nth h.Caches i).Lists)),(30,.hold .one [I ((nth h.Caches i).Lists.length)]),(31,.hold .one [I ((k.1:Nat):Int)])]) (fun k=>k.1<=(nth h.Caches i).Lists.length/\oK k.2.1 k.2.2/\k.2.2=L++((nth h.Caches i).Lists.take k.1).flatten/\cA k.1 (pN h (nth h.Caches i))=true/\k.2.2.length<=L.length+8*k.1) (fun k=>(nth h.Caches i).Lists.length - k.1) ((0,es,L)) ?_ (⟨Q0 _,hes,by simp,rfl,by simp⟩) fun k hk=>?_
  ·exact wB
  obtain⟨k,es3,L3⟩:=k;obtain⟨hk,hes3,hL3,ak,hb3⟩:=hk;simp only at hk hes3 hL3 ak hb3 |-;by_cases lk:k<(nth h.Caches i).Lists.length
  ·have hy:=ah lk
   have hl8:=h8 _ (am lk)
   repeat'(first|refine gD ?_|(conv=>whnf);first|with_reducible (first|refine Ix.nat (aa hx) ?_|refine Ix.nat (aa hy) ?_))
   (conv=>whnf)
   refine Lp.mk (ι:=Nat × List (Int × Value) × List Int) (fun j=>[(1,.hold .box (ab.enc .imm h)),(3,.hold .box [.m j.2.1]),(4,.fn 170 [3,1]),(7,.hold .one [I ((k:Nat):Int)]),(22,.hold .one (nC .imm h.Caches)),(23,.hold .one [I (h.Caches.length)]),(24,.hold .one [I ((i:Nat):Int)]),(29,.hold .one (iu .imm (nth h.Caches i).Lists)),(30,.hold .one [I ((nth h.Caches i).Lists.length)]),(31,.hold .one [I ((k:Nat):Int)]),(36,.hold .one (aD .imm (nth (nth h.Caches i).Lists k))),(37,.hold .one [I ((nth (nth h.Caches i).Lists k).length)]),(38,.hold .one [I ((j.1:Nat):Int)])]) (fun j=>j.1<=(nth (nth h.Caches i).Lists k).length/\oK j.2.1 j.2.2/\j.2.2=L3++(nth (nth h.Caches i).Lists k).take j.1/\((nth (nth h.Caches i).Lists k).take j.1).all (fun a=>cV h a (k:Nat))=true) (fun j=>(nth (nth h.Caches i).Lists k).length - j.1) ((0,es3,L3)) ?_ (⟨Q0 _,hes3,by simp,rfl⟩) fun j hj=>?_
   ·exact wB
   obtain⟨j,es4,L4⟩:=j;obtain⟨hj,hes4,hL4,aj⟩:=hj;simp only at hj hes4 hL4 aj |-;have hl4:L4.length=L3.length+j:=by rw[hL4,P2,C1];omega
   by_cases lj:j<(nth (nth h.Caches i).Lists k).length
   ·have hz:=ah lj
    have hcal:=zb h hs1 hs2 es4 L4 (nth (nth (nth h.Caches i).Lists k) j) (k:Nat) hes4 (by omega);cases eh:cV h (nth (nth (nth h.Caches i).Lists k) j) (k:Nat)<;>rw[eh]at hcal
    ·repeat'(first|refine gD ?_|(conv=>whnf);first|with_reducible refine Ix.nat (aa hz) ?_|refine cu.mk (hcal) (.inl rfl) ?_)
     exact hno (KL (dU hx (by unfold dX;exact ce lk (dU hz eh))))
    ·repeat'(first|refine gD ?_|(conv=>whnf);first|with_reducible refine Ix.nat (aa hz) ?_|refine cu.mk (hcal) (.inl rfl) ?_)
     ((conv=>whnf)
      refine Nx.mk (j+1,inc es4 L4 (nth (nth (nth h.Caches i).Lists k) j),L4++[nth (nth (nth h.Caches i).Lists k) j]) ⟨(by simp only;omega),nK hes4 _,(by simp only;rw[hL4,v4,hz,z4];rfl),cy hz aj eh⟩ (by simp only;omega) ?_
      (exact wA))
   ·obtain rfl:j=(nth (nth h.Caches i).Lists k).length:=by omega
    rw[X3]at hL4 aj
    repeat'(first|refine gD ?_|fail)
    ((conv=>whnf);refine Nx.mk (k+1,es4,L4) ⟨(by simp only;omega),hes4,(by simp only;rw[hL4,hL3,wm hy,z4]),bK ak aj,(by simp only;omega)⟩ (by simp only;omega) ?_;(exact wB))
  ·obtain rfl:k=(nth h.Caches i).Lists.length:=by omega
   rw[X3]at hL3
   repeat'(first|refine gD ?_|fail)
   ((conv=>whnf);refine Nx.mk (i+1,es3,L3) ⟨(by simp only;omega),hes3,(by simp only;rw[hL3,hL,su hx]),cy hx ai ak,(by simp only;omega)⟩ (by simp only;omega) ?_;(exact wB))
 obtain rfl:i=h.Caches.length:=by omega
 rw[X3]at hL ai
 repeat'(first|refine gD ?_|fail)
 (conv=>whnf)
 refine Lp.mk (ι:=Nat × List (Int × Value) × List Int) (fun q=>[(1,.hold .box (ab.enc .imm h)),(3,.hold .box [.m q.2.1]),(4,.fn 170 [3,1]),(52,.hold .one (cz .imm h.Quar.Lst)),(53,.hold .one [I (h.Quar.Lst.length)]),(54,.hold .one [I ((q.1:Nat):Int)])]) (fun q=>q.1<=h.Quar.Lst.length/\oK q.2.1 q.2.2/\q.2.2=L++(h.Quar.Lst.take q.1).map (·.Addr)/\(h.Quar.Lst.take q.1).all (qd h)=true) (fun q=>h.Quar.Lst.length - q.1) ((0,es,L)) ?_ (⟨Q0 _,hes,by simp,rfl⟩) fun q hq=>?_
 ·exact wB
 obtain⟨q,es5,L5⟩:=q;obtain⟨hq1,hes5,hL5,aq⟩:=hq;simp only at hq1 hes5 hL5 aq |-;have hl5:L5.length=L.length+q:=by rw[hL5,P2,U0,C1];omega
 by_cases lq:q<h.Quar.Lst.length
 ·have hz:=ah lq
  have hcal:=zb h hs1 hs2 es5 L5 (nth h.Quar.Lst q).Addr (nth h.Quar.Lst q).Class hes5 (by omega);cases eh:cV h (nth h.Quar.Lst q).Addr (nth h.Quar.Lst q).Class<;>rw[eh]at hcal
  ·repeat'(first|refine gD ?_|(conv=>whnf);first|with_reducible (first|refine Ix.nat (aa hz) ?_|refine Bf.D (fun hq=>?_) (fun hq=>?_))|refine cu.mk (hcal) (.inl rfl) ?_)
   all_goals exact hno (FB (dU hz (by unfold qd gp;rw[eh];rfl)))
  ·repeat'(first|refine gD ?_|(conv=>whnf);first|with_reducible (first|refine Ix.nat (aa hz) ?_|refine Bf.D (fun hq=>?_) (fun hq=>?_))|refine cu.mk (hcal) (.inl rfl) ?_)
   all_goals first
    |exact hno (FB (dU hz (by unfold qd gp;rw[eh,P0 (by omega)];rfl)))
    | ((conv=>whnf)
       refine Nx.mk (q+1,inc es5 L5 (nth h.Quar.Lst q).Addr,L5++[(nth h.Quar.Lst q).Addr]) ⟨(by simp only;omega),nK hes5 _,(by simp only;rw[hL5,v4,hz,C4,z4];rfl),cy hz aq (by unfold qd gp;rw[eh,O0 (by omega)];rfl)⟩ (by simp only;omega) ?_
       (exact wA))
 obtain rfl:q=h.Quar.Lst.length:=by omega
 rw[X3]at hL5 aq
 repeat'(first|refine gD ?_|(conv=>whnf);first|refine Cl.mk (wH h.Mail hsm) ?_)
 (conv=>whnf)
 refine Lp.mk (ι:=Nat × List (Int × Value) × List Int) (fun q=>[(1,.hold .box (ab.enc .imm h)),(3,.hold .box [.m q.2.1]),(4,.fn 170 [3,1]),(75,.hold .one (aD .own (aK h.Mail))),(76,.hold .one [I ((aK h.Mail).length)]),(77,.hold .one [I ((q.1:Nat):Int)])]) (fun q=>q.1<=(aK h.Mail).length/\oK q.2.1 q.2.2/\q.2.2=L5++(aK h.Mail).take q.1/\((aK h.Mail).take q.1).all (ju h)=true) (fun q=>(aK h.Mail).length - q.1) ((0,es5,L5)) ?_ (⟨Q0 _,hes5,by simp,rfl⟩) fun q hq=>?_
 ·exact wB
 obtain⟨q,es6,L6⟩:=q;obtain⟨hq1,hes6,hL6,aq6⟩:=hq;simp only at hq1 hes6 hL6 aq6 |-;have hl6:L6.length=L5.length+q:=by rw[hL6,P2,C1];omega
 by_cases lq:q<(aK h.Mail).length
 ·have hz:=ah lq
  have hcal:=zb h hs1 hs2 es6 L6 (nth (aK h.Mail) q) (-1) hes6 (by omega);cases eh:cV h (nth (aK h.Mail) q) (-1)<;>rw[eh]at hcal
  ·repeat'(first|refine gD ?_|(conv=>whnf);first|with_reducible refine Ix.nat (aa hz) ?_|refine Rw.one rfl (aa hz) rfl ?_|refine cu.mk (hcal) (.inl rfl) ?_)
   exact hno (Lw (dU hz eh))
  ·repeat'(first|refine gD ?_|(conv=>whnf);first|with_reducible refine Ix.nat (aa hz) ?_|refine Rw.one rfl (aa hz) rfl ?_|refine cu.mk (hcal) (.inl rfl) ?_)
   ((conv=>whnf)
    refine Nx.mk (q+1,inc es6 L6 (nth (aK h.Mail) q),L6++[nth (aK h.Mail) q]) ⟨(by simp only;omega),nK hes6 _,(by simp only;rw[hL6,v4,hz,z4];rfl),cy hz aq6 eh⟩ (by simp only;omega) ?_
    (exact wA))
 obtain rfl:q=(aK h.Mail).length:=by omega
 rw[X3]at hL6 aq6
 repeat'(first|refine gD ?_|fail)
 (conv=>whnf)
 refine Lp.mk (ι:=Nat × List (Int × Value) × List Int) (fun q=>[(1,.hold .box (ab.enc .imm h)),(3,.hold .box [.m q.2.1]),(87,.hold .one (nz .imm h.Objs)),(88,.hold .one [I (h.Objs.length)]),(89,.hold .one [I ((q.1:Nat):Int)])]) (fun q=>q.1<=h.Objs.length/\oK q.2.1 q.2.2/\q.2.2=L6++(h.Objs.take q.1).map (·.Addr)) (fun q=>h.Objs.length - q.1) ((0,es6,L6)) ?_ (⟨Q0 _,hes6,by simp⟩) fun q hq=>?_
 ·exact wB
 obtain⟨q,es7,L7⟩:=q;obtain⟨hq1,hes7,hL7⟩:=hq;simp only at hq1 hes7 hL7 |-;have hl7:L7.length=L6.length+q:=by rw[hL7,P2,U0,C1];omega
 by_cases lq:q<h.Objs.length
 ·have hz:=ah lq
  have hcl:L7.count (nth h.Objs q).Addr<=L7.length:=List.count_le_length
  repeat'(first|refine gD ?_|(conv=>whnf);first|with_reducible refine Ix.nat (aa hz) ?_|refine Ml.mk (hes7 _) ?_|refine Mu.mk (es':=inc es7 L7 (nth h.Objs q).Addr) rfl ?_)
  ((conv=>whnf)
   refine Nx.mk (q+1,inc es7 L7 (nth h.Objs q).Addr,L7++[(nth h.Objs q).Addr]) ⟨(by simp only;omega),nK hes7 _,(by simp only;rw[hL7,v4,hz,C4,z4];rfl)⟩ (by simp only;omega) ?_
   (exact wA))
 obtain rfl:q=h.Objs.length:=by omega
 rw[X3]at hL7;have hall:L7=lg h:=by rw[hL7,hL6,hL5,hL];rfl
 have hlv:=G9 hs1.1 hs2.1
 repeat'(first|refine gD ?_|(conv=>whnf);first|refine Cl.mk (vK h.Spans h.Larges hs1 hs2 hlay) ?_)
 (conv=>whnf)
 refine Lp.mk (ι:=Nat) (fun n=>[(3,.hold .box [.m es7]),(103,.hold .one (aD .own (m6 h.Spans h.Larges))),(104,.hold .one [I ((m6 h.Spans h.Larges).length)]),(105,.hold .one [I ((n:Nat):Int)])]) (fun n=>n<=(m6 h.Spans h.Larges).length/\((m6 h.Spans h.Larges).take n).all (fun a=>decide ((lg h).count a=1))=true) (fun n=>(m6 h.Spans h.Larges).length - n) (0) ?_ (⟨Q0 _,rfl⟩) fun n hn=>?_
 ·exact wB
 obtain⟨hn,an⟩:=hn;by_cases ln:n<(m6 h.Spans h.Larges).length
 ·have hz:=ah ln
  rw[hall]at hes7
  repeat'(first|refine gD ?_|(conv=>whnf);first|with_reducible (first|refine Ix.nat (aa hz) ?_|refine Bf.N (fun hq=>?_) (fun hq=>?_))|refine Rw.one rfl (aa hz) rfl ?_|refine Ml.mk (hes7 _) ?_)
  all_goals first
   |exact hno (LH (dU hz (P0 (by omega))))
   | ((conv=>whnf);refine Nx.mk (n+1) ⟨by omega,cy hz an (O0 (by omega))⟩ (by omega) ?_;(exact wB))
 ·repeat'(first|refine gD ?_|fail)
  exact R0 (fun z=>[B z]) ((by unfold iI;rw[ai,aq,aq6,gg (by omega) an];rfl))
set_option maxHeartbeats 8000000
def je (h:ab):Bool:=(((((((aA h.Kernel&&bv (dQ h) h.Free)&&bk h.Spans h.Larges)&&(pages0 h&&m0 h))&&cT h)&&h.Caches.all br)&&(eS h&&iI h))&&bW h)&&oG h
theorem mV (h:ab) (hs:ab.sml h):ao Tryz.prog 20 false [.val (some 24) (ab.enc .imm h)] .one [B (je h)]:=by
 have hsA:=hs;obtain⟨hsk,hsf,hs1,hs2,hso,hsc,hsm,hsq,hsj⟩:=hs;have hst:tB h:=hsk.1.2;have hpn:dQ h<=1048576:=hst.1;have hlo:h.Objs.length<=1048576:=hso.1;have hlc:h.Caches.length<=1048576:=hsc.1;have hlb:h.Mail.Buffers.length<=1048576:=hsm.1.1;have hlp:h.Job.Plan.Cells.length<=1048576:=hsj;have c1:=xd h.Kernel hsk;have c2:=xt (dQ h) h.Free ⟨by omega,by omega⟩ hsf;have c3:=oI h.Spans h.Larges hs1 hs2;have c6:=sW h.Mail hsm;have c7:=Ba h.Quar hsq;cases e1:aA h.Kernel<;>rw[e1]at c1
 ·refine fO 154 [] Tryz.func20 rfl ?_
  repeat'(first|refine gO ?_|(conv=>whnf);first|with_reducible refine Bf.N (fun hq=>?_) (fun hq=>?_)|refine Cl.mk c1 ?_)
  all_goals first
   | exact R0 (fun z=>[B z]) ((by unfold je ;rw[e1];simp))
   |(exfalso;omega)
 cases e2:bv (dQ h) h.Free<;>rw[e2]at c2
 ·refine fO 154 [] Tryz.func20 rfl ?_
  repeat'(first|refine gO ?_|(conv=>whnf);first|with_reducible refine Bf.N (fun hq=>?_) (fun hq=>?_)|refine Cl.mk c1 ?_|refine Cl.mk c2 ?_)
  all_goals first
   | exact R0 (fun z=>[B z]) ((by unfold je ;rw[e2];simp))
   |(exfalso;omega)
 cases e3:bk h.Spans h.Larges<;>rw[e3]at c3
 ·refine fO 154 [] Tryz.func20 rfl ?_
  repeat'(first|refine gO ?_|(conv=>whnf);first|with_reducible refine Bf.N (fun hq=>?_) (fun hq=>?_)|refine Cl.mk c1 ?_|refine Cl.mk c2 ?_|refine Cl.mk c3 ?_)
  all_goals first
   | exact R0 (fun z=>[B z]) ((by unfold je ;rw[e3];simp))
   |(exfalso;omega)
 have c4:=yK h hs1 hs2 hst hsf e3;cases e4:(pages0 h&&m0 h)<;>rw[e4]at c4
 ·refine fO 154 [] Tryz.func20 rfl ?_
  repeat'(first|refine gO ?_|(conv=>whnf);first|with_reducible refine Bf.N (fun hq=>?_) (fun hq=>?_)|refine Cl.mk c1 ?_|refine Cl.mk c2 ?_|refine Cl.mk c3 ?_|refine Cl.mk c4 ?_)
  all_goals first
   | exact R0 (fun z=>[B z]) ((by unfold je ;rw[e4];simp))
   |(exfalso;omega)
 cases e6:bD h.Mail<;>rw[e6]at c6
 ·refine fO 154 [] Tryz.func20 rfl ?_
  repeat'(first|refine gO ?_|(conv=>whnf);first|with_reducible refine Bf.N (fun hq=>?_) (fun hq=>?_)|refine Cl.mk c1 ?_|refine Cl.mk c2 ?_|refine Cl.mk c3 ?_|refine Cl.mk c4 ?_|refine Cl.mk c6 ?_)
  all_goals first
   | exact R0 (fun z=>[B z]) ((by unfold je cT;rw[e6];simp))
   |(exfalso;omega)
 by_cases hcl:h.Caches.length=h.Mail.Buffers.length;rotate_left
 ·refine fO 154 [] Tryz.func20 rfl ?_
  repeat'(first|refine gO ?_|(conv=>whnf);first|with_reducible refine Bf.N (fun hq=>?_) (fun hq=>?_)|refine Cl.mk c1 ?_|refine Cl.mk c2 ?_|refine Cl.mk c3 ?_|refine Cl.mk c4 ?_|refine Cl.mk c6 ?_)
  all_goals first
   | exact R0 (fun z=>[B z]) ((by unfold je cT;rw[P0 hcl];simp))
   |(exfalso;omega)
 cases e7:f6 h.Quar<;>rw[e7]at c7
 ·refine fO 154 [] Tryz.func20 rfl ?_
  repeat'(first|refine gO ?_|(conv=>whnf);first|with_reducible refine Bf.N (fun hq=>?_) (fun hq=>?_)|refine Cl.mk c1 ?_|refine Cl.mk c2 ?_|refine Cl.mk c3 ?_|refine Cl.mk c4 ?_|refine Cl.mk c6 ?_|refine Cl.mk c7 ?_)
  all_goals first
   | exact R0 (fun z=>[B z]) ((by unfold je cT;rw[e7];simp))
   |(exfalso;omega)
 have hmc:cT h=true:=by unfold cT;rw[e6,O0 hcl,e7];rfl
 refine fO 154 [] Tryz.func20 rfl ?_
 repeat'(first|refine gA ?_|(conv=>whnf);first|with_reducible refine Bf.N (fun hq=>?_) (fun hq=>?_)|refine Cl.mk c1 ?_|refine Cl.mk c2 ?_|refine Cl.mk c3 ?_|refine Cl.mk c4 ?_|refine Cl.mk c6 ?_|refine Cl.mk c7 ?_)
 all_goals try(exfalso;omega)
 (conv=>whnf)
 refine Lp.mk (ι:=Nat) (fun k=>[(1,.hold .box (ab.enc .imm h)),(57,.hold .one (nC .imm h.Caches)),(58,.hold .one [I (h.Caches.length)]),(59,.hold .one [I ((k:Nat):Int)])]) (fun k=>k<=h.Caches.length/\(h.Caches.take k).all br=true) (fun k=>h.Caches.length - k) (0) ?_ (⟨Q0 _,rfl⟩) fun k hk=>?_
 ·exact wB
 obtain⟨hk,ak⟩:=hk;by_cases lk:k<h.Caches.length
 ·have hx:=ah lk
  have c8:=yY (nth h.Caches k) (hsc.2 _ (am lk));cases e8:br (nth h.Caches k)<;>rw[e8]at c8
  ·repeat'(first|refine gD ?_|(conv=>whnf);first|with_reducible refine Ix.nat (aa hx) ?_|refine Cl.mk c8 ?_)
   exact R0 (fun z=>[B z]) ((by unfold je;rw[dU hx e8];simp))
  ·repeat'(first|refine gD ?_|(conv=>whnf);first|with_reducible refine Ix.nat (aa hx) ?_|refine Cl.mk c8 ?_)
   ((conv=>whnf);refine Nx.mk (k+1) ⟨by omega,cy hx ak e8⟩ (by omega) ?_;(exact wB))
 have hca:h.Caches.all br=true:=gg (by omega) ak;have c9:=BD h hs1 hs2 hlo hlc;have c10:=tX h hsA e3 e6 (v3.1 hca);have c12:=ET h.Job hsj;have c13:=sY h h.Job.Plan.Keep hs1.1;have c14:=sY h h.Job.Plan.Move hs1.1;cases e9:eS h<;>rw[e9]at c9
 ·repeat'(first|refine gD ?_|(conv=>whnf);first|refine Cl.mk c9 ?_)
  all_goals first
   | exact R0 (fun z=>[B z]) ((by unfold je;rw[e9];simp))
   |(exfalso;omega)
 cases e10:iI h<;>rw[e10]at c10
 ·repeat'(first|refine gD ?_|(conv=>whnf);first|refine Cl.mk c9 ?_|refine Cl.mk c10 ?_)
  all_goals first
   | exact R0 (fun z=>[B z]) ((by unfold je;rw[e10];simp))
   |(exfalso;omega)
 by_cases hn:bW h=true;rotate_left
 ·have hn2:bW h=false:=by simpa using hn
  have hn':=hn2;unfold bW at hn';rw[T3]at hn'
  repeat'(first|refine gD ?_|(conv=>whnf);first|with_reducible refine Bf.D (fun hq=>?_) (fun hq=>?_)|refine Cl.mk (aJ _ _ _) ?_|refine Cl.mk (mN _) ?_|refine Cl.mk c9 ?_|refine Cl.mk c10 ?_)
  all_goals first
   | exact R0 (fun z=>[B z]) ((by unfold je;rw[hn2];simp))
   |(exfalso;omega)
 have hn':=hn;unfold bW at hn';rw[C0]at hn';have hfin:je h=oG h:=by unfold je;rw[e1,e2,e3,e4,hmc,hca,hn,e9,e10];rfl
 rw[hfin];unfold oG;cases em:h.Meshing
 ·repeat'(first|refine gD ?_|(conv=>whnf);first|with_reducible (first|refine Bf.D (fun hq=>?_) (fun hq=>?_)|refine Bf.E (fun hq=>?_) (fun hq=>?_))|refine Cl.mk (aJ _ _ _) ?_|refine Cl.mk (mN _) ?_|refine Cl.mk c9 ?_|refine Cl.mk c10 ?_|refine Bf.f em ?_)
  all_goals first
   | exact R0 (fun z=>[B z]) ((by unfold qC;simp only[Bool.false_eq_true,if_false];first|(symm;exact P0 (by omega))|(rw[U3,beq_iff_eq,C0];omega)))
   |(exfalso;omega)
 ·cases e12:iH h.Job<;>rw[e12]at c12
  all_goals
   repeat'(first|refine gD ?_|(conv=>whnf);first|with_reducible (first|refine Bf.D (fun hq=>?_) (fun hq=>?_)|refine Bf.D (fun hq=>?_) (fun hq=>?_))|refine Cl.mk (aJ _ _ _) ?_|refine Cl.mk (mN _) ?_|refine Cl.mk c9 ?_|refine Cl.mk c10 ?_|refine Cl.mk c12 ?_|refine Cl.mk c13 ?_|refine Cl.mk c14 ?_|refine Bf.t em ?_)
   all_goals first
    | exact R0 (fun z=>[B z]) ((by grind))
    |(exfalso;omega)
theorem gx {α:Type} [Inhabited α] {xs:List α} {f:α->Int} (hn:(xs.map f).Nodup) {i j:Nat} (hi:i<xs.length) (hj:j<xs.length) (h:f (nth xs i)=f (nth xs j)):i=j:=by
 have h1:=List.pairwise_iff_getElem.1 hn;rcases Nat.lt_trichotomy i j with hlt|rfl|hlt
 ·have:=h1 i j (by simpa using hi) (by simpa using hj) hlt
  simp only[List.getElem_map]at this;rw[bn (Q1 hi),bn (Q1 hj)]at h;exact absurd h this
 ·rfl
 ·have:=h1 j i (by simpa using hj) (by simpa using hi) hlt
  simp only[List.getElem_map]at this;rw[bn (Q1 hi),bn (Q1 hj)]at h;exact absurd h.symm this
theorem bf {α:Type} [Inhabited α] {xs:List α} {x:α} (h:x∈xs):∃ i,i<xs.length/\nth xs i=x:=by
 obtain⟨i,hi⟩:=List.mem_iff_getElem?.1 h;exact⟨i,(R1.1 hi).1,bn hi⟩
theorem pE:∀ {H L:List Int},H.Nodup->(∀ x∈H,x∈L)->L.length<=H.length->∀ x∈L,x∈H
 | [],L,_,_,hl,x,hx=>by
  have:L=[]:=z5 (by simpa using hl);subst this;exact hx
 | y::H,L,hn,hs,hl,x,hx=>by
  have hy:y∈L:=hs y (I1 ..);have hn2:=List.nodup_cons.1 hn;by_cases hxy:x=y
  ·subst hxy;exact I1 ..
  ·refine Z3 _ (pE (L:=L.erase y) hn2.2 (fun z hz=>?_) ?_ x ((List.mem_erase_of_ne hxy).2 hx))
   ·exact(List.mem_erase_of_ne (fun e:z=y=>hn2.1 (by rw[<-e];exact hz))).2 (hs z (Z3 _ hz))
   ·rw[List.length_erase_of_mem hy]
    simp only[List.length_cons]at hl;omega
theorem yz {H L:List Int} (hL:L.Nodup) (hs:∀ x∈H,x∈L):(H.Nodup/\H.length=L.length)↔∀ a∈L,H.count a=1:=by
 constructor
 ·rintro⟨hn,hl⟩ a ha
  have hm:=pE hn hs (by omega) a ha;have h1:=List.nodup_iff_count.1 hn a;have h2:=List.count_pos_iff.2 hm;omega
 ·intro hc
  have hn:H.Nodup:=List.nodup_iff_count.2 fun a=>by
   by_cases ha:a∈H
   ·rw[hc a (hs a ha)];exact I2 1
   ·rw[List.count_eq_zero_of_not_mem ha];exact Q0 _
  refine⟨hn,?_⟩;have:H.Perm L:=List.perm_iff_count.2 fun a=>by
   by_cases ha:a∈L
   ·rw[hc a ha]
    have h1:=List.nodup_iff_count.1 hL a;have h2:=List.count_pos_iff.2 ha;omega
   ·rw[List.count_eq_zero_of_not_mem ha,List.count_eq_zero_of_not_mem fun h=>ha (hs a h)]
  exact this.length_eq
theorem db {l:a8} {n:Nat} {p:Int} : p∈lpgs l n↔∃ k:Nat,k<n/\p=l.Page+(k:Nat):=by
 unfold lpgs;simp only[O3,List.mem_range];constructor
 ·rintro⟨k,hk,rfl⟩;exact⟨k,hk,rfl⟩
 ·rintro⟨k,hk,rfl⟩;exact⟨k,hk,rfl⟩
structure q8 (sp:List au) (la:List a8):Prop where
 sok:∀ s∈sp,aY s=true
 lok:∀ l∈la,bR l=true
 nd:(sp.map (·.Page)).Nodup
 dis:∀ s∈sp,∀ l∈la,∀ k:Nat,k<l.Pages.toNat->s.Page≠l.Page+(k:Nat)
 one:∀ i j,i<la.length->j<la.length->∀ k k':Nat,k<(nth la i).Pages.toNat->k'<(nth la j).Pages.toNat->(nth la i).Page+(k:Nat)=(nth la j).Page+(k':Nat)->i=j
theorem q8.of {sp:List au} {la:List a8} (h:bk sp la=true):q8 sp la:=by
 obtain⟨h1,h2,h3⟩:=cY h;unfold pgs at h3;rw[List.nodup_append]at h3;obtain⟨h4,h5,h6⟩:=h3;have h7:=List.pairwise_flatMap.1 h5;refine⟨fun s hs=>v3.1 h1 s hs,fun l hl=>v3.1 h2 l hl,h4,fun s hs l hl k hk e=>?_,fun i j hi hj k k' hk hk' e=>?_⟩
 ·exact h6 _ (O3.2 ⟨s,hs,rfl⟩) _ (List.mem_flatMap.2 ⟨l,hl,db.2 ⟨k,hk,rfl⟩⟩) e
 ·have h8:=List.pairwise_iff_getElem.1 h7.2
  have ei:=bn (Q1 hi);have ej:=bn (Q1 hj);rw[ei]at hk e;rw[ej]at hk' e;rcases Nat.lt_trichotomy i j with hlt|heq|hlt
  ·exact absurd e (h8 i j hi hj hlt _ (db.2 ⟨k,hk,rfl⟩) _ (db.2 ⟨k',hk',rfl⟩))
  ·exact heq
  ·exact absurd e.symm (h8 j i hj hi hlt _ (db.2 ⟨k',hk',rfl⟩) _ (db.2 ⟨k,hk,rfl⟩))
theorem fI {s:au} {a:Int} (hs:aY s=true):cw s a=true↔16*s.Page<=a/\a<=16*s.Page+15:=by
 unfold cw;rw[hs];simp
theorem iE {sp:List au} {la:List a8} (hL:q8 sp la) {a:Int} {i:Nat} (hi:i<sp.length) (h:16*(nth sp i).Page<=a/\a<=16*(nth sp i).Page+15):denotes sp la a=ov i (nth sp i) a:=by
 refine mb hi ((fI (hL.sok _ (am hi))).2 h) fun j z hj hz=>?_
 cases e:cw z a with
 | false=>rfl
 | true=>
  exfalso;have hjl:=(R1.1 hz).1;have h2:=(fI (hL.sok z (O1 hz))).1 e;have hzj:=bn hz;subst hzj;have:=gx (f:=(·.Page)) hL.nd hi hjl (by omega);omega
theorem M9 {sp:List au} {la:List a8} (hL:q8 sp la) {a:Int} (h:∀ i,i<sp.length->¬(16*(nth sp i).Page<=a/\a<=16*(nth sp i).Page+15)):∀ (j:Nat) (z:au),j<sp.length->sp[j]? = some z->cw z a=false:=by
 intro j z hj hz;cases e:cw z a with
 | false=>rfl
 | true=>
  have h2:=(fI (hL.sok z (O1 hz))).1 e;have hzj:=bn hz;subst hzj;exact absurd h2 (h j hj)
theorem JM {sp:List au} {la:List a8} (hL:q8 sp la) (a:Int):a∈live0 sp la↔a∈hJ sp la:=by
 have hS:a∈hJ sp la↔∃ n:Nat,n<512/\iZ sp la n=true/\(n:Int)=a:=by
  unfold hJ ke;simp only[O3,P3,List.mem_range];constructor
  ·rintro⟨n,⟨h1,h2⟩,h3⟩;exact⟨n,h1,h2,h3⟩
  ·rintro⟨n,h1,h2,h3⟩;exact⟨n,⟨h1,h2⟩,h3⟩
 rw[hS];unfold live0 eG;rw[C2,List.mem_flatMap,O3];constructor
 ·rintro(⟨s,hs,ha⟩|⟨l,hl,rfl⟩)
  ·obtain⟨i,hi,rfl⟩:=bf hs
   unfold d7 at ha;obtain⟨k,hk,rfl⟩:=O3.1 ha;obtain⟨hk1,hk2⟩:=P3.1 hk;have hk1:=List.mem_range.1 hk1;have hc:=aF (hL.sok _ hs);have hsc:=yw ⟨hc.2.2.1,hc.2.2.2⟩;have hsb:=qb (nth sp i).Class;unfold jR;have hbd:0<=(k:Int)*csz (nth sp i).Class/\(k:Int)*csz (nth sp i).Class<=15:=by
    rcases cg ⟨hc.2.2.1,hc.2.2.2⟩ with e|e|e|e<;>rw[e]at hsc |-<;>omega
   have hd:=iE hL hi (a:=16*(nth sp i).Page+(k:Nat)*csz (nth sp i).Class) (by omega);have hq:(16*(nth sp i).Page+(k:Nat)*csz (nth sp i).Class - 16*(nth sp i).Page) / csz (nth sp i).Class=(k:Nat)/\(16*(nth sp i).Page+(k:Nat)*csz (nth sp i).Class - 16*(nth sp i).Page) % csz (nth sp i).Class=0:=by
    rcases cg ⟨hc.2.2.1,hc.2.2.2⟩ with e|e|e|e<;>rw[e]<;>omega
   refine⟨(16*(nth sp i).Page+(k:Nat)*csz (nth sp i).Class).toNat,by omega,?_,by omega⟩;have hcast:(((16*(nth sp i).Page+(k:Nat)*csz (nth sp i).Class).toNat:Nat):Int)=16*(nth sp i).Page+(k:Nat)*csz (nth sp i).Class:=by omega
   unfold iZ;rw[hcast,hd];simp only[ov,hq.1,hq.2,hk2]
   rfl
  ·obtain⟨i,hi,rfl⟩:=bf hl
   have hf:=aU (hL.lok _ hl);have hf2:=cr (hL.lok _ hl);have h1:=M9 hL (a:=16*(nth la i).Page) fun j hj he=>hL.dis _ (am hj) _ hl 0 (by omega) (by omega)
   have hh:bw (nth la i) (16*(nth la i).Page)=true:=by
    unfold bw;rw[hL.lok _ hl,O0 (by omega)];rfl
   have hd:=k7 (a:=16*(nth la i).Page) (I2 _) h1 hi hh fun j z hj hz=>by
    cases e:bw z (16*(nth la i).Page) with
    | false=>rfl
    | true=>
     exfalso;have hjl:=(R1.1 hz).1;have hzm:=O1 hz;have hzj:=bn hz;subst hzj;have hf3:=aU (hL.lok _ hzm);have hlo:=hL.lok _ hzm;unfold bR at hlo;rw[C0]at hlo;unfold bw at e;rw[I0,C0]at e;have:=hL.one i j hi hjl 0 ((nth la i).Page - (nth la j).Page).toNat (by omega) (by omega) (by omega);omega
   refine⟨(16*(nth la i).Page).toNat,by omega,?_,by omega⟩;have hcast:(((16*(nth la i).Page).toNat:Nat):Int)=16*(nth la i).Page:=by omega
   unfold iZ;rw[hcast,hd];simp
 ·rintro⟨n,hn,hl,rfl⟩
  cases h1:sp.findIdx? (cw · (n:Nat)) with
  | some i=>
   obtain⟨hi,hp,-⟩:=Z4.1 h1;have hi':=bn (Q1 hi);rw[<-hi']at hp;have hs:=hL.sok _ (am hi);have h2:=(fI hs).1 hp;have hc:=aF hs;have hsc:=yw ⟨hc.2.2.1,hc.2.2.2⟩;have hd:denotes sp la (n:Nat)=ov i (nth sp i) (n:Nat):=by unfold denotes;rw[h1]
   rw[q7 hd]at hl;simp only[I0,R4,C0]at hl;simp only[ov]at hl;cases hh:aT (nth sp i).Bits (((n:Int) - 16*(nth sp i).Page) / csz (nth sp i).Class) with
   | false=>rw[hh]at hl;simp at hl
   | true=>
    have hz:((n:Int) - 16*(nth sp i).Page) % csz (nth sp i).Class=0:=hl.1;refine .inl ⟨nth sp i,am hi,?_⟩;unfold d7;refine O3.2 ⟨(((n:Int) - 16*(nth sp i).Page) / csz (nth sp i).Class).toNat,P3.2 ⟨List.mem_range.2 ?_,?_⟩,?_⟩
    ·rcases cg ⟨hc.2.2.1,hc.2.2.2⟩ with e|e|e|e<;>rw[e]at hsc hz |-<;>omega
    ·have:((((n:Int) - 16*(nth sp i).Page) / csz (nth sp i).Class).toNat:Int)=((n:Int) - 16*(nth sp i).Page) / csz (nth sp i).Class:=by
      rcases cg ⟨hc.2.2.1,hc.2.2.2⟩ with e|e|e|e<;>rw[e]<;>omega
     rw[this];exact hh
    ·unfold jR
     rcases cg ⟨hc.2.2.1,hc.2.2.2⟩ with e|e|e|e<;>rw[e]at hz |-<;>omega
  | none=>
   cases h2:la.findIdx? (bw · (n:Nat)) with
   | some i=>
    obtain⟨hi,hp,-⟩:=Z4.1 h2;have hd:denotes sp la (n:Nat) = ⟨3,i,0,(n:Nat) - 16*(nth la i).Page⟩:=by unfold denotes;rw[h1,h2]
    rw[q7 hd]at hl;simp only[I0,C0]at hl;exact .inr ⟨nth la i,am hi,by have:=hl.1;omega⟩
   | none=>
    have hd:denotes sp la (n:Nat) = ⟨0,0,0,0⟩:=by unfold denotes;rw[h1,h2]
    rw[q7 hd]at hl;simp at hl
theorem tU {sp:List au} {la:List a8} (hL:q8 sp la) {a:Int} (h0:(denotes sp la a).Offset=0) (hk:(denotes sp la a).Kind=1\/(denotes sp la a).Kind=3):a∈hJ sp la:=by
 have hb:0<=a/\a<512:=by
  unfold denotes at h0 hk;cases h1:sp.findIdx? (cw · a) with
  | some i=>
   obtain⟨hi,hp,-⟩:=Z4.1 h1;have hm:=List.getElem_mem hi;have h2:=(fI (hL.sok _ hm)).1 hp;have hc:=aF (hL.sok _ hm);omega
  | none=>
   rw[h1]at h0 hk;cases h2:la.findIdx? (bw · a) with
   | some i=>
    obtain⟨hi,-⟩:=Z4.1 h2;rw[h2]at h0;have hf:=aU (hL.lok _ (am hi));simp only at h0;omega
   | none=>rw[h2]at hk;simp at hk
 have hc:((a.toNat:Nat):Int)=a:=by omega
 unfold hJ ke;refine O3.2 ⟨a.toNat,P3.2 ⟨List.mem_range.2 (by omega),?_⟩,hc⟩;unfold iZ;rw[hc];simp only[I0,R4,C0];exact⟨h0,hk⟩
theorem nu (sp:List au) (la:List a8):(hJ sp la).Nodup:=by
 unfold hJ ke List.Nodup;rw[List.pairwise_map];exact(List.nodup_range.sublist List.filter_sublist).imp fun h e=>h (by omega)
theorem rp {h:ab} (hL:q8 h.Spans h.Larges) {a c:Int} (hh:cV h a c=true):a∈hJ h.Spans h.Larges:=by
 unfold cV at hh;simp only[I0,C0]at hh;exact tU hL hh.1.2 (.inl hh.1.1)
theorem J0 {h:ab} (hL:q8 h.Spans h.Larges) {o:bJ} (hh:jv h o=true):o.Addr∈hJ h.Spans h.Larges:=by
 unfold jv at hh;simp only[I0,R4,C0]at hh;exact tU hL hh.1 (hh.2.elim (fun e=>.inl e.1) (fun e=>.inr e.1))
theorem Ei (h:ab) (a:Int):(lg h).count a=(holders h).count a:=by
 unfold lg holders;simp only[P4];omega
theorem ko (h:ab):gw h=true↔(h.Caches.all (dX h)=true/\h.Quar.Lst.all (gp h)=true)/\(aK h.Mail).all (ju h)=true:=by
 unfold gw;simp only[I0]
theorem jm {h:ab} (hL:q8 h.Spans h.Larges) (ho:eS h=true) (hh:gw h=true):∀ a∈holders h,a∈hJ h.Spans h.Larges:=by
 obtain⟨⟨h1,h2⟩,h3⟩:=(ko h).1 hh;intro a ha;unfold holders at ha;simp only[C2]at ha;rcases ha with((ha|ha)|ha)|ha
 ·obtain⟨o,hom,rfl⟩:=O3.1 ha
  obtain⟨i,hi,rfl⟩:=bf hom;have h4:=d9 ho hi;unfold objAt at h4;rw[I0]at h4;exact J0 hL h4.2
 ·unfold ch at ha
  obtain⟨c,hc,ha⟩:=List.mem_flatMap.1 ha;obtain⟨l,hl,ha⟩:=List.mem_flatten.1 ha;obtain⟨k,hk,rfl⟩:=bf hl;have h4:=v3.1 h1 c hc;unfold dX at h4;have h5:=v3.1 (show(nth c.Lists k).all _=true from d9 h4 hk) a ha;exact rp hL h5
 ·obtain⟨x,hx,rfl⟩:=O3.1 ha
  exact rp hL (v3.1 h2 x hx)
 ·exact rp hL (v3.1 h3 a ha)
theorem Gr {h:ab} (hlay:bk h.Spans h.Larges=true) (ho:eS h=true):(jt h&&ia h)=iI h:=by
 have hL:=q8.of hlay;have hq:(jt h=true/\h.Quar.Lst.all (gp h)=true)↔h.Quar.Lst.all (qd h)=true:=by
  unfold jt qd;simp only[v3,I0];exact⟨fun e x hx=>⟨e.2 x hx,e.1 x hx⟩,fun e=>⟨fun x hx=>(e x hx).2,fun x hx=>(e x hx).1⟩⟩
 have hI:iI h=true↔((h.Caches.all (dX h)=true/\h.Quar.Lst.all (qd h)=true)/\(aK h.Mail).all (ju h)=true)/\∀ a∈hJ h.Spans h.Larges,(holders h).count a=1:=by
  unfold iI;simp only[I0];refine and_congr Iff.rfl ?_;simp only[v3,C0,Ei];unfold m6 sorted;simp only[List.mem_mergeSort,JM hL]
 have hSS:ia h=true↔gw h=true/\((holders h).Nodup/\(holders h).length=(hJ h.Spans h.Larges).length):=by
  unfold ia;simp only[I0,C0,and_assoc]
 rw[U3,I0,hI,hSS];constructor
 ·rintro⟨h1,h2,h3⟩
  obtain⟨⟨h4,h5⟩,h6⟩:=(ko h).1 h2;exact⟨⟨⟨h4,hq.1 ⟨h1,h5⟩⟩,h6⟩,(yz (nu ..) (jm hL ho h2)).1 h3⟩
 ·rintro⟨⟨⟨h1,h2⟩,h3⟩,h4⟩
  obtain⟨h5,h6⟩:=hq.2 h2;have h7:gw h=true:=(ko h).2 ⟨⟨h1,h6⟩,h3⟩;exact⟨h5,h7,(yz (nu ..) (jm hL ho h7)).2 h4⟩
theorem iv (s t:au):meshable s t=meshable t s:=by
 unfold meshable;rw[Bool.and_comm (aY s)]
 congr 1
 refine decide_eq_decide.2 ?_;rw[Nat.and_comm];exact⟨fun h=>⟨h.1.symm,fun e=>h.2.1 e.symm,h.2.2⟩,fun h=>⟨h.1.symm,fun e=>h.2.1 e.symm,h.2.2⟩⟩
theorem dw {t:aG} {f:Int} {p:Nat} : (p:Int)∈pagesOn t f↔p<t.Entries.length/\(nth t.Entries p).Mode≠0/\(nth t.Entries p).Frame=f:=by
 unfold pagesOn iG;simp only[O3,P3,List.mem_range];constructor
 ·rintro⟨n,⟨h1,h2⟩,h3⟩
  obtain rfl:n=p:=by omega
  unfold Hu at h2;rw[C0]at h2;exact⟨h1,h2⟩
 ·rintro⟨h1,h2⟩
  exact⟨p,⟨h1,by unfold Hu;rw[C0];exact h2⟩,rfl⟩
theorem sC {t:aG} {f q:Int} (h:q∈pagesOn t f):∃ p:Nat,q=(p:Nat):=by
 unfold pagesOn iG at h;obtain⟨n,-,rfl⟩:=O3.1 h;exact⟨n,rfl⟩
theorem qm {h:ab} (hp:pages0 h=true):(∀ i,i<h.Larges.length->∀ k:Nat,k<(nth h.Larges i).Pages.toNat->(aP h ((nth h.Larges i).Page+(k:Nat))).length=1)/\(∀ p∈pgs h.Spans h.Larges,p<dQ h)/\∀ p:Nat,p<dQ h->((nth (tbl h).Entries p).Mode≠0↔(p:Int)∈pgs h.Spans h.Larges):=by
 unfold pages0 at hp;simp only[I0]at hp;obtain⟨⟨⟨-,h1⟩,h2⟩,h3⟩:=hp;refine⟨fun i hi k hk=>?_,fun p hp=>?_,fun p hp=>?_⟩
 ·have h4:=d9 h1 hi
  unfold q9 at h4;rw[I0]at h4;have h5:=d9 h4.2 hk;unfold ve at h5;rw[C0]at h5;exact h5
 ·have:=v3.1 h2 p hp
  rw[C0]at this;exact this
 ·have h4:=d9 h3 hp
  unfold tl at h4;rw[I0,C0]at h4;exact h4.1
theorem vi {h:ab} {p:Nat} (hp:p<dQ h):ar (tbl h) (p:Nat)=nth (tbl h).Entries p:=kN hp
theorem eB {h:ab} {p:Nat} (hp:p<dQ h) (hm:(nth (tbl h).Entries p).Mode≠0):aP h (p:Nat)=pagesOn (tbl h) (nth (tbl h).Entries p).Frame:=by
 unfold aP;rw[show h.Kernel.Machine.Table=tbl h from rfl,vi hp,if_neg hm]
theorem lc {h:ab} (hL:q8 h.Spans h.Larges) {j:Nat} (hj:j<h.Spans.length):er h (nth h.Spans j).Page=(j:Nat):=by
 unfold er;refine dD (ah hj) (by unfold jb;simp) fun k z hk hz=>?_
 have hzk:=bn hz;have hkl:=(R1.1 hz).1;subst hzk;unfold jb;refine P0 fun e=>?_
 have:=gx (f:=(·.Page)) hL.nd hkl hj e;omega
theorem se {h:ab} (hlay:bk h.Spans h.Larges=true) (hp:pages0 h=true):sT h=m0 h:=by
 have hL:=q8.of hlay;obtain⟨f1,f2,f3⟩:=qm hp;have hpg:∀ i,i<h.Spans.length->∃ p:Nat,(nth h.Spans i).Page=(p:Nat)/\p<dQ h/\(nth (tbl h).Entries p).Mode≠0:=fun i hi=>by
  have hc:=aF (hL.sok _ (am hi));have hm:(nth h.Spans i).Page∈pgs h.Spans h.Larges:=by
   unfold pgs;exact C2.2 (.inl (O3.2 ⟨_,am hi,rfl⟩))
  have hlt:=f2 _ hm;refine⟨(nth h.Spans i).Page.toNat,by omega,by omega,?_⟩;refine(f3 _ (by omega)).2 ?_;rw[show(((nth h.Spans i).Page.toNat:Nat):Int)=(nth h.Spans i).Page by omega];exact hm
 rw[U3];unfold sT m0;rw[bZ,bZ];constructor
 ·intro hs i hi
  rw[bZ];intro j hj;have hjl:j<h.Spans.length:=by omega
  unfold jI;rw[R4,C0];by_cases hfr:(ar (tbl h) (nth h.Spans i).Page).Frame=(ar (tbl h) (nth h.Spans j).Page).Frame
  ·right
   obtain⟨p,hp1,hp2,hp3⟩:=hpg i hi;obtain⟨q,hq1,hq2,hq3⟩:=hpg j hjl;have h1:=v3.1 (hs i hi);rw[hp1,hq1,vi hp2,vi hq2]at hfr;have h2:(q:Int)∈aP h (nth h.Spans i).Page:=by
    rw[hp1,eB hp2 hp3];exact dw.2 ⟨hq2,hq3,hfr.symm⟩
   have h3:=h1 _ h2;unfold kC at h3;rw[<-hq1,lc hL hjl]at h3;rw[R4,I0,C0]at h3;rcases h3 with h3|h3
   ·omega
   ·simpa using h3.2
  ·exact .inl hfr
 ·intro hi0 i hi
  rw[v3];intro q hq;obtain⟨p,hp1,hp2,hp3⟩:=hpg i hi;have hq0:=hq;rw[hp1,eB hp2 hp3]at hq;obtain⟨q',rfl⟩:=sC hq;obtain⟨hq2,hq3,hq4⟩:=dw.1 hq;have hqm:=(f3 q' hq2).1 hq3;unfold pgs at hqm;rw[C2,O3,List.mem_flatMap]at hqm;rcases hqm with⟨s,hs,hsp⟩|⟨l,hl,hlp⟩
  ·obtain⟨j,hj,rfl⟩:=bf hs
   unfold kC;rw[<-hsp,lc hL hj];rw[R4,I0,C0,C0];have hfr:(ar (tbl h) (nth h.Spans i).Page).Frame=(ar (tbl h) (nth h.Spans j).Page).Frame:=by
    rw[hp1,hsp,vi hp2,vi hq2,hq4]
   rcases Nat.lt_trichotomy j i with hlt|heq|hlt
   ·have h1:=d9 (hi0 i hi) hlt
    unfold jI at h1;rw[R4,C0]at h1;exact .inr ⟨by omega,by simpa using h1.resolve_left fun e=>e hfr⟩
   ·exact .inl (by omega)
   ·have h1:=d9 (hi0 j hj) hlt
    unfold jI at h1;rw[R4,C0]at h1;exact .inr ⟨by omega,by rw[iv];simpa using h1.resolve_left fun e=>e hfr.symm⟩
  ·exfalso
   obtain⟨i2,hi2,rfl⟩:=bf hl;obtain⟨k,hk,hkp⟩:=db.1 hlp;have h1:=f1 i2 hi2 k hk;rw[<-hkp,eB hq2 hq3]at h1;have m1:(q':Int)∈pagesOn (tbl h) (nth (tbl h).Entries q').Frame:=dw.2 ⟨hq2,hq3,rfl⟩;have m2:(p:Int)∈pagesOn (tbl h) (nth (tbl h).Entries q').Frame:=dw.2 ⟨hp2,hp3,hq4.symm⟩;obtain⟨z,hz⟩:=List.length_eq_one_iff.1 h1;rw[hz]at m1 m2;simp only[X0]at m1 m2;have:=hL.dis _ (am hi) _ (am hi2) k hk;omega
theorem ru (h:ab):je h=eC h:=by
 unfold je eC kD;cases e1:aA h.Kernel with
 | false=>rfl
 | true=>
  cases e2:bv (dQ h) h.Free with
  | false=>rfl
  | true=>
   cases e3:bk h.Spans h.Larges with
   | false=>rfl
   | true=>
    cases e4:pages0 h with
    | false=>rfl
    | true=>
     rw[se e3 e4];cases e5:eS h with
     | false=>simp
     | true=>
      have:=Gr e3 e5;rw[<-this];cases m0 h<;>cases cT h<;>cases jt h<;>cases h.Caches.all br<;>cases bW h<;>cases ia h<;>cases oG h<;>rfl
def ovl (y r:a7):Bool:=decide (y.At<r.At+r.Len/\r.At<y.At+y.Len)
def kT (r:a7):List a7->Bool->Option (List a7)
 | [],put=>some (if put then [] else [r])
 | y::ys,put=>if ovl y r then none else if !put&&decide (y.At > r.At) then(kT r ys true).map fun t=>r::y::t else(kT r ys put).map fun t=>y::t
def cR (out:List a7):List a7->List a7
 | []=>out
 | y::ys=>match out.getLast? with
  | some z=>if z.At+z.Len=y.At then cR (out.dropLast++[⟨z.At,z.Len+y.Len⟩]) ys else cR (out++[y]) ys
  | none=>cR (out++[y]) ys
def iX:List a7->a7->List a7->Bool->Option (List a7)
 | [],r,out,done=>some (if done then out else out++[r])
 | y::ys,r,out,done=>
  if ovl y r then none
  else if y.At+y.Len=r.At then iX ys ⟨y.At,y.Len+r.Len⟩ out done
  else if r.At+r.Len=y.At then iX ys ⟨r.At,r.Len+y.Len⟩ out done
  else if y.At > r.At/\done=false then iX ys r (out++[r,y]) true
  else iX ys r (out++[y]) done
def mM (xs:List a7):Prop:=xs.Pairwise (fun a b=>a.At+a.Len<b.At)/\∀ y∈xs,1<=y.Len
theorem mM.tail {y:a7} {ys:List a7} (h:mM (y::ys)):mM ys:=⟨(List.pairwise_cons.1 h.1).2,fun z hz=>h.2 z (Z3 _ hz)⟩
theorem mM.head {y:a7} {ys:List a7} (h:mM (y::ys)):∀ z∈ys,y.At+y.Len<z.At:=(List.pairwise_cons.1 h.1).1
theorem iw:∀ (ys out:List a7),mM ys->(∀ z,out.getLast? = some z->∀ y∈ys,z.At+z.Len≠y.At)->cR out ys=out++ys
 | [],out,_,_=>by simp[cR]
 | y::ys,out,hg,hl=>by
  have hrec:cR (out++[y]) ys=out++y::ys:=by
   rw[iw ys (out++[y]) hg.tail fun z hz w hw=>by
     simp at hz;subst hz;have:=hg.head w hw;omega]
   simp
  unfold cR;split
  ·rename_i z hz
   rw[if_neg (hl z hz y (I1 ..))];exact hrec
  ·exact hrec
theorem uw {r:a7} : ∀ {ys:List a7},mM ys->(∀ y∈ys,r.At+r.Len<=y.At)->kT r ys true=some ys
 | [],_,_=>rfl
 | y::ys,hg,hr=>by
  have h1:=hr y (I1 ..);unfold kT;rw[if_neg (by unfold ovl;rw[C0];omega)];simp only[Bool.not_true,Bool.false_and,Bool.false_eq_true,if_false];rw[uw hg.tail fun z hz=>hr z (Z3 _ hz)]
  rfl
theorem sq {r:a7} (h1:1<=r.Len) {ys:List a7} (hg:mM ys) (hr:∀ y∈ys,r.At+r.Len<=y.At):kT r ys false=some (r::ys):=by
 cases ys with
 | nil=>rfl
 | cons y ys=>
  have h2:=hr y (I1 ..);unfold kT;rw[if_neg (by unfold ovl;rw[C0];omega),if_pos (by simp;omega),uw hg.tail fun z hz=>hr z (Z3 _ hz)]
  rfl
theorem oo {r:a7} : ∀ {ys out:List a7},mM ys->1<=r.Len->(∀ y∈ys,r.At+r.Len<y.At)->iX ys r out true=some (out++ys)
 | [],out,_,_,_=>by simp[iX]
 | y::ys,out,hg,h1,hr=>by
  have h2:=hr y (I1 ..);have h3:=hg.2 y (I1 ..);unfold iX;rw[if_neg (by unfold ovl;rw[C0];omega),if_neg (by omega),if_neg (by omega),if_neg (by simp),oo hg.tail h1 fun z hz=>hr z (Z3 _ hz)];simp
theorem vc {r:a7} (h1:1<=r.Len) {ys out:List a7} (hg:mM ys) (hr:∀ y∈ys,r.At+r.Len<=y.At):iX ys r out false=some (out++match ys with|[]=>[r]|y::zs=>if r.At+r.Len=y.At then⟨r.At,r.Len+y.Len⟩::zs else r::y::zs):=by
 cases ys with
 | nil=>simp[iX]
 | cons y ys=>
  have h2:=hr y (I1 ..);have h3:=hg.2 y (I1 ..);unfold iX;rw[if_neg (by unfold ovl;rw[C0];omega),if_neg (by omega)];by_cases e:r.At+r.Len=y.At
  ·rw[if_pos e]
   simp only[e,if_true];cases ys with
   | nil=>simp[iX]
   | cons z ys=>
    have h4:=hg.head z (I1 ..);have h5:=hg.tail.2 z (I1 ..);unfold iX;simp only;rw[if_neg (by unfold ovl;rw[C0];simp only;omega),if_neg (by omega),if_neg (by omega),if_pos (by simp;omega),oo hg.tail.tail (by simp only;omega) fun w hw=>by
      have:=hg.tail.head w hw;simp only;omega]
    simp
  ·rw[if_neg e,if_pos (by simp;omega),oo hg.tail h1 fun z hz=>by have:=hg.head z hz;omega]
   simp[e]
theorem yc {pages:Int} : ∀ {ys:List a7} {r:a7} {out:List a7},mM ys->1<=r.Len->(∀ z,out.getLast? = some z->(∀ y∈ys,z.At+z.Len<y.At)/\z.At+z.Len<r.At)->(kT r ys false).map (cR out)=iX ys r out false
 | [],r,out,_,h1,hl=>by
  show some (cR out [r])=some (out++[r]);rw[iw [r] out ⟨List.pairwise_singleton ..,fun y hy=>by rw[X0.1 hy];exact h1⟩ fun z hz y hy=>by rw[X0.1 hy];have:=(hl z hz).2;omega]
 | y::ys,r,out,hg,h1,hl=>by
  have h3:=hg.2 y (I1 ..);by_cases ho:ovl y r=true
  ·unfold kT iX
   rw[if_pos ho,if_pos ho];rfl
  ·have ho':=ho
   unfold ovl at ho';rw[C0]at ho';by_cases hlr:r.At+r.Len<=y.At
   ·-- all to the right
    have hall:∀ w∈y::ys,r.At+r.Len<=w.At:=fun w hw=>by
     rcases List.mem_cons.1 hw with rfl|hw
     ·exact hlr
     ·have:=hg.head w hw;omega
    rw[sq h1 hg hall,vc h1 hg hall];show some (cR out (r::y::ys))=_;have hfirst:cR out (r::y::ys)=cR (out++[r]) (y::ys):=by
     conv=>lhs;unfold cR
     split
     ·rename_i z hz;rw[if_neg (by have:=(hl z hz).2;omega)]
     ·rfl
    rw[hfirst];by_cases e:r.At+r.Len=y.At
    ·have:cR (out++[r]) (y::ys)=cR (out++[⟨r.At,r.Len+y.Len⟩]) ys:=by
      conv=>lhs;unfold cR
      simp[e]
     rw[this,iw ys _ hg.tail fun z hz w hw=>by
       simp at hz;subst hz;have:=hg.head w hw;simp only;omega]
     simp[e]
    ·rw[iw (y::ys) (out++[r]) hg fun z hz w hw=>by
       simp at hz;subst hz;rcases List.mem_cons.1 hw with rfl|hw
       · exact e
       · have:=hg.head w hw;omega]
     simp[e]
   ·have hyl:y.At+y.Len<=r.At:=by omega
    have hstep:∀ t,cR out (y::t)=cR (out++[y]) t:=fun t=>by
     conv=>lhs;unfold cR
     split
     ·rename_i z hz;rw[if_neg (by have:=(hl z hz).1 y (I1 ..);omega)]
     ·rfl
    have hs:(kT r (y::ys) false).map (cR out)=(kT r ys false).map (cR (out++[y])):=by
     conv=>lhs;unfold kT
     rw[if_neg ho,if_neg (by simp;omega),Option.map_map]
     congr 1
     funext t
     exact hstep t
    rw[hs];unfold iX;rw[if_neg ho];by_cases e:y.At+y.Len=r.At
    ·rw[if_pos e]
     by_cases hov:∃ w,ys.head? = some w/\ovl w r=true
     ·obtain⟨w,hw,ho2⟩:=hov
      cases ys with
      | nil=>cases hw
      | cons w2 ws=>
       obtain rfl:w2=w:=by simpa using hw
       have g1:=hg.head w2 (I1 ..);have g2:=hg.tail.2 w2 (I1 ..);have ho3:=ho2;unfold ovl at ho3;rw[C0]at ho3;unfold kT iX;rw[if_pos ho2,if_pos (by unfold ovl;rw[C0];simp only;omega)]
       rfl
     ·have hall:∀ w∈ys,r.At+r.Len<=w.At:=by
       cases ys with
       | nil=>intro w hw;cases hw
       | cons w2 ws=>
        have g1:=hg.head w2 (I1 ..);have g2:=hg.tail.2 w2 (I1 ..);have h5:¬ovl w2 r=true:=fun h=>hov ⟨w2,rfl,h⟩
        unfold ovl at h5;rw[C0]at h5;intro w hw;rcases List.mem_cons.1 hw with rfl|hw
        ·omega
        ·have:=hg.tail.head w hw;omega
      rw[sq h1 hg.tail hall,vc (r:=⟨y.At,y.Len+r.Len⟩) (by simp only;omega) hg.tail fun w hw=>by have:=hall w hw;simp only;omega];show some (cR (out++[y]) (r::ys))=_;have hj:cR (out++[y]) (r::ys)=cR (out++[⟨y.At,y.Len+r.Len⟩]) ys:=by
       conv=>lhs;unfold cR
       simp[e]
      rw[hj];cases ys with
      | nil=>simp[cR]
      | cons w2 ws=>
       by_cases e2:y.At+(y.Len+r.Len)=w2.At
       ·have hj2:cR (out++[⟨y.At,y.Len+r.Len⟩]) (w2::ws)=cR (out++[⟨y.At,y.Len+r.Len+w2.Len⟩]) ws:=by
         conv=>lhs;unfold cR
         simp[e2]
        rw[hj2,iw ws _ hg.tail.tail fun z hz w hw=>by
          simp at hz;subst hz;have:=hg.tail.head w hw;simp only;omega]
        simp[e2]
       ·rw[iw (w2::ws) _ hg.tail fun z hz w hw=>by
          simp at hz;subst hz;simp only;rcases List.mem_cons.1 hw with rfl|hw
          · exact e2
          · have:=hg.tail.head w hw
            have:=hall w2 (I1 ..);have:=hg.tail.2 w2 (I1 ..);omega]
        simp[e2]
    ·rw[if_neg e,if_neg (by omega),if_neg (by omega)]
     exact yc (pages:=pages) hg.tail h1 fun z hz=>by
      simp at hz;subst hz;exact⟨hg.head,by omega⟩
def hO (k:af) (f:Int):af:=if(pagesOn k.Machine.Table f).length=0 then {k with Machine:=⟨⟨k.Machine.Frames.Cells.set f.toNat (List.replicate 16 0),k.Machine.Frames.Used.set f.toNat false⟩,k.Machine.Table⟩} else k
def pH (k:af) (p:Int):af:={k with Machine:=⟨k.Machine.Frames,⟨k.Machine.Table.Entries.set p.toNat ⟨0,0⟩⟩⟩}
def dH (k:af) (p:Int):af:=if(ar k.Machine.Table p).Mode=0 then k else hO (pH k p) (ar k.Machine.Table p).Frame
theorem cx {α:Type} [Inhabited α] (xs:List α) (i j:Nat) (x:α):nth (xs.set i x) j=if i=j/\j<xs.length then x else nth xs j:=by
 unfold nth;rw[V1,V1,X2];by_cases h:i=j
 ·subst h
  by_cases h2:i<xs.length
  ·simp[h2]
  ·simp[h2]
 ·simp[h]
theorem od (k:af) (f:Int):(hO k f).Machine.Table=k.Machine.Table/\(hO k f).Calls=k.Calls/\(hO k f).Refuse=k.Refuse/\(hO k f).Machine.Frames.Cells.length=k.Machine.Frames.Cells.length/\(hO k f).Machine.Frames.Used.length=k.Machine.Frames.Used.length:=by
 unfold hO;split<;>simp
theorem p9 (k:af) (p:Int):(dH k p).Machine.Table.Entries.length=k.Machine.Table.Entries.length/\(dH k p).Calls=k.Calls/\(dH k p).Refuse=k.Refuse:=by
 unfold dH;split
 ·exact⟨rfl,rfl,rfl⟩
 ·obtain⟨h1,h2,h3,-⟩:=od (pH k p) (ar k.Machine.Table p).Frame
  rw[h1,h2,h3];simp[pH]
theorem aC {k:af} : aA k=true↔(∀ j,j<k.Refuse.length->0<=nth k.Refuse j)/\cZ k.Machine.Frames=true/\f9 k.Machine.Table k.Machine.Frames.Used.length=true/\(∀ j,j<k.Machine.Frames.Used.length->nth k.Machine.Frames.Used j=decide (0<(pagesOn k.Machine.Table (j:Int)).length))/\0<=k.Calls/\k.Calls<=100000/\k.Refuse.length<=40:=by
 unfold aA de;simp only[I0,bZ,C0,mQ,beq_iff_eq,and_assoc]
theorem bg {f:aZ} : cZ f=true↔1<=f.Cells.length/\f.Cells.length<=32/\f.Used.length=f.Cells.length/\∀ j,j<f.Cells.length->gQ (nth f.Cells j) (nth f.Used j)=true:=by
 unfold cZ;simp only[I0,C0,v3,and_assoc];refine and_congr Iff.rfl (and_congr Iff.rfl (and_congr_right fun hu=>⟨fun h j hj=>?_,fun h q hq=>?_⟩))
 ·exact h _ (O1 (tN (ah hj) (ah (by omega))))
 ·obtain⟨j,hj⟩:=List.mem_iff_getElem?.1 hq
  obtain⟨h1,h2⟩:=List.getElem?_zip_eq_some.1 hj;have:=h j (R1.1 h1).1
  rwa [bn h1,bn h2]at this
theorem bx {t:aG} {fr:Int} : f9 t fr=true↔(∀ j,j<t.Entries.length->jV fr (nth t.Entries j)=true)/\1<=t.Entries.length/\t.Entries.length<=32:=by
 unfold f9;simp only[I0,bZ,C0]
theorem ef {t:aG} {f:Int} : 0<(pagesOn t f).length↔∃ q,q<t.Entries.length/\(nth t.Entries q).Mode≠0/\(nth t.Entries q).Frame=f:=by
 unfold pagesOn iG;rw[U0,List.length_pos_iff_exists_mem];simp[Hu]
theorem cv {k:af} {p:Int} (h:aA k=true) (hm:(ar k.Machine.Table p).Mode≠0):0<=p/\p<k.Machine.Table.Entries.length/\ar k.Machine.Table p=nth k.Machine.Table.Entries p.toNat/\0<=(ar k.Machine.Table p).Frame/\(ar k.Machine.Table p).Frame<k.Machine.Frames.Used.length:=by
 obtain⟨-,-,h3,-⟩:=aC.1 h;have hp:0<=p/\p<k.Machine.Table.Entries.length:=by
  by_cases hp:0<=p/\p<k.Machine.Table.Entries.length
  ·exact hp
  ·unfold ar at hm;rw[if_neg hp]at hm;exact absurd rfl hm
 have he:ar k.Machine.Table p=nth k.Machine.Table.Entries p.toNat:=by unfold ar;rw[if_pos hp]
 have:=(bx.1 h3).1 p.toNat (by omega);rw[he]at hm |-;unfold jV at this;rw[C0]at this;exact⟨hp.1,hp.2,rfl,this.2.2.2 hm⟩
theorem vG {k:af} (p:Int) (h:aA k=true):aA (dH k p)=true:=by
 unfold dH;split
 ·exact h
 rename_i hm;obtain⟨hp0,hp1,he,hf0,hf1⟩:=cv h hm;obtain⟨h1,h2,h3,h4,h5,h6,h7⟩:=aC.1 h;obtain⟨g1,g2,g3,g4⟩:=bg.1 h2;obtain⟨t1,t2,t3⟩:=bx.1 h3;rw[he]at hm hf0 hf1 |-;generalize hfe:(nth k.Machine.Table.Entries p.toNat).Frame=f at hf0 hf1;have hent:∀ q,nth (k.Machine.Table.Entries.set p.toNat ⟨0,0⟩) q=if p.toNat=q then⟨0,0⟩ else nth k.Machine.Table.Entries q:=fun q=>by
  rw[cx];by_cases hq:p.toNat=q
  ·rw[if_pos ⟨hq,by omega⟩,if_pos hq]
  ·rw[if_neg (fun e=>hq e.1),if_neg hq]
 have hpos:∀ j:Int,0<(pagesOn (⟨k.Machine.Table.Entries.set p.toNat ⟨0,0⟩⟩ : aG) j).length↔∃ q,q<k.Machine.Table.Entries.length/\q≠p.toNat/\(nth k.Machine.Table.Entries q).Mode≠0/\(nth k.Machine.Table.Entries q).Frame=j:=fun j=>by
  rw[ef];simp only[Z0,hent]
  grind
 have hold:∀ j:Int,0<(pagesOn k.Machine.Table j).length↔∃ q,q<k.Machine.Table.Entries.length/\(nth k.Machine.Table.Entries q).Mode≠0/\(nth k.Machine.Table.Entries q).Frame=j:=fun j=>ef
 have htab:f9 ⟨k.Machine.Table.Entries.set p.toNat ⟨0,0⟩⟩ k.Machine.Frames.Used.length=true:=by
  rw[bx];simp only[Z0,hent];refine⟨fun j hj=>?_,t2,t3⟩;split
  ·unfold jV;simp
  ·exact t1 j hj
 unfold hO;split
 ·rename_i hz
  rw[aC];simp only[pH,Z0]at hz |-;refine⟨h1,?_,htab,fun j hj=>?_,h5,h6,h7⟩
  ·rw[bg]
   simp only[Z0,cx];refine⟨g1,g2,g3,fun j hj=>?_⟩;by_cases hjf:f.toNat=j
   ·rw[if_pos ⟨hjf,hj⟩,if_pos ⟨hjf,by omega⟩];decide
   ·rw[if_neg (fun e=>hjf e.1),if_neg (fun e=>hjf e.1)];exact g4 j hj
  ·rw[cx]
   by_cases hjf:f.toNat=j
   ·rw[if_pos ⟨hjf,hj⟩]
    have:(j:Int)=f:=by omega
    rw[this];exact(P0 fun hh=>absurd hz (Nat.ne_of_gt hh)).symm
   ·rw[if_neg (fun e=>hjf e.1),h4 j hj]
    refine decide_eq_decide.2 ?_;rw[hold,hpos]
    grind
 ·rename_i hz
  rw[aC];simp only[pH]at hz |-;refine⟨h1,h2,htab,fun j hj=>?_,h5,h6,h7⟩;rw[h4 j hj];refine decide_eq_decide.2 ?_;by_cases hjf:f=j
  ·have h0:0<(pagesOn (⟨k.Machine.Table.Entries.set p.toNat ⟨0,0⟩⟩ : aG) j).length:=by rw[<-hjf];exact Nat.pos_of_ne_zero hz
   have:=(hpos j).1 h0;constructor
   ·intro _;exact h0
   ·intro _;rw[hold];grind
  ·rw[hold,hpos];grind
theorem bG {k:af} (h:aA k=true):af.sml k:=by
 obtain⟨h1,h2,h3,h4,h5,h6,h7⟩:=aC.1 h;obtain⟨g1,g2,g3,g4⟩:=bg.1 h2;obtain⟨t1,t2,t3⟩:=bx.1 h3;refine⟨⟨⟨⟨by omega,fun r hr=>?_⟩,(by omega:_<=1048576)⟩,⟨by omega,fun e _=>trivial⟩⟩,(by omega:_<=1048576)⟩;obtain⟨j,hj⟩:=List.mem_iff_getElem?.1 hr;have:=g4 j (R1.1 hj).1;rw[bn hj]at this;unfold gQ at this;simp only[I0,C0]at this;show r.length<=1048576;omega
theorem Ap.cp {α:Type} {e:α->List C} {xs:List α} {sz by_:Nat} {K:List (List C)->Prop} (h2:∀ x,(e x).length=sz) (h3:∀ x,aV (e x)=true) (hl:xs.length<=1048576) (hb:by_<=1000) (hK:K (xs.map e)):Ap true [] (xs.map e) sz by_ K:=
 Ap.mk (fun r hr=>by cases hr) (fun r hr=>by obtain⟨y,-,rfl⟩:=O3.1 hr;exact h2 y) (fun _ r hr=>by obtain⟨y,-,rfl⟩:=O3.1 hr;exact h3 y) (by simp;omega) (by simp only[U0,List.length_nil,Y4];exact wI hl hb) rfl hK
theorem Fl.cp {α:Type} {e:α->List C} {xs:List α} {sz by_:Nat} {X:Prop} (h2:∀ x,(e x).length=sz) (h3:∀ x,aV (e x)=true) (hl:xs.length<=1048576) (hb:by_<=1000) (hK:X):Fl (xs.map e) sz by_ X:=
 Fl.mk (fun r hr=>by obtain⟨y,-,rfl⟩:=O3.1 hr;exact⟨h2 y,h3 y⟩) (by simp;omega) (by simp only[U0];exact wI hl hb) hK
theorem Ap.sn {rows rs:List (List C)} {r:List C} {sz by_:Nat} {K:List (List C)->Prop} (h1:∀ r∈rows,r.length=sz) (h2:r.length=sz) (hl:rows.length+1<=1048576) (hb:by_<=1000) (hr:rs=rows++[r]) (hK:K rs):Ap false rows [r] sz by_ K:=
 Ap.mk h1 (fun r' hr=>by rw[X0.1 hr];exact h2) (fun h=>by cases h) (by simp;omega) (wI (by simpa using hl) hb) hr hK
theorem iD (xs:List Int) (hl:xs.length<=1048576):ao Tryz.prog 187 false [.val none (aD .imm xs)] .one (aD .own xs):=by
 refine fO 6 [] Tryz.func187 rfl ?_ (.inr (bF _))
 repeat'(first|refine gO ?_|(conv=>whnf);first|refine Ap.cp (fun _=>rfl) (fun _=>rfl) hl (by decide) ?_)
 rfl
theorem zX (t:aG) (hs:aG.sml t):ao Tryz.prog 339 false [.val (some 1) (aG.enc .imm t)] .agg (aG.enc .own t):=by
 have hl:=hs.1;refine fO 8 [] Tryz.func339 rfl ?_ (.inr (aG.enc_fr _))
 repeat'(first|refine gO ?_|(conv=>whnf);first|refine Ap.cp (fun _=>rfl) (fun _=>rfl) hl (by decide) ?_)
 rfl
theorem u9 (t:aG) (hs:aG.sml t):ao Tryz.prog 262 false [.val (some 1) (aG.enc .imm t)] .agg (aG.enc .own t):=by
 have hl:=hs.1;refine fO 8 [] Tryz.func262 rfl ?_ (.inr (aG.enc_fr _))
 repeat'(first|refine gO ?_|(conv=>whnf);first|refine Ap.cp (fun _=>rfl) (fun _=>rfl) hl (by decide) ?_)
 rfl
theorem aM {α:Type} {e:α->List C} {l:List α} {n:Nat} (h:∀ x,(e x).length=n):∀ r∈l.map e,r.length=n:=fun r hr=>by
 obtain⟨y,-,rfl⟩:=O3.1 hr;exact h y
theorem eD {α β:Type} [Inhabited α] {xs:List α} {f:α->β} {i:Nat} (hi:i<xs.length):(xs.take (i+1)).map f=(xs.take i).map f++[f (nth xs i)]:=by
 rw[v4,ah hi];simp
theorem Ae (f:aZ) (hs:aZ.sml f):ao Tryz.prog 338 false [.val (some 2) (aZ.enc .imm f)] .agg (aZ.enc .own f):=by
 have hl:=hs.1.1;have hu:f.Used.length<=1048576:=hs.2;refine fO 30 [(5,10,[17,18,19,20,21,22,23,24,25,26])] Tryz.func338 rfl ?_ (.inr (aZ.enc_fr _))
 repeat'(first|refine gO ?_|(conv=>whnf);first|refine Ap.cp (fun _=>rfl) (fun _=>rfl) hu (by decide) ?_)
 (conv=>whnf)
 refine Lp.mk (ι:=Nat) (fun i=>[(1,.hold .box (aZ.enc .imm f)),(2,.hold .box [.z,.z]),(3,.hold .box [.s .own ((f.Cells.take i).map (aD .own)),.s .own (f.Used.map (rB .own))]),(4,.hold .one [I ((i:Nat):Int)])]) (fun i=>i<=f.Cells.length) (fun i=>f.Cells.length - i) (0) ?_ (Q0 _) fun i hi=>?_
 ·exact wB
 by_cases li:i<f.Cells.length
 ·have hx:=ah li
  have hxl:(nth f.Cells i).length<=1048576:=hs.1.2 _ (am li)
  repeat'(first|refine gD ?_|(conv=>whnf);first|with_reducible refine Ix.nat (aa hx) ?_|refine Fl.cp (fun _=>rfl) (fun _=>rfl) hxl (by decide) ?_|refine Ap.sn (aM fun _=>rfl) rfl (by simp;omega) (by decide) (eD li) ?_)
  ((conv=>whnf);refine Nx.mk (i+1) (by omega) (by omega) ?_;(exact wB))
 ·repeat'(first|refine gD ?_|fail)
  obtain rfl:i=f.Cells.length:=by omega
  rw[X3]
  rfl
theorem tw (f:aZ) (hs:aZ.sml f):ao Tryz.prog 261 false [.val (some 2) (aZ.enc .imm f)] .agg (aZ.enc .own f):=by
 have hl:=hs.1.1;have hu:f.Used.length<=1048576:=hs.2;refine fO 27 [(5,5,[18,19,20,21,22])] Tryz.func261 rfl ?_ (.inr (aZ.enc_fr _))
 repeat'(first|refine gO ?_|(conv=>whnf);first|refine Ap.cp (fun _=>rfl) (fun _=>rfl) hu (by decide) ?_)
 (conv=>whnf)
 refine Lp.mk (ι:=Nat) (fun i=>[(2,.hold .box [.z,.z]),(3,.hold .box [.s .own ((f.Cells.take i).map (aD .own)),.s .own (f.Used.map (rB .own))]),(12,.hold .one (iu .imm f.Cells)),(13,.hold .one [I (f.Cells.length)]),(14,.hold .one [I ((i:Nat):Int)])]) (fun i=>i<=f.Cells.length) (fun i=>f.Cells.length - i) (0) ?_ (Q0 _) fun i hi=>?_
 ·exact wB
 by_cases li:i<f.Cells.length
 ·have hx:=ah li
  have hxl:(nth f.Cells i).length<=1048576:=hs.1.2 _ (am li)
  repeat'(first|refine gD ?_|(conv=>whnf);first|with_reducible refine Ix.nat (aa hx) ?_|refine Cl.mk (iD (nth f.Cells i) hxl) ?_|refine Ap.sn (aM fun _=>rfl) rfl (by simp;omega) (by decide) (eD li) ?_)
  ((conv=>whnf);refine Nx.mk (i+1) (by omega) (by omega) ?_;(exact wB))
 ·repeat'(first|refine gD ?_|fail)
  obtain rfl:i=f.Cells.length:=by omega
  rw[X3]
  rfl
theorem qv (m:aQ) (hs:aQ.sml m):ao Tryz.prog 288 false [.val (some 3) (aQ.enc .imm m)] .agg (aQ.enc .own m):=by
 refine fO 10 [(1,5,[3,4,5,6,7])] Tryz.func288 rfl ?_ (.inr (aQ.enc_fr _))
 repeat'(first|refine gO ?_|(conv=>whnf);first|refine Cl.mk (Ae m.Frames hs.1) ?_|refine Cl.mk (zX m.Table hs.2) ?_)
 rfl
theorem r9 (m:aQ) (hs:aQ.sml m):ao Tryz.prog 197 false [.val (some 3) (aQ.enc .imm m)] .agg (aQ.enc .own m):=by
 refine fO 10 [(1,5,[3,4,5,6,7])] Tryz.func197 rfl ?_ (.inr (aQ.enc_fr _))
 repeat'(first|refine gO ?_|(conv=>whnf);first|refine Cl.mk (tw m.Frames hs.1) ?_|refine Cl.mk (u9 m.Table hs.2) ?_)
 rfl
theorem zj (k:af) (hs:af.sml k):ao Tryz.prog 228 false [.val (some 5) (af.enc .imm k)] .agg (af.enc .own k):=by
 have hr:k.Refuse.length<=1048576:=hs.2;refine fO 13 [(1,9,[3,4,5,6,7,8,9,10,11])] Tryz.func228 rfl ?_ (.inr (af.enc_fr _))
 repeat'(first|refine gO ?_|(conv=>whnf);first|refine Cl.mk (qv k.Machine hs.1) ?_|refine Fl.cp (fun _=>rfl) (fun _=>rfl) hr (by decide) ?_)
 rfl
theorem t8 (k:af) (hs:af.sml k):ao Tryz.prog 140 false [.val (some 5) (af.enc .imm k)] .agg (af.enc .own k):=by
 refine fO 12 [(1,8,[3,4,5,6,7,8,9,10])] Tryz.func140 rfl ?_ (.inr (af.enc_fr _))
 repeat'(first|refine gO ?_|(conv=>whnf);first|refine Cl.mk (r9 k.Machine hs.1) ?_|refine Cl.mk (iD k.Refuse hs.2) ?_)
 rfl
theorem dY (k:af) (p:Int) (hs:aG.sml k.Machine.Table):ao Tryz.prog 348 false [.ptr (af.enc .imm k),.val none [I p]] .one [I (ar k.Machine.Table p).Mode]:=by
 refine fO 13 [] Tryz.func348 rfl ?_
 repeat'(first|refine gO ?_|(conv=>whnf);first|refine Cl.mk (cP k.Machine.Table p hs) ?_)
 rfl
theorem ka (k:af) (hs:af.sml k):ao Tryz.prog 305 false [.val (some 5) (af.enc .imm k)] .one [B (aA k&&decide (k.Calls<100000))]:=by
 have h1:=k4 k hs;cases e:aA k<;>rw[e]at h1
 ·refine fO 10 [] Tryz.func305 rfl ?_
  repeat'(first|refine gO ?_|(conv=>whnf);first|with_reducible refine Bf.D (fun hq=>?_) (fun hq=>?_)|refine Cl.mk (h1) ?_)
  all_goals rfl
 ·refine fO 10 [] Tryz.func305 rfl ?_
  repeat'(first|refine gO ?_|(conv=>whnf);first|refine Cl.mk (h1) ?_)
  all_goals rfl
theorem yp {k:af} {f:Int} (h:(pagesOn k.Machine.Table f).length=0):af.enc .own (hO k f)=[.s .own ((k.Machine.Frames.Cells.map (aD .own)).set f.toNat (aD .own (List.replicate 16 0))),.s .own ((k.Machine.Frames.Used.map (rB .own)).set f.toNat (rB .own false)),.s .own (k.Machine.Table.Entries.map (bj.enc .own)),I k.Calls,.s .own (k.Refuse.map (rI .own))]:=by
 unfold hO;rw[if_pos h];simp only[af.enc,Q4]
theorem A3 {k:af} {f:Int} (h:¬(pagesOn k.Machine.Table f).length=0):af.enc .own (hO k f)=af.enc .own k:=by
 unfold hO;rw[if_neg h]
theorem yO (k:af) (f:Int) (hs:aG.sml k.Machine.Table) (hf:0<=f/\f<k.Machine.Frames.Cells.length/\f<k.Machine.Frames.Used.length) :
  aS Tryz.prog 349 false [.ptr (af.enc .own k),.val none [I f]] [.ptr (af.enc .own (hO k f)),.val none [I f]] (.tup []) []:=by
 have h1:=ah (xs:=k.Machine.Frames.Cells) (i:=f.toNat) (by omega);have h2:=ah (xs:=k.Machine.Frames.Used) (i:=f.toNat) (by omega);by_cases hz:(pagesOn k.Machine.Table f).length=0
 ·rw[yp hz]
  refine fM 30 [] [(2,8,[21,22,23,24,25,26,27,28])] [(0,0),(0,0)] Tryz.func349 rfl (fun u q=>?_) (.inr trivial)
  repeat'(first|refine gA ?_|(conv=>whnf);first|with_reducible (first|refine Ix.mk hf.1 (aa h2) ?_|refine Ix.mk hf.1 (aa h1) ?_)|refine Cl.eq (fY k.Machine.Table f hs) ⟨⟨rfl,aG.enc_fz k.Machine.Table⟩,⟨rfl,rfl⟩,trivial⟩ ?_|refine Pu.one rfl rfl (aa h1) rfl (W0 rfl) rfl ?_|refine Pu.one rfl rfl (aa h2) rfl (W0 rfl) rfl ?_|refine Mk.mk 16 rfl rfl (by decide) (by decide) rfl ?_)
  refine aR.mk rfl rfl ?_;exact wB
 ·rw[A3 hz]
  refine fM 30 [] [(2,8,[21,22,23,24,25,26,27,28])] [(0,0),(0,0)] Tryz.func349 rfl (fun u q=>?_) (.inr trivial)
  repeat'(first|refine gA ?_|(conv=>whnf);first|refine Cl.eq (fY k.Machine.Table f hs) ⟨⟨rfl,aG.enc_fz k.Machine.Table⟩,⟨rfl,rfl⟩,trivial⟩ ?_)
  refine aR.mk rfl rfl ?_;exact wB
theorem J6 (k:af) (p:Int):af.enc .own (pH k p)=[.s .own (k.Machine.Frames.Cells.map (aD .own)),.s .own (k.Machine.Frames.Used.map (rB .own)),.s .own ((k.Machine.Table.Entries.map (bj.enc .own)).set p.toNat (bj.enc .own ⟨0,0⟩)),I k.Calls,.s .own (k.Refuse.map (rI .own))]:=by
 unfold pH;simp only[af.enc,Q4]
theorem J8 {k:af} {p:Int} (h:aA k=true):aG.sml (pH k p).Machine.Table:=by
 obtain⟨t1,t2,t3⟩:=bx.1 (aC.1 h).2.2.1;exact⟨by simp only[pH,Z0];omega,fun _ _=>trivial⟩
def fw (n:Nat):aZ:=⟨List.replicate n (List.replicate 16 0),List.replicate n false⟩
def dI (n:Nat):aG:=⟨List.replicate n ⟨0,0⟩⟩
def b9 (p f:Nat) (rf:List Int):af:=⟨⟨fw f,dI p⟩,0,rf⟩
def eH:aB:=⟨List.replicate 4 []⟩
def d2 (n:Nat):aH:=⟨List.replicate n [],List.replicate n []⟩
def tT (p f t:Nat) (lim:Int) (rf:List Int):ab:=⟨b9 p f rf,[⟨0,p⟩],[],[],[],List.replicate t eH,d2 t,⟨16,[]⟩,0,0,lim,1,false,⟨⟨0,0,[]⟩,0,0⟩⟩
theorem cN {α:Type} [Inhabited α] {n j:Nat} {y:α} (hj:j<n):nth (List.replicate n y) j=y:=bn (by rw[List.getElem?_replicate,if_pos hj])
theorem HU (n:Nat) (f:Int):pagesOn (dI n) f=[]:=by
 unfold pagesOn iG;rw[List.map_eq_nil_iff,List.filter_eq_nil_iff];intro i hi;have hi':i<n:=by simpa[dI] using hi
 unfold Hu;rw[show nth (dI n).Entries i = ⟨0,0⟩ from cN hi'];simp
theorem yG {p f:Nat} (hp:1<=p/\p<=32) (hf:1<=f/\f<=32):aA (b9 p f [])=true:=by
 rw[aC];refine⟨fun j hj=>by simp[b9]at hj,bg.2 ⟨by simp[b9,fw];omega,by simp[b9,fw];omega,by simp[b9,fw],fun j hj=>?_⟩,bx.2 ⟨fun j hj=>?_,by simp[b9,dI];omega,by simp[b9,dI];omega⟩,fun j hj=>?_,by simp[b9],by simp[b9],by simp[b9]⟩
 ·have hj':j<f:=by simpa[b9,fw] using hj
  rw[show nth (b9 p f []).Machine.Frames.Cells j=List.replicate 16 0 from cN hj',show nth (b9 p f []).Machine.Frames.Used j=false from cN hj']
  decide
 ·have hj':j<p:=by simpa[b9,dI] using hj
  rw[show nth (b9 p f []).Machine.Table.Entries j = ⟨0,0⟩ from cN hj'];unfold jV;rw[C0];exact⟨by decide,by decide,fun _=>rfl,fun h=>absurd rfl h⟩
 ·have hj':j<f:=by simpa[b9,fw] using hj
  rw[show nth (b9 p f []).Machine.Frames.Used j=false from cN hj',show(b9 p f []).Machine.Table=dI p from rfl,HU]
  rfl
theorem E8 (w:World) (q:Nat) (os:Array Obj):bH NO w (Sort.grow (w.drewN q) os):=by
 have hb:∀ b,b<w.heap.size->(Sort.grow (w.drewN q) os).heap[b]? = w.heap[b]?:=fun b hb=>Sort.heap_grow_old (w.drewN q) os hb
 refine⟨rfl,rfl,rfl,by show w.heap.size<=(w.heap++os).size;simp,fun b h _=>hb b h,fun b o h _=>?_,fun b o h _=>?_⟩
 ·show World.cell? _ _=World.cell? w _
  unfold World.cell?;simp only[hb b h]
 ·refine Prod.ext ?_ ?_
  ·show World.frozen? _ _=World.frozen? w _
   unfold World.frozen?;simp only[hb b h]
  ·show mp _ b=mp w b
   unfold mp;rw[hb b h]
theorem GZ (c:Nat) (W:World):Calls Tryz.prog 259 #[.slice none 0 c] W fun e w'=>∃ B q os,e=.returned (.slice B 0 0)/\w'=Sort.grow (W.drewN q) os:=by
 have q22:∀ (w:World) (a:Option Addr) (n c n' c':Nat),(binOp .eql 33 (.slice a n c) (.slice none n' c')).run Tryz.prog w=.ok (.bool a.isNone) w:=fun w a n c n' c'=>Lib.run_eql_slice_nil w _ _ a n c n' c' Tryz.underlying33
 go_enter Tryz.func259,Tryz.ntmps259
 go_wp2
 go_ret
 exact⟨none,0,#[],rfl,by simp[Sort.grow,World.drewN]⟩
theorem E9 (a:Addr) (c:Nat) (W:World):Calls Tryz.prog 259 #[.slice (some a) 0 c] W fun e w'=>∃ B q os,e=.returned (.slice B 0 0)/\w'=Sort.grow (W.drewN q) os:=by
 have q22:∀ (w:World) (a:Option Addr) (n c n' c':Nat),(binOp .eql 33 (.slice a n c) (.slice none n' c')).run Tryz.prog w=.ok (.bool a.isNone) w:=fun w a n c n' c'=>Lib.run_eql_slice_nil w _ _ a n c n' c' Tryz.underlying33
 go_enter Tryz.func259,Tryz.ntmps259
 go_wp2
 go_ret
 exact⟨some ⟨W.heap.size,0,none⟩,0,#[.cells #[] 3],rfl,by rw[Sort.alloc_eq_grow];rfl⟩
theorem EO (xs:List Int) (hl:xs.length<=1048576):ao Tryz.prog 259 false [.val none (aD .imm xs)] .one (aD .own xs):=by
 by_cases he:xs=[]
 ·subst he
  refine⟨⟨_,Tryz.func259,by kernel_rfl,by kernel_rfl⟩,fun w S vs hS hA=>?_⟩
  match vs,hA with
  | [v],⟨hA,_⟩=>
   have hrep:=bN.rep1 (show bN w S NO none [C.s .imm []] v from hA);obtain⟨ad,cap,rfl⟩:=hrep.slice;have hz:Calls Tryz.prog 259 #[.slice ad 0 cap] w fun e w'=>∃ B q os,e=.returned (.slice B 0 0)/\w'=Sort.grow (w.drewN q) os:=by
    cases ad with
    | none=>exact GZ cap w
    | some a=>exact E9 a cap w
   refine hz.mono fun e w' ⟨B,q,os,he,hw'⟩=>?_
   subst hw';exact⟨.slice B 0 0,he,E8 w q os,NO,NO,fun _ _ h=>h.elim,fun _ _ h=>h.elim,fun _ _ h=>h.elim,rfl,row1 (.nil _ .own B trivial)⟩
 ·have hne:xs.map (rI .imm)≠[]:=fun e=>he (List.map_eq_nil_iff.1 e)
  refine fO 8 [] Tryz.func259 rfl ?_ (.inr (bF _))
  repeat'(first|refine gO ?_|(conv=>whnf);first|refine Nn.mk hne ?_|refine Ap.cp (fun _=>rfl) (fun _=>rfl) hl (by decide) ?_)
  rfl
theorem oD (p:bP) (hs:bP.sml p):ao Tryz.prog 191 false [.val (some 3) (bP.enc .imm p)] .agg (bP.enc .own p):=by
 have hl:p.Cells.length<=1048576:=hs;refine fO 8 [] Tryz.func191 rfl ?_ (.inr (bP.enc_fr _))
 repeat'(first|refine gO ?_|(conv=>whnf);first|refine Cl.mk (EO p.Cells hl) ?_)
 rfl
theorem yU (j:cj) (hs:cj.sml j):ao Tryz.prog 158 false [.val (some 5) (cj.enc .imm j)] .agg (cj.enc .own j):=by
 refine fO 8 [] Tryz.func158 rfl ?_ (.inr (cj.enc_fr _))
 repeat'(first|refine gO ?_|(conv=>whnf);first|refine Cl.mk (oD j.Plan hs) ?_)
 rfl
theorem ik (c:aB) (hs:aB.sml c):ao Tryz.prog 229 false [.val (some 1) (aB.enc .imm c)] .agg (aB.enc .own c):=by
 have hl:=hs.1;refine fO 26 [(5,10,[13,14,15,16,17,18,19,20,21,22])] Tryz.func229 rfl ?_ (.inr (aB.enc_fr _))
 repeat'(first|refine gO ?_|fail)
 (conv=>whnf)
 refine Lp.mk (ι:=Nat) (fun i=>[(1,.hold .box (aB.enc .imm c)),(2,.hold .box [.z]),(3,.hold .box [.s .own ((c.Lists.take i).map (aD .own))]),(4,.hold .one [I ((i:Nat):Int)])]) (fun i=>i<=c.Lists.length) (fun i=>c.Lists.length - i) (0) ?_ (Q0 _) fun i hi=>?_
 ·exact wB
 by_cases li:i<c.Lists.length
 ·have hx:=ah li
  have hxl:(nth c.Lists i).length<=1048576:=hs.2 _ (am li)
  repeat'(first|refine gD ?_|(conv=>whnf);first|with_reducible refine Ix.nat (aa hx) ?_|refine Fl.cp (fun _=>rfl) (fun _=>rfl) hxl (by decide) ?_|refine Ap.sn (aM fun _=>rfl) rfl (by simp;omega) (by decide) (eD li) ?_)
  ((conv=>whnf);refine Nx.mk (i+1) (by omega) (by omega) ?_;(exact wB))
 ·repeat'(first|refine gD ?_|fail)
  obtain rfl:i=c.Lists.length:=by omega
  rw[X3]
  rfl
theorem uV (c:aB) (hs:aB.sml c):ao Tryz.prog 155 false [.val (some 1) (aB.enc .imm c)] .agg (aB.enc .own c):=by
 have hl:=hs.1;refine fO 23 [(5,5,[14,15,16,17,18])] Tryz.func155 rfl ?_ (.inr (aB.enc_fr _))
 repeat'(first|refine gO ?_|fail)
 (conv=>whnf)
 refine Lp.mk (ι:=Nat) (fun i=>[(2,.hold .box [.z]),(3,.hold .box [.s .own ((c.Lists.take i).map (aD .own))]),(8,.hold .one (iu .imm c.Lists)),(9,.hold .one [I (c.Lists.length)]),(10,.hold .one [I ((i:Nat):Int)])]) (fun i=>i<=c.Lists.length) (fun i=>c.Lists.length - i) (0) ?_ (Q0 _) fun i hi=>?_
 ·exact wB
 by_cases li:i<c.Lists.length
 ·have hx:=ah li
  have hxl:(nth c.Lists i).length<=1048576:=hs.2 _ (am li)
  repeat'(first|refine gD ?_|(conv=>whnf);first|with_reducible refine Ix.nat (aa hx) ?_|refine Cl.mk (iD (nth c.Lists i) hxl) ?_|refine Ap.sn (aM fun _=>rfl) rfl (by simp;omega) (by decide) (eD li) ?_)
  ((conv=>whnf);refine Nx.mk (i+1) (by omega) (by omega) ?_;(exact wB))
 ·repeat'(first|refine gD ?_|fail)
  obtain rfl:i=c.Lists.length:=by omega
  rw[X3]
  rfl
theorem eM (m:aH) (hs:aH.sml m):ao Tryz.prog 230 false [.val (some 2) (aH.enc .imm m)] .agg (aH.enc .own m):=by
 have hl:=hs.1.1;have hl2:=hs.2.1;refine fO 46 [(5,10,[14,15,16,17,18,19,20,21,22,23]),(9,10,[33,34,35,36,37,38,39,40,41,42])] Tryz.func230 rfl ?_ (.inr (aH.enc_fr _))
 repeat'(first|refine gO ?_|fail)
 (conv=>whnf)
 refine Lp.mk (ι:=Nat) (fun i=>[(1,.hold .box (aH.enc .imm m)),(2,.hold .box [.z,.z]),(3,.hold .box [.s .own ((m.Buffers.take i).map (co .own)),.z]),(4,.hold .one [I ((i:Nat):Int)])]) (fun i=>i<=m.Buffers.length) (fun i=>m.Buffers.length - i) (0) ?_ (Q0 _) fun i hi=>?_
 ·exact wB
 by_cases li:i<m.Buffers.length
 ·have hx:=ah li
  have hxl:(nth m.Buffers i).length<=1048576:=(hs.1.2 _ (am li)).1
  repeat'(first|refine gD ?_|(conv=>whnf);first|with_reducible refine Ix.nat (aa hx) ?_|refine Fl.cp (fun _=>rfl) (fun _=>rfl) hxl (by decide) ?_|refine Ap.sn (aM fun _=>rfl) rfl (by simp;omega) (by decide) (eD li) ?_)
  ((conv=>whnf);refine Nx.mk (i+1) (by omega) (by omega) ?_;(exact wB))
 obtain rfl:i=m.Buffers.length:=by omega
 rw[X3]
 repeat'(first|refine gD ?_|fail)
 (conv=>whnf)
 refine Lp.mk (ι:=Nat) (fun k=>[(1,.hold .box (aH.enc .imm m)),(2,.hold .box [.z,.z]),(3,.hold .box [.s .own (m.Buffers.map (co .own)),.s .own ((m.Inbox.take k).map (aD .own))]),(5,.hold .one [I ((k:Nat):Int)])]) (fun k=>k<=m.Inbox.length) (fun k=>m.Inbox.length - k) (0) ?_ (Q0 _) fun k hk=>?_
 ·exact wB
 by_cases lk:k<m.Inbox.length
 ·have hx:=ah lk
  have hxl:(nth m.Inbox k).length<=1048576:=hs.2.2 _ (am lk)
  repeat'(first|refine gD ?_|(conv=>whnf);first|with_reducible refine Ix.nat (aa hx) ?_|refine Fl.cp (fun _=>rfl) (fun _=>rfl) hxl (by decide) ?_|refine Ap.sn (aM fun _=>rfl) rfl (by simp;omega) (by decide) (eD lk) ?_)
  ((conv=>whnf);refine Nx.mk (k+1) (by omega) (by omega) ?_;(exact wB))
 ·repeat'(first|refine gD ?_|fail)
  obtain rfl:k=m.Inbox.length:=by omega
  rw[X3]
  rfl
theorem xD (m:aH) (hs:aH.sml m):ao Tryz.prog 156 false [.val (some 2) (aH.enc .imm m)] .agg (aH.enc .own m):=by
 have hl:=hs.1.1;have hl2:=hs.2.1;refine fO 41 [(5,6,[16,17,18,19,20,21]),(10,5,[32,33,34,35,36])] Tryz.func156 rfl ?_ (.inr (aH.enc_fr _))
 repeat'(first|refine gO ?_|fail)
 (conv=>whnf)
 refine Lp.mk (ι:=Nat) (fun i=>[(1,.hold .box (aH.enc .imm m)),(2,.hold .box [.z,.z]),(3,.hold .box [.s .own ((m.Buffers.take i).map (co .own)),.z]),(10,.hold .one (ue .imm m.Buffers)),(11,.hold .one [I (m.Buffers.length)]),(12,.hold .one [I ((i:Nat):Int)])]) (fun i=>i<=m.Buffers.length) (fun i=>m.Buffers.length - i) (0) ?_ (Q0 _) fun i hi=>?_
 ·exact wB
 by_cases li:i<m.Buffers.length
 ·have hx:=ah li
  have hxl:(nth m.Buffers i).length<=1048576:=(hs.1.2 _ (am li)).1
  repeat'(first|refine gD ?_|(conv=>whnf);first|with_reducible refine Ix.nat (aa hx) ?_|refine Fl.cp (fun _=>rfl) (fun _=>rfl) hxl (by decide) ?_|refine Ap.sn (aM fun _=>rfl) rfl (by simp;omega) (by decide) (eD li) ?_)
  ((conv=>whnf);refine Nx.mk (i+1) (by omega) (by omega) ?_;(exact wB))
 obtain rfl:i=m.Buffers.length:=by omega
 rw[X3]
 repeat'(first|refine gD ?_|fail)
 (conv=>whnf)
 refine Lp.mk (ι:=Nat) (fun k=>[(2,.hold .box [.z,.z]),(3,.hold .box [.s .own (m.Buffers.map (co .own)),.s .own ((m.Inbox.take k).map (aD .own))]),(26,.hold .one (iu .imm m.Inbox)),(27,.hold .one [I (m.Inbox.length)]),(28,.hold .one [I ((k:Nat):Int)])]) (fun k=>k<=m.Inbox.length) (fun k=>m.Inbox.length - k) (0) ?_ (Q0 _) fun k hk=>?_
 ·exact wB
 by_cases lk:k<m.Inbox.length
 ·have hx:=ah lk
  have hxl:(nth m.Inbox k).length<=1048576:=hs.2.2 _ (am lk)
  repeat'(first|refine gD ?_|(conv=>whnf);first|with_reducible refine Ix.nat (aa hx) ?_|refine Cl.mk (iD (nth m.Inbox k) hxl) ?_|refine Ap.sn (aM fun _=>rfl) rfl (by simp;omega) (by decide) (eD lk) ?_)
  ((conv=>whnf);refine Nx.mk (k+1) (by omega) (by omega) ?_;(exact wB))
 ·repeat'(first|refine gD ?_|fail)
  obtain rfl:k=m.Inbox.length:=by omega
  rw[X3]
  rfl
theorem pX (q:bA) (hs:bA.sml q):ao Tryz.prog 231 false [.val (some 2) (bA.enc .imm q)] .agg (bA.enc .own q):=by
 have hl:q.Lst.length<=1048576:=hs.1;refine fO 10 [(1,6,[3,4,5,6,7,8])] Tryz.func231 rfl ?_ (.inr (bA.enc_fr _))
 repeat'(first|refine gO ?_|(conv=>whnf);first|refine Fl.cp (fun _=>rfl) (fun _=>rfl) hl (by decide) ?_|refine Ap.cp (fun _=>rfl) (fun _=>rfl) hl (by decide) ?_)
 rfl
theorem xa (q:bA) (hs:bA.sml q):ao Tryz.prog 157 false [.val (some 2) (bA.enc .imm q)] .agg (bA.enc .own q):=by
 have hl:q.Lst.length<=1048576:=hs.1;refine fO 10 [(1,6,[3,4,5,6,7,8])] Tryz.func157 rfl ?_ (.inr (bA.enc_fr _))
 repeat'(first|refine gO ?_|(conv=>whnf);first|refine Fl.cp (fun _=>rfl) (fun _=>rfl) hl (by decide) ?_|refine Ap.cp (fun _=>rfl) (fun _=>rfl) hl (by decide) ?_)
 rfl
theorem qe (j:cj) (hs:cj.sml j):ao Tryz.prog 232 false [.val (some 5) (cj.enc .imm j)] .agg (cj.enc .own j):=by
 have hl:j.Plan.Cells.length<=1048576:=hs;refine fO 11 [] Tryz.func232 rfl ?_ (.inr (cj.enc_fr _))
 repeat'(first|refine gO ?_|(conv=>whnf);first|refine Ap.cp (fun _=>rfl) (fun _=>rfl) hl (by decide) ?_)
 rfl
theorem tD (xs:List a7) (hs:gB xs):ao Tryz.prog 154 false [.val none (bB .imm xs)] .one (bB .own xs):=by
 have hl:=hs.1;refine fO 6 [] Tryz.func154 rfl ?_ (.inr (ky _))
 repeat'(first|refine gO ?_|(conv=>whnf);first|refine Ap.cp (fun _=>rfl) (fun _=>rfl) hl (by decide) ?_)
 rfl
def MW (h:ab) (cc:C):List C:=[.s .own (h.Kernel.Machine.Frames.Cells.map (aD .own)),.s .own (h.Kernel.Machine.Frames.Used.map (rB .own)),.s .own (h.Kernel.Machine.Table.Entries.map (bj.enc .own)),I h.Kernel.Calls,.s .own (h.Kernel.Refuse.map (rI .own)),.s .own (h.Free.map (a7.enc .own)),.s .own (h.Spans.map (au.enc .own)),.s .own (h.Larges.map (a8.enc .own)),.s .own (h.Objs.map (bJ.enc .own)),cc,.s .imm (h.Mail.Buffers.map (co .imm)),.s .imm (h.Mail.Inbox.map (aD .imm)),I h.Quar.Room,.s .imm (h.Quar.Lst.map (aL.enc .imm)),I h.Seed,I h.Clock,I h.Limit,I h.Next,B h.Meshing,I h.Job.Plan.Keep,I h.Job.Plan.Move,.s .imm (h.Job.Plan.Cells.map (rI .imm)),I h.Job.Phase,I h.Job.Next]
def Md:List C:=[.z,.z,.z,I 0,.z,.z,.z,.z,.z,.z,.z,.z,I 0,.z,I 0,I 0,I 0,I 0,B false,I 0,I 0,.z,I 0,I 0]
theorem Ak (h:ab) (hs:ab.sml h):ao Tryz.prog 142 false [.val (some 24) (ab.enc .imm h)] .agg (ab.enc .own h):=by
 obtain⟨s1,s2,s3,s4,s5,s6,s7,s8,s9⟩:=hs;have l2:=s2.1;have l3:=s3.1;have l4:=s4.1;have l5:=s5.1;have l6:=s6.1;refine fO 61 [] Tryz.func142 rfl ?_ (.inr (ab.enc_fr _))
 repeat'(first|refine gO ?_|(conv=>whnf);first|refine Cl.mk (zj h.Kernel s1) ?_|refine Ap.cp (fun _=>rfl) (fun _=>rfl) l2 (by decide) ?_|refine Ap.cp (fun _=>rfl) (fun _=>rfl) l3 (by decide) ?_|refine Ap.cp (fun _=>rfl) (fun _=>rfl) l4 (by decide) ?_|refine Ap.cp (fun _=>rfl) (fun _=>rfl) l5 (by decide) ?_)
 (conv=>whnf)
 refine Lp.mk (ι:=Nat) (fun i=>[(1,.hold .box (MW h (.s .imm (h.Caches.map (aB.enc .imm))))),(2,.hold .box Md),(3,.hold .one ([.s .own ((h.Caches.take i).map (aB.enc .own))])),(4,.hold .one [I ((i:Nat):Int)])]) (fun i=>i<=h.Caches.length) (fun i=>h.Caches.length - i) (0) ?_ (Q0 _) fun i hi=>?_
 ·exact wB
 by_cases li:i<h.Caches.length
 ·have hx:=ah li
  repeat'(first|refine gD ?_|(conv=>whnf);first|with_reducible refine Ix.nat (aa hx) ?_|refine Cl.mk (ik (nth h.Caches i) (s6.2 _ (am li))) ?_|refine Ap.sn (aM fun _=>rfl) rfl (by simp;omega) (by decide) (eD li) ?_)
  ((conv=>whnf);refine Nx.mk (i+1) (by omega) (by omega) ?_;(exact wB))
 ·obtain rfl:i=h.Caches.length:=by omega
  rw[X3]
  repeat'(first|refine gD ?_|(conv=>whnf);first|refine Cl.mk (eM h.Mail s7) ?_|refine Cl.mk (pX h.Quar s8) ?_|refine Cl.mk (qe h.Job s9) ?_)
  rfl
theorem xv (h:ab) (hs:ab.sml h):ao Tryz.prog 65 false [.val (some 24) (ab.enc .imm h)] .agg (ab.enc .own h):=by
 obtain⟨s1,s2,s3,s4,s5,s6,s7,s8,s9⟩:=hs;have l3:=s3.1;have l4:=s4.1;have l5:=s5.1;have l6:=s6.1;refine fO 59 [(11,5,[38,39,40,41,42])] Tryz.func65 rfl ?_ (.inr (ab.enc_fr _))
 repeat'(first|refine gO ?_|(conv=>whnf);first|refine Cl.mk (t8 h.Kernel s1) ?_|refine Cl.mk (tD h.Free s2) ?_|refine Ap.cp (fun _=>rfl) (fun _=>rfl) l3 (by decide) ?_|refine Ap.cp (fun _=>rfl) (fun _=>rfl) l4 (by decide) ?_|refine Ap.cp (fun _=>rfl) (fun _=>rfl) l5 (by decide) ?_)
 (conv=>whnf)
 refine Lp.mk (ι:=Nat) (fun i=>[(1,.hold .box (ab.enc .imm h)),(2,.hold .box Md),(3,.hold .box (MW h (.s .own ((h.Caches.take i).map (aB.enc .own))))),(32,.hold .one (nC .imm h.Caches)),(33,.hold .one [I (h.Caches.length)]),(34,.hold .one [I ((i:Nat):Int)])]) (fun i=>i<=h.Caches.length) (fun i=>h.Caches.length - i) (0) ?_ (Q0 _) fun i hi=>?_
 ·exact wB
 by_cases li:i<h.Caches.length
 ·have hx:=ah li
  repeat'(first|refine gD ?_|(conv=>whnf);first|with_reducible refine Ix.nat (aa hx) ?_|refine Cl.mk (uV (nth h.Caches i) (s6.2 _ (am li))) ?_|refine Ap.sn (aM fun _=>rfl) rfl (by simp;omega) (by decide) (eD li) ?_)
  ((conv=>whnf);refine Nx.mk (i+1) (by omega) (by omega) ?_;(exact wB))
 ·obtain rfl:i=h.Caches.length:=by omega
  rw[X3]
  repeat'(first|refine gD ?_|(conv=>whnf);first|refine Cl.mk (xD h.Mail s7) ?_|refine Cl.mk (xa h.Quar s8) ?_|refine Cl.mk (yU h.Job s9) ?_)
  rfl
theorem Ap.sm {rows rs:List (List C)} {r:List C} {sz by_:Nat} {K:List (List C)->Prop} (h1:∀ r∈rows,r.length=sz) (h2:r.length=sz) (hl:rows.length+1<=1073741824) (hb:by_<=1000) (hr:rs=rows++[r]) (hK:K rs):Ap false rows [r] sz by_ K:=
 Ap.mk h1 (fun r' hr=>by rw[X0.1 hr];exact h2) (fun h=>by cases h) (by simp;omega) (V3 (Nat.mul_le_mul (show rows.length+[r].length<=1073741824 by simpa using hl) hb) (by decide)) hr hK
theorem GQ (y:a7) (ys:List a7) (r:a7) (out:List a7) (done:Bool):iX (y::ys) r out done=if ovl y r then none
  else if y.At+y.Len=r.At then iX ys ⟨y.At,y.Len+r.Len⟩ out done
  else if r.At+r.Len=y.At then iX ys ⟨r.At,r.Len+y.Len⟩ out done
  else if y.At > r.At/\done=false then iX ys r (out++[r,y]) true
  else iX ys r (out++[y]) done:=by rw[iX]
theorem zR {pages:Int} {xs:List a7} (h:bv pages xs=true):mM xs/\∀ y∈xs,0<=y.At/\1<=y.Len/\y.At+y.Len<=pages:=by
 unfold bv at h;simp only[I0,C0]at h;have hin:∀ i,i<xs.length->1<=(nth xs i).Len/\0<=(nth xs i).At/\(nth xs i).At<=pages - (nth xs i).Len:=fun i hi=>by
  have:=d9 h.1 hi;unfold fA rangeIn at this;simp only[I0,C0]at this;omega
 have hnx:∀ i,i+1<xs.length->(nth xs i).At+(nth xs i).Len<(nth xs (i+1)).At:=fun i hi=>by
  have:=d9 h.1 hi;unfold fA at this;simp only[I0,C0]at this;have:=this.2.resolve_left (by omega);simpa using this
 have hp:∀ j i,i<j->j<xs.length->(nth xs i).At+(nth xs i).Len<(nth xs j).At:=fun j=>by
  induction j with
  | zero=>intro i hi;omega
  | succ j ih=>
   intro i hi hj;have h1:=hnx j hj;by_cases e:i=j
   ·subst e;exact h1
   ·have h2:=ih i (by omega) (by omega)
    have h3:=hin j (by omega);omega
 refine⟨⟨?_,fun y hy=>?_⟩,fun y hy=>?_⟩
 ·rw[List.pairwise_iff_getElem]
  intro i j hi hj hij;have:=hp j i hij hj
  rwa [bn (Q1 hi),bn (Q1 hj)]at this
 ·obtain⟨i,hi,rfl⟩:=bf hy
  exact(hin i hi).1
 ·obtain⟨i,hi,rfl⟩:=bf hy
  have:=hin i hi;omega
theorem iS {α:Type} [Inhabited α] {xs:List α} {i:Nat} (hi:i<xs.length):xs.drop i=nth xs i::xs.drop (i+1):=by
 rw[List.drop_eq_getElem_cons hi,bn (Q1 hi)]
def dn (pages:Int) (xs:List a7) (r:a7):Option (List a7):=if bv pages xs=true/\rangeIn pages r=true then iX xs r [] false else none
def E2 (xs:List a7) (o:Option (List a7)):List C:=bB .own (o.getD xs)++[B o.isSome]
theorem rN (xs:List a7) (o:Option (List a7)):gk (E2 xs o):=aN (ky _) ⟨trivial,trivial⟩
theorem tM {α:Type} [Inhabited α] (R:Int->Int->Prop) (tr:∀ a b c,R a b->R b c->R a c) (f:α->Int) (xs:List α):(∀ i,i<xs.length->i=0\/R (f (nth xs (i - 1))) (f (nth xs i)))↔xs.Pairwise (fun a b=>R (f a) (f b)):=by
 constructor
 ·intro h
  have hp:∀ j i,i<j->j<xs.length->R (f (nth xs i)) (f (nth xs j)):=fun j=>by
   induction j with
   | zero=>intro i hi;omega
   | succ j ih=>
    intro i hi hj;have h1:=(h (j+1) hj).resolve_left (by omega);rw[show j+1 - 1=j from rfl]at h1;by_cases e:i=j
    ·subst e;exact h1
    ·exact tr _ _ _ (ih i (by omega) (by omega)) h1
  rw[List.pairwise_iff_getElem];intro i j hi hj hij;have:=hp j i hij hj
  rwa [bn (Q1 hi),bn (Q1 hj)]at this
 ·intro h i hi
  by_cases e:i=0
  ·exact .inl e
  ·right
   have:=List.pairwise_iff_getElem.1 h (i - 1) i (by omega) hi (by omega)
   rwa [<-bn (Q1 (show i - 1<xs.length by omega)),<-bn (Q1 hi)]at this
theorem y7 {α:Type} [Inhabited α] (f:α->Int) (xs:List α):(∀ i,i<xs.length->∀ o∈xs.take i,f o≠f (nth xs i))↔(xs.map f).Nodup:=by
 unfold List.Nodup;rw[List.pairwise_map,List.pairwise_iff_getElem];constructor
 ·intro h i j hi hj hij
  have:=h j hj xs[i] (List.mem_take_iff_getElem.2 ⟨i,by omega,rfl⟩)
  rwa [bn (Q1 hj)]at this
 ·intro h i hi o ho
  obtain⟨j,hj,rfl⟩:=List.mem_take_iff_getElem.1 ho;rw[bn (Q1 hi)];exact h j i (by omega) hi (by omega)
def eU (s:au) (a:Int):Prop:=16*s.Page<=a/\a<=16*s.Page+15/\(a - 16*s.Page) % csz s.Class=0/\aT s.Bits ((a - 16*s.Page) / csz s.Class)=true
def iU (sp:List au) (a c:Int):Prop:=∃ s∈sp,eU s a/\(c<0\/s.Class=c)
def NT (la:List a8) (a z:Int):Prop:=∃ l∈la,a=16*l.Page/\l.Size=z
def JC (sp:List au) (la:List a8) (o:bJ):Prop:=(∃ s∈sp,eU s o.Addr/\s.Class=aO o.Size)\/NT la o.Addr o.Size
def ll (sp:List au) (la:List a8) (a:Int):Prop:=iU sp a (-1)\/∃ l∈la,a=16*l.Page
theorem lw {sp:List au} {la:List a8} (hL:q8 sp la) (a:Int):(∃ i,i<sp.length/\(16*(nth sp i).Page<=a/\a<=16*(nth sp i).Page+15)/\denotes sp la a=ov i (nth sp i) a)\/((∀ s∈sp,¬(16*s.Page<=a/\a<=16*s.Page+15))/\((∃ i,i<la.length/\bw (nth la i) a=true/\denotes sp la a = ⟨3,i,0,a - 16*(nth la i).Page⟩)\/((∀ l∈la,bw l a=false)/\denotes sp la a = ⟨0,0,0,0⟩))):=by
 cases h1:sp.findIdx? (cw · a) with
 | some i=>
  obtain⟨hi,hp,-⟩:=Z4.1 h1;rw[<-bn (Q1 hi)]at hp;exact .inl ⟨i,hi,(fI (hL.sok _ (am hi))).1 hp,by unfold denotes;rw[h1]⟩
 | none=>
  have h2:=List.findIdx?_eq_none_iff.1 h1;refine .inr ⟨fun s hs hr=>?_,?_⟩
  ·have:=h2 s hs
   rw[(fI (hL.sok _ hs)).2 hr]at this;cases this
  cases h3:la.findIdx? (bw · a) with
  | some i=>
   obtain⟨hi,hp,-⟩:=Z4.1 h3;rw[<-bn (Q1 hi)]at hp;exact .inl ⟨i,hi,hp,by unfold denotes;rw[h1,h3]⟩
  | none=>exact .inr ⟨List.findIdx?_eq_none_iff.1 h3,by unfold denotes;rw[h1,h3]⟩
theorem Hv {h:ab} (hL:q8 h.Spans h.Larges) {a c:Int} : cV h a c=true↔iU h.Spans a c:=by
 unfold cV;simp only[I0,R4,C0];constructor
 ·rintro⟨⟨hk,ho⟩,hc⟩
  rcases lw hL a with⟨i,hi,hr,hd⟩|⟨-,⟨i,hi,-,hd⟩|⟨-,hd⟩⟩
  ·rw[hd]at hk ho hc
   simp only[ov]at hk ho hc;refine⟨_,am hi,⟨hr.1,hr.2,ho,?_⟩,by simpa using hc⟩;cases e:aT (nth h.Spans i).Bits ((a - 16*(nth h.Spans i).Page) / csz (nth h.Spans i).Class) with
   | true=>rfl
   | false=>rw[e]at hk;simp at hk
  ·rw[hd]at hk;simp at hk
  ·rw[hd]at hk;simp at hk
 ·rintro⟨s,hs,⟨h1,h2,h3,h4⟩,hc⟩
  obtain⟨i,hi,rfl⟩:=bf hs;rw[iE hL hi ⟨h1,h2⟩];simp only[ov,h3,h4,if_true,true_and];simpa using hc
theorem uY {sp:List au} {la:List a8} (hL:q8 sp la) {l:a8} (hl:l∈la):(∀ s∈sp,¬(16*s.Page<=16*l.Page/\16*l.Page<=16*s.Page+15))/\bw l (16*l.Page)=true/\∀ i,i<la.length->bw (nth la i) (16*l.Page)=true->nth la i=l:=by
 have hf:=aU (hL.lok _ hl);have hf2:=cr (hL.lok _ hl);refine⟨fun s hs hr=>?_,?_,fun i hi hh=>?_⟩
 ·exact hL.dis s hs l hl 0 (by omega) (by omega)
 ·unfold bw;rw[hL.lok _ hl,O0 (by omega)];rfl
 ·obtain⟨j,hj,rfl⟩:=bf hl
  have hg:=aU (hL.lok _ (am hi));have hlo:=hL.lok _ (am hi);unfold bR at hlo;rw[C0]at hlo;unfold bw at hh;rw[I0,C0]at hh;rw[hL.one i j hi hj ((nth la j).Page - (nth la i).Page).toNat 0 (by omega) (by omega) (by omega)]
theorem Kw {h:ab} (hL:q8 h.Spans h.Larges) {o:bJ} : jv h o=true↔JC h.Spans h.Larges o:=by
 unfold jv;simp only[I0,R4,C0];constructor
 ·rintro⟨ho,hk⟩
  rcases lw hL o.Addr with⟨i,hi,hr,hd⟩|⟨-,⟨i,hi,-,hd⟩|⟨-,hd⟩⟩
  ·rw[hd]at hk ho
   simp only[ov]at hk ho;have hs:aT (nth h.Spans i).Bits ((o.Addr - 16*(nth h.Spans i).Page) / csz (nth h.Spans i).Class)=true:=by
    cases e:aT (nth h.Spans i).Bits ((o.Addr - 16*(nth h.Spans i).Page) / csz (nth h.Spans i).Class) with
    | true=>rfl
    | false=>rw[e]at hk;simp at hk
   rw[hs]at hk;exact .inl ⟨_,am hi,⟨hr.1,hr.2,ho,hs⟩,by simpa using hk⟩
  ·rw[hd]at hk ho
   simp only at hk ho;exact .inr ⟨_,am hi,by omega,by simpa using hk⟩
  ·rw[hd]at hk;simp at hk
 ·rintro(⟨s,hs,⟨h1,h2,h3,h4⟩,hc⟩|⟨l,hl,ha,hz⟩)
  ·obtain⟨i,hi,rfl⟩:=bf hs
   rw[iE hL hi ⟨h1,h2⟩];simp only[ov,h3,h4,if_true,true_and];simp[hc]
  ·obtain⟨g1,g2,g3⟩:=uY hL hl
   rw[ha];rcases lw hL (16*l.Page) with⟨i,hi,hr,hd⟩|⟨-,⟨i,hi,hh,hd⟩|⟨hn,hd⟩⟩
   ·exact absurd hr (g1 _ (am hi))
   ·rw[hd]
    have:=g3 i hi hh;simp only[this,W1];exact⟨by omega,.inr ⟨trivial,hz⟩⟩
   ·rw[hn l hl]at g2;cases g2
theorem Du {sp:List au} {la:List a8} (hL:q8 sp la) (a:Int):a∈hJ sp la↔ll sp la a:=by
 constructor
 ·intro h
  unfold hJ ke at h;obtain⟨n,hn,rfl⟩:=O3.1 h;have h2:=(P3.1 hn).2;unfold iZ at h2;simp only[I0,R4,C0]at h2;obtain⟨ho,hk⟩:=h2;rcases lw hL (n:Int) with⟨i,hi,hr,hd⟩|⟨-,⟨i,hi,-,hd⟩|⟨-,hd⟩⟩
  ·rw[hd]at hk ho
   simp only[ov]at hk ho;refine .inl ⟨_,am hi,⟨hr.1,hr.2,ho,?_⟩,.inl (by omega)⟩;cases e:aT (nth sp i).Bits (((n:Int) - 16*(nth sp i).Page) / csz (nth sp i).Class) with
   | true=>rfl
   | false=>rw[e]at hk;simp at hk
  ·rw[hd]at ho
   simp only at ho;exact .inr ⟨_,am hi,by omega⟩
  ·rw[hd]at hk;simp at hk
 ·rintro(⟨s,hs,⟨h1,h2,h3,h4⟩,-⟩|⟨l,hl,rfl⟩)
  ·obtain⟨i,hi,rfl⟩:=bf hs
   have hd:=iE hL hi ⟨h1,h2⟩;exact tU hL (by rw[hd];exact h3) (.inl (by rw[hd];simp only[ov,h4,if_true]))
  ·obtain⟨g1,g2,g3⟩:=uY hL hl
   rcases lw hL (16*l.Page) with⟨i,hi,hr,hd⟩|⟨-,⟨i,hi,hh,hd⟩|⟨hn,hd⟩⟩
   ·exact absurd hr (g1 _ (am hi))
   ·have:=g3 i hi hh
    exact tU hL (by rw[hd];simp only[this];omega) (.inr (by rw[hd]))
   ·rw[hn l hl]at g2;cases g2
def RH (xs:List a7) (p:Int):Prop:=∃ r∈xs,r.At<=p/\p<r.At+r.Len
theorem eR {pages:Int} {xs:List a7} : bv pages xs=true↔mM xs/\(∀ y∈xs,0<=y.At/\1<=y.Len/\y.At+y.Len<=pages)/\1<=pages/\pages<=32:=by
 constructor
 ·intro h
  obtain⟨h1,h2⟩:=zR h;unfold bv at h;simp only[I0,C0]at h;exact⟨h1,h2,h.2⟩
 ·rintro⟨h1,h2,h3⟩
  unfold bv;simp only[I0,C0];refine⟨bZ.2 fun i hi=>?_,h3⟩;have h4:=h2 _ (am hi);unfold fA rangeIn;simp only[I0,C0];refine⟨by omega,?_⟩;by_cases e:i=0
  ·exact .inl e
  ·right
   have:=List.pairwise_iff_getElem.1 h1.1 (i - 1) i (by omega) hi (by omega)
   rwa [<-bn (Q1 (show i - 1<xs.length by omega)),<-bn (Q1 hi)]at this
theorem BM {pages:Int} {xs:List a7} (h:bv pages xs=true) (p:Int):xs.any (oW p)=true↔RH xs p:=by
 obtain⟨-,h2,h3⟩:=eR.1 h;rw[Z2];refine⟨fun⟨r,hr,hh⟩=>⟨r,hr,?_⟩,fun⟨r,hr,hh⟩=>⟨r,hr,?_⟩⟩
 ·have:=h2 r hr
  unfold oW at hh;rw[ed (by omega) (by omega)]at hh;simpa using hh
 ·have:=h2 r hr
  unfold oW;rw[ed (by omega) (by omega)];simpa using hh
theorem tW (hi:Int):∀ (ys:List a7) (r:a7) (out:List a7),mM ys->1<=r.Len->(∀ y∈ys,ovl y r=false)->(∀ z∈out,z.At+z.Len<r.At/\∀ y∈ys,z.At+z.Len<y.At)->mM out->(∀ y∈r::(out++ys),0<=y.At/\y.At+y.Len<=hi)->∃ o,iX ys r out false=some o/\mM o/\(∀ y∈o,0<=y.At/\y.At+y.Len<=hi)/\∀ p,RH o p↔RH out p\/RH ys p\/(r.At<=p/\p<r.At+r.Len)
 | [],r,out,_,h1,_,ho,hg,hb=>by
  refine⟨out++[r],by simp[iX],⟨List.pairwise_append.2 ⟨hg.1,List.pairwise_singleton ..,fun a ha b hb=>by rw[X0.1 hb];exact(ho a ha).1⟩,fun y hy=>?_⟩,fun y hy=>hb y (by simp at hy |-;grind),fun p=>by unfold RH;simp[or_and_right,exists_or]⟩;rcases C2.1 hy with hy|hy
  ·exact hg.2 y hy
  ·rw[X0.1 hy];exact h1
 | y::ys,r,out,hgy,h1,hv,ho,hg,hb=>by
  have h3:=hgy.2 y (I1 ..);have hv0:=hv y (I1 ..);have hhd:=hgy.head;have hby:=hb y (by simp);have hbr:=hb r (by simp);have hvw:∀ w∈ys,¬(w.At<r.At+r.Len/\r.At<w.At+w.Len):=fun w hw=>by
   have:=hv w (Z3 _ hw);unfold ovl at this;simpa using this
  have h3w:∀ w∈ys,1<=w.Len:=fun w hw=>hgy.2 w (Z3 _ hw)
  rw[GQ,if_neg (by rw[hv0];simp)];unfold ovl at hv0;rw[T3]at hv0;by_cases e1:y.At+y.Len=r.At
  ·rw[if_pos e1]
   obtain⟨o,o1,o2,o3,o4⟩:=tW hi ys ⟨y.At,y.Len+r.Len⟩ out hgy.tail (by simp only;omega) (fun w hw=>by
     have a:=hhd w hw;have b:=hvw w hw;have c:=h3w w hw;unfold ovl;rw[T3];simp only;omega) (fun z hz=>⟨(ho z hz).2 y (I1 ..),fun w hw=>(ho z hz).2 w (Z3 _ hw)⟩) hg (fun w hw=>by
     rcases List.mem_cons.1 hw with rfl|hw
     · simp only;omega
     · exact hb w (by simp at hw |-;grind))
   refine⟨o,o1,o2,o3,fun p=>?_⟩;rw[o4];unfold RH;simp only[List.mem_cons,exists_eq_or_imp]
   grind
  rw[if_neg e1];by_cases e2:r.At+r.Len=y.At
  ·rw[if_pos e2]
   obtain⟨o,o1,o2,o3,o4⟩:=tW hi ys ⟨r.At,r.Len+y.Len⟩ out hgy.tail (by simp only;omega) (fun w hw=>by
     have a:=hhd w hw;have b:=hvw w hw;have c:=h3w w hw;unfold ovl;rw[T3];simp only;omega) (fun z hz=>⟨(ho z hz).1,fun w hw=>(ho z hz).2 w (Z3 _ hw)⟩) hg (fun w hw=>by
     rcases List.mem_cons.1 hw with rfl|hw
     · simp only;omega
     · exact hb w (by simp at hw |-;grind))
   refine⟨o,o1,o2,o3,fun p=>?_⟩;rw[o4];unfold RH;simp only[List.mem_cons,exists_eq_or_imp]
   grind
  rw[if_neg e2];by_cases e3:y.At > r.At
  ·have hlt:r.At+r.Len<y.At:=by omega
   rw[if_pos ⟨e3,rfl⟩,oo hgy.tail h1 fun w hw=>by have:=hhd w hw;omega];refine⟨_,rfl,⟨?_,fun w hw=>?_⟩,fun w hw=>hb w (by simp at hw |-;grind),fun p=>by unfold RH;simp[or_and_right,exists_or];grind⟩
   ·rw[z4]
    refine List.pairwise_append.2 ⟨hg.1,?_,fun a ha b hb=>?_⟩
    ·show(r::y::ys).Pairwise _
     refine List.pairwise_cons.2 ⟨fun w hw=>?_,hgy.1⟩;rcases List.mem_cons.1 hw with rfl|hw
     ·exact hlt
     ·have:=hhd w hw;omega
    ·obtain⟨a1,a2⟩:=ho a ha
     have hb:b∈r::y::ys:=hb;rcases List.mem_cons.1 hb with rfl|hb
     ·exact a1
     ·exact a2 b hb
   ·simp only[C2,List.mem_cons,List.not_mem_nil,or_false]at hw
    rcases hw with(hw|rfl|rfl)|hw
    ·exact hg.2 w hw
    ·exact h1
    ·exact h3
    ·exact h3w w hw
  rw[if_neg fun e=>e3 e.1];obtain⟨o,o1,o2,o3,o4⟩:=tW hi ys r (out++[y]) hgy.tail h1 (fun w hw=>hv w (Z3 _ hw)) (fun z hz=>by
    rcases C2.1 hz with hz|hz
    · exact⟨(ho z hz).1,fun w hw=>(ho z hz).2 w (Z3 _ hw)⟩
    · rw[X0.1 hz];exact⟨by omega,hhd⟩) ⟨List.pairwise_append.2 ⟨hg.1,List.pairwise_singleton ..,fun a ha b hb=>by rw[X0.1 hb];exact(ho a ha).2 y (I1 ..)⟩,fun w hw=>by
      rcases C2.1 hw with hw|hw
      · exact hg.2 w hw
      · rw[X0.1 hw];exact h3⟩ (fun w hw=>hb w (by simp at hw |-;grind))
  refine⟨o,o1,o2,o3,fun p=>?_⟩;rw[o4];unfold RH;simp[or_and_right,exists_or]
  grind
theorem sA {pages:Int} {xs:List a7} {r:a7} (h:bv pages xs=true) (hr:0<=r.At/\1<=r.Len/\r.At+r.Len<=pages) (hd:∀ p,r.At<=p->p<r.At+r.Len->¬RH xs p):∃ o,dn pages xs r=some o/\bv pages o=true/\∀ p,RH o p↔RH xs p\/(r.At<=p/\p<r.At+r.Len):=by
 obtain⟨h1,h2,h3⟩:=eR.1 h;have hin:rangeIn pages r=true:=by unfold rangeIn;rw[C0];omega
 unfold dn;rw[if_pos ⟨h,hin⟩];obtain⟨o,o1,o2,o3,o4⟩:=tW pages xs r [] h1 hr.2.1 (fun y hy=>by
   have:=h2 y hy;unfold ovl;rw[T3];intro hc;by_cases e:r.At<=y.At
   · exact hd y.At e hc.1 ⟨y,hy,by omega,by omega⟩
   · exact hd r.At (by omega) (by omega) ⟨y,hy,by omega,hc.2⟩) (fun z hz=>by cases hz) ⟨List.Pairwise.nil,fun y hy=>by cases hy⟩ (fun y hy=>by
   rcases List.mem_cons.1 hy with rfl|hy
   · omega
   · have:=h2 y (by simpa using hy);omega)
 refine⟨o,o1,eR.2 ⟨o2,fun y hy=>⟨(o3 y hy).1,o2.2 y hy,(o3 y hy).2⟩,h3⟩,fun p=>?_⟩;rw[o4];unfold RH;simp
structure Pg (t:aG) (fr:List a7) (sp:List au) (la:List a8):Prop where
 one:∀ l∈la,∀ p:Nat,(p:Int)∈lpgs l l.Pages.toNat->∀ q:Nat,q<t.Entries.length->(nth t.Entries q).Mode≠0->(nth t.Entries q).Frame=(nth t.Entries p).Frame->q=p
 bnd:∀ p∈pgs sp la,p<t.Entries.length
 own:∀ p:Nat,p<t.Entries.length->((nth t.Entries p).Mode≠0↔(p:Int)∈pgs sp la)
 fre:∀ p:Nat,p<t.Entries.length->((nth t.Entries p).Mode≠0↔¬RH fr p)
 mesh:∀ s∈sp,∀ u∈sp,s.Page≠u.Page->(nth t.Entries s.Page.toNat).Frame=(nth t.Entries u.Page.toNat).Frame->meshable s u=true
structure bo (h:ab) (E:List Int):Prop where
 ker:aA h.Kernel=true
 rng:bv (dQ h) h.Free=true
 lay:bk h.Spans h.Larges=true
 srs:h.Spans.Pairwise fun a b=>a.Page<b.Page
 srl:h.Larges.Pairwise fun a b=>a.Page<b.Page
 pg:Pg (tbl h) h.Free h.Spans h.Larges
 mail:bD h.Mail=true
 nc:h.Caches.length=h.Mail.Buffers.length
 quar:f6 h.Quar=true
 snc:∀ x∈h.Quar.Lst,x.Since<=h.Clock
 cach:∀ c∈h.Caches,br c=true
 nums:bW h=true
 osr:h.Objs.Pairwise fun a b=>a.Addr<b.Addr
 onu:∀ o∈h.Objs,1<=o.Id/\o.Id<=h.Next - 1/\0<=o.Thread/\o.Thread<=h.Caches.length - 1
 oid:(h.Objs.map (·.Id)).Nodup
 oow:∀ o∈h.Objs,JC h.Spans h.Larges o
 hca:∀ c∈h.Caches,∀ k:Nat,k<c.Lists.length->∀ a∈nth c.Lists k,iU h.Spans a k
 hqu:∀ x∈h.Quar.Lst,iU h.Spans x.Addr x.Class
 hfl:∀ a∈aK h.Mail,iU h.Spans a (-1)
 hin:∀ a∈E,iU h.Spans a (-1)
 nd:(E++holders h).Nodup
 mem:∀ a,a∈E++holders h↔ll h.Spans h.Larges a
 job:h.Meshing=true->iH h.Job=true/\(∃ s∈h.Spans,s.Page=h.Job.Plan.Keep)/\∃ s∈h.Spans,s.Page=h.Job.Plan.Move
 noj:h.Meshing=false->qC h.Job=true
theorem bo.L {h:ab} {E:List Int} (hi:bo h E):q8 h.Spans h.Larges:=q8.of hi.lay
theorem wY (t:aG) (f:Int):(pagesOn t f).Nodup:=by
 unfold pagesOn iG List.Nodup;rw[List.pairwise_map];exact(List.nodup_range.sublist List.filter_sublist).imp fun h e=>h (by omega)
theorem KQ {l:List Int} {a:Int} (hn:l.Nodup) (ha:a∈l) (hh:∀ x∈l,x=a):l.length=1:=by
 match l with
 | []=>cases ha
 | [_]=>rfl
 | x::y::r=>
  exfalso;have h1:=hh x (by simp);have h2:=hh y (by simp);rw[h1,h2]at hn;simp at hn
theorem dv {sp:List au} {la:List a8} {s:au} (hs:s∈sp):s.Page∈pgs sp la:=by
 unfold pgs;exact C2.2 (.inl (O3.2 ⟨s,hs,rfl⟩))
theorem eZ {sp:List au} {la:List a8} {l:a8} (hl:l∈la) {p:Int} (hp:p∈lpgs l l.Pages.toNat):p∈pgs sp la:=by
 unfold pgs;exact C2.2 (.inr (List.mem_flatMap.2 ⟨l,hl,hp⟩))
theorem Na {h:ab} (hlay:bk h.Spans h.Larges=true) (hr:bv (dQ h) h.Free=true) (hp:pages0 h=true) (hm:m0 h=true):Pg (tbl h) h.Free h.Spans h.Larges:=by
 have hL:=q8.of hlay;obtain⟨f1,f2,f3⟩:=qm hp;have f4:∀ p:Nat,p<dQ h->((nth (tbl h).Entries p).Mode≠0↔¬RH h.Free p):=fun p hpn=>by
  have hp':=hp;unfold pages0 at hp';simp only[I0]at hp';have h4:=d9 hp'.2 hpn;unfold tl at h4;rw[I0]at h4;have h5:=h4.2;rw[<-BM hr];cases e:h.Free.any (oW (p:Int))<;>rw[e]at h5<;>simpa using h5
 refine⟨fun l hl p hpl q hq hqm hqf=>?_,f2,f3,f4,fun s hs u hu hne hf=>?_⟩
 ·obtain⟨i,hi,rfl⟩:=bf hl
  obtain⟨k,hk,hpk⟩:=db.1 hpl;have hpn:p<dQ h:=by have:=f2 _ (eZ (sp:=h.Spans) hl hpl);omega
  have hpm:=(f3 p hpn).2 (eZ hl hpl);have h1:=f1 i hi k hk;rw[<-hpk,eB hpn hpm]at h1;have m1:(p:Int)∈pagesOn (tbl h) (nth (tbl h).Entries p).Frame:=dw.2 ⟨hpn,hpm,rfl⟩;have m2:(q:Int)∈pagesOn (tbl h) (nth (tbl h).Entries p).Frame:=dw.2 ⟨hq,hqm,hqf⟩;obtain⟨z,hz⟩:=List.length_eq_one_iff.1 h1;rw[hz]at m1 m2;simp only[X0]at m1 m2;omega
 ·obtain⟨i,hi,rfl⟩:=bf hs
  obtain⟨j,hj,rfl⟩:=bf hu;have hpe:∀ k,k<h.Spans.length->ar (tbl h) (nth h.Spans k).Page=nth (tbl h).Entries (nth h.Spans k).Page.toNat:=fun k hk=>by
   have hc:=aF (hL.sok _ (am hk));have hb:=f2 _ (dv (la:=h.Larges) (am hk));rw[show(nth h.Spans k).Page=(((nth h.Spans k).Page.toNat:Nat):Int) by omega];exact vi (by omega)
  unfold m0 at hm;rw[bZ]at hm;rcases Nat.lt_trichotomy i j with hlt|heq|hlt
  ·have h1:=d9 (hm j hj) hlt
   unfold jI at h1;rw[hpe i hi,hpe j hj,R4,C0]at h1;rw[iv];exact h1.resolve_left fun e=>e hf.symm
  ·subst heq;exact absurd rfl hne
  ·have h1:=d9 (hm i hi) hlt
   unfold jI at h1;rw[hpe i hi,hpe j hj,R4,C0]at h1;exact h1.resolve_left fun e=>e hf
theorem yA (sp:List au):cA sp.length (ug sp)=true↔sp.Pairwise fun a b=>a.Page<b.Page:=by
 rw[bZ];refine Iff.trans ?_ (tM (fun a b:Int=>a<b) (fun a b c=>Int.lt_trans) (fun s:au=>s.Page) sp);unfold ug;simp only[C0]
theorem yh (la:List a8):cA la.length (wi la)=true↔la.Pairwise fun a b=>a.Page<b.Page:=by
 rw[bZ];refine Iff.trans ?_ (tM (fun a b:Int=>a<b) (fun a b c=>Int.lt_trans) (fun s:a8=>s.Page) la);unfold wi;simp only[C0]
theorem N3 {h:ab} (hlay:bk h.Spans h.Larges=true) (hr:bv (dQ h) h.Free=true) (h1:h.Spans.Pairwise fun a b=>a.Page<b.Page) (h2:h.Larges.Pairwise fun a b=>a.Page<b.Page) (hg:Pg (tbl h) h.Free h.Spans h.Larges):pages0 h=true/\m0 h=true:=by
 have hL:=q8.of hlay;constructor
 ·unfold pages0
  simp only[I0];refine⟨⟨⟨(yA _).2 h1,bZ.2 fun i hi=>?_⟩,v3.2 fun p hp=>O0 (hg.bnd p hp)⟩,bZ.2 fun p hp=>?_⟩
  ·unfold q9
   rw[I0];refine⟨d9 ((yh _).2 h2) hi,bZ.2 fun k hk=>?_⟩;have hl:=am hi;have hf:=aU (hL.lok _ hl);obtain⟨p,hp⟩ : ∃ p:Nat,(nth h.Larges i).Page+(k:Nat)=(p:Nat):=⟨((nth h.Larges i).Page+k).toNat,by omega⟩
   have hpl:(p:Int)∈lpgs (nth h.Larges i) (nth h.Larges i).Pages.toNat:=db.2 ⟨k,hk,hp.symm⟩;have hpn:p<dQ h:=by have:=hg.bnd _ (eZ (sp:=h.Spans) hl hpl);exact Int.ofNat_lt.1 this
   have hpm:=(hg.own p hpn).2 (eZ hl hpl);unfold ve;rw[C0,hp,eB hpn hpm];refine KQ (wY ..) (dw.2 ⟨hpn,hpm,rfl⟩) fun x hx=>?_
   obtain⟨q,rfl⟩:=sC hx;obtain⟨g1,g2,g3⟩:=dw.1 hx;rw[hg.one _ hl p hpl q g1 g2 g3]
  ·unfold tl
   rw[I0,C0];refine⟨hg.own p hp,?_⟩;have h5:=hg.fre p hp;rw[<-BM hr]at h5;cases e:h.Free.any (oW (p:Int))<;>rw[e]at h5<;>simpa using h5
 ·unfold m0
  refine bZ.2 fun i hi=>bZ.2 fun j hj=>?_
  have hjl:j<h.Spans.length:=by omega
  have hpe:∀ k,k<h.Spans.length->ar (tbl h) (nth h.Spans k).Page=nth (tbl h).Entries (nth h.Spans k).Page.toNat:=fun k hk=>by
   have hc:=aF (hL.sok _ (am hk));have hb:=hg.bnd _ (dv (la:=h.Larges) (am hk));rw[show(nth h.Spans k).Page=(((nth h.Spans k).Page.toNat:Nat):Int) by omega];exact vi (by unfold dQ;unfold tbl at hb;omega)
  unfold jI;rw[hpe i hi,hpe j hjl,R4,C0];by_cases e:(nth (tbl h).Entries (nth h.Spans i).Page.toNat).Frame=(nth (tbl h).Entries (nth h.Spans j).Page.toNat).Frame
  ·refine .inr (hg.mesh _ (am hi) _ (am hjl) (fun e2=>?_) e)
   have:=gx (f:=(·.Page)) hL.nd hi hjl e2;omega
  ·exact .inl e
theorem B8 {h:ab} (hn:bW h=true) (hL:q8 h.Spans h.Larges):eS h=true↔(h.Objs.Pairwise fun a b=>a.Addr<b.Addr)/\(∀ o∈h.Objs,1<=o.Id/\o.Id<=h.Next - 1/\0<=o.Thread/\o.Thread<=h.Caches.length - 1)/\(h.Objs.map (·.Id)).Nodup/\∀ o∈h.Objs,JC h.Spans h.Larges o:=by
 unfold bW at hn;rw[C0]at hn;refine Iff.trans ?_ (and_congr (tM (fun a b:Int=>a<b) (fun a b c=>Int.lt_trans) (fun o:bJ=>o.Addr) h.Objs) (and_congr Iff.rfl (and_congr (y7 (fun o:bJ=>o.Id) h.Objs) Iff.rfl)));unfold eS;rw[ed (by omega) (by omega),bZ];have hk:∀ i,i<h.Objs.length->(objAt (h.Next - 1) h i=true↔(i=0\/(nth h.Objs (i - 1)).Addr<(nth h.Objs i).Addr)/\(1<=(nth h.Objs i).Id/\(nth h.Objs i).Id<=h.Next - 1/\0<=(nth h.Objs i).Thread/\(nth h.Objs i).Thread<=h.Caches.length - 1)/\(∀ o∈h.Objs.take i,o.Id≠(nth h.Objs i).Id)/\JC h.Spans h.Larges (nth h.Objs i)):=fun i hi=>by
  unfold objAt gy;rw[I0,I0,C0,Kw hL,Bool.not_eq_true',List.any_eq_false];simp only[jU,C0];constructor
  ·rintro⟨⟨⟨a1,a2⟩,a3⟩,a4⟩;exact⟨a1,a2,a3,a4⟩
  ·rintro⟨a1,a2,a3,a4⟩;exact⟨⟨⟨a1,a2⟩,a3⟩,a4⟩
 constructor
 ·intro h1
  have h2:=fun i hi=>(hk i hi).1 (h1 i hi)
  refine⟨fun i hi=>(h2 i hi).1,fun o ho=>?_,fun i hi=>(h2 i hi).2.2.1,fun o ho=>?_⟩
  ·obtain⟨i,hi,rfl⟩:=bf ho;exact(h2 i hi).2.1
  ·obtain⟨i,hi,rfl⟩:=bf ho;exact(h2 i hi).2.2.2
 ·rintro⟨a1,a2,a3,a4⟩ i hi
  exact(hk i hi).2 ⟨a1 i hi,a2 _ (am hi),a3 i hi,a4 _ (am hi)⟩
theorem uB {h:ab} (hL:q8 h.Spans h.Larges):gw h=true↔(∀ c∈h.Caches,∀ k:Nat,k<c.Lists.length->∀ a∈nth c.Lists k,iU h.Spans a k)/\(∀ x∈h.Quar.Lst,iU h.Spans x.Addr x.Class)/\∀ a∈aK h.Mail,iU h.Spans a (-1):=by
 rw[ko];simp only[v3,dX,bZ,pN,gp,ju,Hv hL,and_assoc]
theorem zQ {p:Int} {h:ab} : 0<=er h p↔∃ s∈h.Spans,s.Page=p:=by
 unfold er;rw[show(0<=du (jb p) h.Spans)↔(decide (du (jb p) h.Spans≥0)=true) by simp,jz,Z2];simp[jb]
theorem bo.of {h:ab} (hh:eC h=true):bo h []:=by
 unfold eC kD at hh;simp only[I0]at hh;obtain⟨⟨⟨⟨⟨⟨⟨⟨⟨⟨h1,h2⟩,h3⟩,h4⟩,h5⟩,h6⟩,h7⟩,h8⟩,h9⟩,h10,h11⟩,h12⟩:=hh;have hL:=q8.of h3;rw[se h3 h4]at h5;have hp:=h4;unfold pages0 at hp;simp only[I0]at hp;unfold cT at h6;simp only[I0,C0]at h6;unfold ia at h11;simp only[I0,C0]at h11;obtain⟨⟨k1,k2⟩,k3⟩:=h11;obtain⟨o1,o2,o3,o4⟩:=(B8 h9 hL).1 h10;obtain⟨q1,q2,q3⟩:=(uB hL).1 k1;unfold jt at h7;have hln:=bZ.1 hp.1.1.2;refine⟨h1,h2,h3,(yA _).1 hp.1.1.1,(yh _).1 (bZ.2 fun i hi=>?_),Na h3 h2 h4 h5,h6.1.1,h6.1.2,h6.2,fun x hx=>by simpa using v3.1 h7 x hx,fun c hc=>v3.1 h8 c hc,h9,o1,o2,o3,o4,q1,q2,q3,fun a ha=>(by cases ha),(by simpa using k2),fun a=>?_,fun hm=>?_,fun hm=>?_⟩
 ·have:=hln i hi
  unfold q9 at this;rw[I0]at this;exact this.1
 ·rw[List.nil_append,<-Du hL]
  exact⟨fun ha=>jm hL h10 k1 a ha,fun ha=>pE k2 (jm hL h10 k1) (by omega) a ha⟩
 ·unfold oG at h12
  rw[if_pos hm]at h12;simp only[I0,C0,zQ]at h12;exact⟨h12.1.1,h12.1.2,h12.2⟩
 ·unfold oG at h12
  rw[if_neg (by rw[hm];simp)]at h12;exact h12
theorem bo.to {h:ab} (hi:bo h []):eC h=true:=by
 have hL:=hi.L;obtain⟨p1,p2⟩:=N3 hi.lay hi.rng hi.srs hi.srl hi.pg;have hob:=(B8 hi.nums hL).2 ⟨hi.osr,hi.onu,hi.oid,hi.oow⟩;have hhe:=(uB hL).2 ⟨hi.hca,hi.hqu,hi.hfl⟩;unfold eC kD;simp only[I0];refine⟨⟨⟨⟨⟨⟨⟨⟨⟨⟨hi.ker,hi.rng⟩,hi.lay⟩,p1⟩,by rw[se hi.lay p1];exact p2⟩,?_⟩,?_⟩,v3.2 hi.cach⟩,hi.nums⟩,hob,?_⟩,?_⟩
 ·unfold cT
  rw[hi.mail,hi.quar,O0 hi.nc];rfl
 ·unfold jt
  exact v3.2 fun x hx=>O0 (hi.snc x hx)
 ·unfold ia
  have hn:(holders h).Nodup:=by simpa using hi.nd
  have hm:∀ a,a∈holders h↔a∈hJ h.Spans h.Larges:=fun a=>by rw[Du hL,<-hi.mem a];simp
  have hp:(holders h).Perm (hJ h.Spans h.Larges):=(List.perm_ext_iff_of_nodup hn (nu ..)).2 hm;rw[hhe,O0 hn,O0 hp.length_eq];rfl
 ·unfold oG
  cases hm:h.Meshing with
  | true=>
   obtain⟨j1,j2,j3⟩:=hi.job hm;rw[if_pos rfl,j1,O0 (zQ.2 j2),O0 (zQ.2 j3)];rfl
  | false=>rw[if_neg (by simp)];exact hi.noj hm
def dele {α:Type} (xs:List α) (i:Nat):List α:=xs.take i++xs.drop (i+1)
theorem fh {α:Type} (xs:List α) (i:Nat):(dele xs i).Sublist xs:=by
 unfold dele;rw[<-List.eraseIdx_eq_take_drop_succ];exact List.eraseIdx_sublist ..
theorem yo {α:Type} [Inhabited α] {xs:List α} {i:Nat} (hi:i<xs.length):xs.Perm (nth xs i::dele xs i):=by
 have:xs=xs.take i++nth xs i::xs.drop (i+1):=by rw[<-iS hi,List.take_append_drop]
 conv=>lhs;rw[this]
 exact List.perm_middle
theorem gZ {α:Type} [Inhabited α] (f:α->List Int) (a:Int):∀ (xs:List α) (i:Nat) (y:α),i<xs.length->((xs.set i y).flatMap f).count a+(f (nth xs i)).count a=(xs.flatMap f).count a+(f y).count a
 | [],i,_,h=>by cases h
 | x::xs,0,y,_=>by
  show((y::xs).flatMap f).count a+(f x).count a=((x::xs).flatMap f).count a+(f y).count a;rw[W4,W4,P4,P4];omega
 | x::xs,i+1,y,h=>by
  have:=gZ f a xs i y (by simpa using h);show((x::xs.set i y).flatMap f).count a+(f (nth xs i)).count a=((x::xs).flatMap f).count a+(f y).count a;rw[W4,W4,P4,P4];omega
theorem jS (ls:List (List Int)):ls.flatten=ls.flatMap fun x=>x:=by
 induction ls with
 | nil=>rfl
 | cons x xs ih=>rw[List.flatten_cons,W4,ih]
theorem iU.any {sp:List au} {a c:Int} (h:iU sp a c):iU sp a (-1):=by
 obtain⟨s,hs,h1,-⟩:=h;exact⟨s,hs,h1,.inl (by decide)⟩
theorem bo.cells {h:ab} {E:List Int} (hi:bo h E) {k:af} (hk:aA k=true) (ht:k.Machine.Table=h.Kernel.Machine.Table):bo {h with Kernel:=k} E:=
 {hi with
   ker:=hk
   rng:=by show bv ((k.Machine.Table.Entries.length:Nat):Int) h.Free=true;rw[ht];exact hi.rng
   pg:=by show Pg k.Machine.Table h.Free h.Spans h.Larges;rw[ht];exact hi.pg}
theorem bo.dropO {h:ab} {E:List Int} {i:Nat} (hi:bo h E) (li:i<h.Objs.length) (hs:iU h.Spans (nth h.Objs i).Addr (-1)):bo {h with Objs:=dele h.Objs i} ((nth h.Objs i).Addr::E):=by
 have hp:(E++holders h).Perm (((nth h.Objs i).Addr::E)++holders {h with Objs:=dele h.Objs i}):=by
  have h0:=(yo li).map (·.Addr);refine List.perm_iff_count.2 fun a=>?_
  have h1:=h0.count_eq a;simp only[O4,List.count_cons]at h1;simp only[holders,ch,P4,List.cons_append,List.count_cons];omega
 have hd:(dele h.Objs i).Sublist h.Objs:=fh ..;exact {hi with
   osr:=hi.osr.sublist hd
   onu:=fun o ho=>hi.onu o (hd.subset ho)
   oid:=hi.oid.sublist (hd.map _)
   oow:=fun o ho=>hi.oow o (hd.subset ho)
   hin:=fun a ha=>by
     rcases List.mem_cons.1 ha with rfl|ha
     · exact hs
     · exact hi.hin a ha
   nd:=hp.nodup_iff.1 hi.nd
   mem:=fun a=>by rw[<-hp.mem_iff];exact hi.mem a}
def lN (c:aB) (k:Nat) (a:Int):aB:=⟨c.Lists.set k (nth c.Lists k++[a])⟩
theorem bo.put {h:ab} {E:List Int} {a:Int} {t k:Nat} (hi:bo h (a::E)) (ht:t<h.Caches.length) (hk:k<(nth h.Caches t).Lists.length) (hs:iU h.Spans a k) (hc:br (lN (nth h.Caches t) k a)=true):bo {h with Caches:=h.Caches.set t (lN (nth h.Caches t) k a)} E:=by
 have hp:(a::E++holders h).Perm (E++holders {h with Caches:=h.Caches.set t (lN (nth h.Caches t) k a)}):=by
  refine List.perm_iff_count.2 fun b=>?_
  have h1:=gZ (fun c:aB=>c.Lists.flatten) b h.Caches t (lN (nth h.Caches t) k a) ht;have h2:=gZ (fun x:List Int=>x) b (nth h.Caches t).Lists k (nth (nth h.Caches t).Lists k++[a]) hk;rw[<-jS,<-jS]at h2;simp only[P4,List.count_singleton]at h2;simp only[lN]at h1;simp only[holders,ch,lN,P4,List.cons_append,List.count_cons];omega
 exact {hi with
   nc:=by show(h.Caches.set ..).length=_;rw[Z0];exact hi.nc
   cach:=fun c hcm=>by
     rcases U4 hcm with hcm|rfl
     · exact hi.cach c hcm
     · exact hc
   onu:=by show ∀ o∈h.Objs,1<=o.Id/\o.Id<=h.Next - 1/\0<=o.Thread/\o.Thread<=(h.Caches.set t _).length - 1;rw[Z0];exact hi.onu
   hca:=fun c hcm j hj b hb=>by
     rcases U4 hcm with hcm|rfl
     · exact hi.hca c hcm j hj b hb
     · simp only[lN,Z0]at hj
       simp only[lN,cx]at hb;by_cases e:k=j
       · subst e
         rw[if_pos ⟨rfl,hj⟩]at hb;rcases C2.1 hb with hb|hb
         · exact hi.hca _ (am ht) _ hj b hb
         · rw[X0.1 hb];exact hs
       · rw[if_neg fun x=>e x.1]at hb
         exact hi.hca _ (am ht) _ hj b hb
   hin:=fun b hb=>hi.hin b (Z3 _ hb)
   nd:=hp.nodup_iff.1 hi.nd
   mem:=fun b=>by rw[<-hp.mem_iff];exact hi.mem b}
theorem bo.toQuar {h:ab} {E:List Int} {x:aL} {q:bA} {out:List aL} (hi:bo h (x.Addr::E)) (hq:f6 q=true) (he:h.Quar.Lst++[x]=out++q.Lst) (hx:x.Since<=h.Clock) (hs:iU h.Spans x.Addr x.Class):bo {h with Quar:=q} (out.map (·.Addr)++E):=by
 have hall:∀ y∈out++q.Lst,y.Since<=h.Clock/\iU h.Spans y.Addr y.Class:=fun y hy=>by
  rw[<-he]at hy;rcases C2.1 hy with hy|hy
  ·exact⟨hi.snc y hy,hi.hqu y hy⟩
  ·rw[X0.1 hy];exact⟨hx,hs⟩
 have hp:(x.Addr::E++holders h).Perm ((out.map (·.Addr)++E)++holders {h with Quar:=q}):=by
  refine List.perm_iff_count.2 fun b=>?_
  have h1:=R0 (fun l:List aL=>(l.map (·.Addr)).count b) he;simp only[C4,P4,O4,List.map_nil,List.count_singleton]at h1;simp only[holders,ch,P4,List.cons_append,List.count_cons];omega
 exact {hi with
   quar:=hq
   snc:=fun y hy=>(hall y (C2.2 (.inr hy))).1
   hqu:=fun y hy=>(hall y (C2.2 (.inr hy))).2
   hin:=fun b hb=>by
     rcases C2.1 hb with hb|hb
     · obtain⟨y,hy,rfl⟩:=O3.1 hb
       exact(hall y (C2.2 (.inl hy))).2.any
     · exact hi.hin b (Z3 _ hb)
   nd:=hp.nodup_iff.1 hi.nd
   mem:=fun b=>by rw[<-hp.mem_iff];exact hi.mem b}
def wK (b i:Int):Int:=((BitVec.ofInt IntKind.i64.bits b &&& ~~~BitVec.ofInt IntKind.i64.bits (2 ^ i.toNat)).toNat:Nat)
def lX (s:au) (i:Int):au:={s with Bits:=wK s.Bits i}
theorem fK (b i:Int):aT b i=true↔0<=b/\0<=i/\i<=15/\b.toNat.testBit i.toNat=true:=by
 unfold aT;rw[C0];refine and_congr_right fun hb=>and_congr_right fun hi=>and_congr_right fun _=>?_
 obtain⟨n,rfl⟩:=Z1 hb;rw[Nat.testBit_eq_decide_div_mod_eq,C0,W1]
 norm_cast
theorem AC {b i:Int} (hb:0<=b/\b<=65535) (hi:0<=i/\i<=15) (j:Nat):(wK b i).toNat.testBit j=(b.toNat.testBit j&&decide (i.toNat≠j)):=by
 have h2:(2:Int) ^ i.toNat<=32768/\0<=(2:Int) ^ i.toNat:=by
  obtain⟨n,rfl⟩:=Z1 hi.1;rw[W1];have:(2:Nat) ^ n<=2 ^ 15:=Nat.pow_le_pow_right (by decide) (by omega);have h3:((2 ^ n:Nat):Int)=(2:Int) ^ n:=Int.natCast_pow 2 n;rw[<-h3];exact⟨Int.ofNat_le.2 this,Int.natCast_nonneg _⟩
 unfold wK;rw[W1,BitVec.testBit_toNat,BitVec.getLsbD_and,BitVec.getLsbD_not,<-BitVec.testBit_toNat,<-BitVec.testBit_toNat,lD (by omega),lD (by omega)];rw[show((2:Int) ^ i.toNat).toNat=2 ^ i.toNat by rw[show(2:Int) ^ i.toNat=((2 ^ i.toNat:Nat):Int) by norm_cast,W1],Nat.testBit_two_pow];by_cases hj:j<64
 ·rw[show decide (j<IntKind.i64.bits)=true from O0 hj,Bool.true_and]
  congr 1
  by_cases e:i.toNat=j
  ·rw[O0 e,P0 (fun x=>x e)];rfl
  ·rw[P0 e,O0 e];rfl
 ·rw[Nat.testBit_lt_two_pow (x:=b.toNat) (i:=j) (W2 (show b.toNat<2 ^ 16 by omega) (Nat.pow_le_pow_right (by decide) (by omega)))]
  rfl
theorem zp {b i:Int} (hb:0<=b/\b<=65535):0<=wK b i/\wK b i<=b:=by
 unfold wK;refine⟨by omega,?_⟩;rw[BitVec.toNat_and,lD (by omega)];have:=Nat.and_le_left (n:=b.toNat) (m:=(~~~BitVec.ofInt IntKind.i64.bits (2 ^ i.toNat)).toNat);omega
theorem JD {b i:Int} (hb:0<=b/\b<=65535) (hi:0<=i/\i<=15) (j:Int):aT (wK b i) j=true↔aT b j=true/\j≠i:=by
 rw[fK,fK,AC hb hi,I0,C0];have:=zp (i:=i) hb;constructor
 ·rintro⟨a1,a2,a3,a4,a5⟩;exact⟨⟨hb.1,a2,a3,a4⟩,fun e=>a5 (by rw[e])⟩
 ·rintro⟨⟨a1,a2,a3,a4⟩,a5⟩;exact⟨this.1,a2,a3,a4,fun e=>a5 (by omega)⟩
theorem ew {s:au} (h:aY s=true):0<=s.Bits/\s.Bits<=65535:=by
 unfold aY at h;simp only[C0]at h;have:=EI s.Class;omega
theorem F6 {s:au} (h:aY s=true) (i:Int):aY (lX s i)=true:=by
 have h1:=ew h;have h2:=zp (i:=i) h1;unfold aY at h;rw[C0]at h;obtain⟨a1,a2,a3,a4,a5,a6⟩:=h;exact O0 ⟨a1,a2,a3,a4,h2.1,Int.le_trans h2.2 a6⟩
theorem rk {s u:au} (hs:aY s=true) {i:Int} (hi:0<=i/\i<=15) (h:meshable s u=true):meshable (lX s i) u=true:=by
 unfold meshable at h |-;simp only[I0,C0]at h |-;obtain⟨⟨h1,h2⟩,h3,h4,h5⟩:=h;refine⟨⟨F6 h1 i,h2⟩,h3,h4,?_⟩;refine Nat.eq_of_testBit_eq fun j=>?_
 have:=R0 (fun n=>Nat.testBit n j) h5;simp only[Nat.testBit_and,Nat.zero_testBit,lX,AC (ew hs) hi]at this |-;cases e1:s.Bits.toNat.testBit j<;>cases e2:u.Bits.toNat.testBit j<;>rw[e1,e2]at this<;>simp_all
def dS (s:au) (a:Int):Int:=(a - 16*s.Page) / csz s.Class
theorem rq {s:au} (h:aY s=true) {a:Int} (ha:16*s.Page<=a/\a<=16*s.Page+15):0<=dS s a/\dS s a<=15:=by
 have hc:=aF h;unfold dS;rcases cg ⟨hc.2.2.1,hc.2.2.2⟩ with e|e|e|e<;>rw[e]<;>omega
theorem DK {s:au} (h:aY s=true) {a b:Int} (ha:(a - 16*s.Page) % csz s.Class=0) (hb:(b - 16*s.Page) % csz s.Class=0) (e:dS s a=dS s b):a=b:=by
 have hc:=aF h;unfold dS at e;rcases cg ⟨hc.2.2.1,hc.2.2.2⟩ with z|z|z|z<;>rw[z]at ha hb e<;>omega
theorem xY {s:au} (h:aY s=true) {a:Int} (ha:eU s a) (b:Int):eU (lX s (dS s a)) b↔eU s b/\b≠a:=by
 obtain⟨a1,a2,a3,a4⟩:=ha;have hbd:=rq h ⟨a1,a2⟩;unfold eU;simp only[lX];rw[JD (ew h) hbd];constructor
 ·rintro⟨b1,b2,b3,b4,b5⟩
  exact⟨⟨b1,b2,b3,b4⟩,fun e=>b5 (by rw[e];rfl)⟩
 ·rintro⟨⟨b1,b2,b3,b4⟩,b5⟩
  exact⟨b1,b2,b3,b4,fun e=>b5 (DK h b3 a3 e)⟩
theorem eK {α:Type} [Inhabited α] {xs:List α} {i:Nat} {y z:α} (h:z∈xs.set i y):z=y\/∃ j,j<xs.length/\j≠i/\nth xs j=z:=by
 obtain⟨j,hj,rfl⟩:=List.mem_iff_getElem.1 h;rw[List.getElem_set];by_cases e:i=j
 ·subst e;simp
 ·rw[if_neg e]
  rw[Z0]at hj;exact .inr ⟨j,hj,fun x=>e x.symm,bn (Q1 hj)⟩
theorem iK {α:Type} [Inhabited α] {xs:List α} {i j:Nat} (y:α) (hj:j<xs.length) (e:j≠i):nth xs j∈xs.set i y:=by
 have:nth (xs.set i y) j=nth xs j:=by rw[cx,if_neg fun x=>e x.1.symm]
 rw[<-this];exact am (by rw[Z0];exact hj)
theorem gU {α:Type} {xs:List α} {i:Nat} (y:α) (hi:i<xs.length):y∈xs.set i y:=by
 refine List.mem_iff_getElem.2 ⟨i,by rw[Z0];exact hi,by simp⟩
theorem JT {sp:List au} {i:Nat} (k:Int) (hi:i<sp.length):(sp.set i (lX (nth sp i) k)).map (·.Page)=sp.map (·.Page):=by
 rw[Q4];refine List.ext_getElem (by simp) fun j h1 h2=>?_
 rw[List.getElem_set];split
 ·rename_i e;subst e
  rw[List.getElem_map];show(nth sp i).Page=_;rw[bn (Q1 hi)]
 ·rfl
theorem iU.set {sp:List au} {la:List a8} (hL:q8 sp la) {i:Nat} (hi:i<sp.length) {a:Int} (ha:eU (nth sp i) a) (b c:Int):iU (sp.set i (lX (nth sp i) (dS (nth sp i) a))) b c↔iU sp b c/\b≠a:=by
 have hsi:=hL.sok _ (am hi);constructor
 ·rintro⟨s,hs,h1,h2⟩
  rcases eK hs with rfl|⟨j,hj,hji,rfl⟩
  ·have:=(xY hsi ha b).1 h1
   exact⟨⟨_,am hi,this.1,h2⟩,this.2⟩
  ·refine⟨⟨_,am hj,h1,h2⟩,fun e=>?_⟩
   subst e;have:=gx (f:=(·.Page)) hL.nd hi hj (by have a1:=ha.1;have a2:=ha.2.1;have b1:=h1.1;have b2:=h1.2.1;omega);omega
 ·rintro⟨⟨s,hs,h1,h2⟩,hne⟩
  obtain⟨j,hj,rfl⟩:=bf hs;by_cases e:j=i
  ·subst e
   exact⟨_,gU _ hi,(xY hsi ha b).2 ⟨h1,hne⟩,h2⟩
  ·exact⟨_,iK _ hj e,h1,h2⟩
theorem bo.give {h:ab} {E:List Int} {a:Int} {i:Nat} (hi:bo h (a::E)) (li:i<h.Spans.length) (ha:eU (nth h.Spans i) a):bo {h with Spans:=h.Spans.set i (lX (nth h.Spans i) (dS (nth h.Spans i) a))} E:=by
 have hL:=hi.L;have hsi:=hL.sok _ (am li);have hbd:=rq hsi ⟨ha.1,ha.2.1⟩;have hSl:=fun b c=>iU.set hL li ha b c
 have hpg:=JT (dS (nth h.Spans i) a) li;generalize hsp:h.Spans.set i (lX (nth h.Spans i) (dS (nth h.Spans i) a))=sp at hSl hpg;have hpgs:pgs sp h.Larges=pgs h.Spans h.Larges:=by unfold pgs;rw[hpg]
 have hnd:=hi.nd;rw[List.cons_append]at hnd;obtain⟨hna,hnd⟩:=List.nodup_cons.1 hnd;have hne:∀ b,b∈E++holders h->b≠a:=fun b hb e=>hna (by rw[<-e];exact hb)
 have hho:∀ b,b∈holders h->b≠a:=fun b hb=>hne b (C2.2 (.inr hb))
 have hla:∀ l∈h.Larges,16*l.Page≠a:=fun l hl e=>(uY hL hl).1 _ (am li) (by have a1:=ha.1;have a2:=ha.2.1;omega)
 have hsp':∀ s∈sp,∃ u∈h.Spans,u.Page=s.Page/\(s=u\/s=lX u (dS (nth h.Spans i) a)):=fun s hs=>by
  rw[<-hsp]at hs;rcases eK hs with rfl|⟨j,hj,hji,rfl⟩
  ·exact⟨_,am li,rfl,.inr rfl⟩
  ·exact⟨_,am hj,rfl,.inl rfl⟩
 have hbk:∀ u∈h.Spans,∃ s∈sp,s.Page=u.Page:=fun u hu=>by
  have:u.Page∈sp.map (·.Page):=by rw[hpg];exact O3.2 ⟨u,hu,rfl⟩
  obtain⟨s,hs,e⟩:=O3.1 this;exact⟨s,hs,e⟩
 exact {hi with
   lay:=by
     obtain⟨l1,l2,l3⟩:=cY hi.lay;unfold bk;simp only[I0,C0];refine⟨⟨v3.2 fun s hs=>?_,l2⟩,by rw[hpgs];exact l3⟩;obtain⟨u,hu,-,rfl|rfl⟩:=hsp' s hs
     · exact hL.sok _ hu
     · exact F6 (hL.sok _ hu) _
   srs:=by
     have h1:(h.Spans.map (·.Page)).Pairwise (fun a b=>a<b):=List.pairwise_map.2 hi.srs;rw[<-hpg]at h1;exact List.pairwise_map.1 h1
   pg:=⟨hi.pg.one,by rw[hpgs];exact hi.pg.bnd,by rw[hpgs];exact hi.pg.own,hi.pg.fre,fun s hs u hu hne hf=>by
     obtain⟨s',hs',es,hs2⟩:=hsp' s hs;obtain⟨u',hu',eu,hu2⟩:=hsp' u hu;have h1:=hi.pg.mesh s' hs' u' hu' (by rw[es,eu];exact hne) (by rw[es,eu];exact hf);have h2:meshable s u'=true:=by
       rcases hs2 with rfl|rfl
       · exact h1
       · exact rk (hL.sok _ hs') hbd h1
     rcases hu2 with rfl|rfl
     · exact h2
     · rw[iv]at h2 |-;exact rk (hL.sok _ hu') hbd h2⟩
   oow:=fun o ho=>by
     have hoa:o.Addr≠a:=hho _ (by unfold holders;simp only[C2];exact .inl (.inl (.inl (O3.2 ⟨o,ho,rfl⟩))));rcases hi.oow o ho with⟨s,hs,h1,h2⟩|h1
     · obtain⟨u,hu,g1,g2⟩:=(hSl o.Addr (aO o.Size)).2 ⟨⟨s,hs,h1,.inr h2⟩,hoa⟩
       refine .inl ⟨u,hu,g1,?_⟩;rcases g2 with g2|g2
       · have:=aF (hL.sok _ hs);omega
       · exact g2
     · exact .inr h1
   hca:=fun c hc k hk b hb=>(hSl b k).2 ⟨hi.hca c hc k hk b hb,hho b (by
     unfold holders ch;simp only[C2];exact .inl (.inl (.inr (List.mem_flatMap.2 ⟨c,hc,List.mem_flatten.2 ⟨_,am hk,hb⟩⟩))))⟩
   hqu:=fun x hx=>(hSl _ _).2 ⟨hi.hqu x hx,hho _ (by unfold holders;simp only[C2];exact .inl (.inr (O3.2 ⟨x,hx,rfl⟩)))⟩
   hfl:=fun b hb=>(hSl _ _).2 ⟨hi.hfl b hb,hho _ (by unfold holders;simp only[C2];exact .inr hb)⟩
   hin:=fun b hb=>(hSl _ _).2 ⟨hi.hin b (Z3 _ hb),hne b (C2.2 (.inl hb))⟩
   nd:=hnd
   mem:=fun b=>by
     show b∈E++holders h↔ll sp h.Larges b;have h1:=hi.mem b;rw[List.cons_append,List.mem_cons]at h1;unfold ll at h1 |-;rw[hSl];constructor
     · intro hb
       rcases h1.1 (.inr hb) with h2|h2
       · exact .inl ⟨h2,hne b hb⟩
       · exact .inr h2
     · rintro(⟨h2,h3⟩|⟨l,hl,rfl⟩)
       · exact(h1.2 (.inl h2)).resolve_left h3
       · exact(h1.2 (.inr ⟨l,hl,rfl⟩)).resolve_left (hla l hl)
   job:=fun hm=>by
     obtain⟨j1,⟨s,hs,e1⟩,⟨u,hu,e2⟩⟩:=hi.job hm;obtain⟨s',hs',g1⟩:=hbk s hs;obtain⟨u',hu',g2⟩:=hbk u hu;exact⟨j1,⟨s',hs',g1.trans e1⟩,⟨u',hu',g2.trans e2⟩⟩}
end Go.Proofs.YtembpgjjnioagaaGreat.Ab
