/- What valid frames, tables, machines and kernels are, and the contracts of the functions that ask it, the reference's and the program's. No condition. -/
import Derived.Test.YtplcalfnngkffaaGreatMg
set_option linter.unusedVariables false

namespace Go.Proofs.YtplcalfnngkffaaGreat.Ab
open Go.RowKit
set_option maxRecDepth 20000
set_option maxHeartbeats 4000000
theorem p9 (f:aD) (hs:aD.sml f):ah Tryz.prog 70 false [.val (some 2) (aD.enc .imm f)] .one [B (cI f)]:=by
 have hl:=hs.1.1
 have hu:f.Used.length≤1048576:=hs.2
 refine fO 61 [] Tryz.func70 rfl ?_
 repeat'(first|refine gO ?_|(conv=>whnf);first|with_reducible (first|refine Bf.D (fun hq=>?_) (fun hq=>?_)|refine Bf.N (fun hq=>?_) (fun hq=>?_))|refine Cl.mk (aO f.Cells.length 1 32) ?_)
 ·exact congrArg (fun z=>[B z]) (by symm;unfold cI;rw[decide_eq_false (by omega:¬(f.Used.length=f.Cells.length))];simp)
 rotate_left
 ·exact congrArg (fun z=>[B z]) (by symm;unfold cI;rw[decide_eq_false (by omega:¬(1≤f.Cells.length∧f.Cells.length≤32))];rfl)
 have h32:1≤f.Cells.length∧f.Cells.length≤32:=by omega
 have huc:f.Used.length=f.Cells.length:=by omega
 (conv=>whnf)
 refine Lp.mk (ι:=Nat) (fun i=>[(1,.hold .box (aD.enc .imm f)),(3,.hold .one [I (i:Nat)])]) (fun i=>i≤f.Cells.length∧((f.Cells.zip f.Used).take i).all (fun q=>i6 q.1 q.2)=true) (fun i=>f.Cells.length - i) 0 ?_ ⟨Nat.zero_le _,rfl⟩ fun i hi=>?_
 ·exact wA
 ·obtain⟨hi,ha⟩:=hi
  by_cases hlt:i<f.Cells.length
  ·obtain⟨r,hr⟩ : ∃ r,f.Cells[i]? = some r:=⟨_,List.getElem?_eq_getElem hlt⟩
   obtain⟨u,hu'⟩ : ∃ u,f.Used[i]? = some u:=⟨_,List.getElem?_eq_getElem (by omega)⟩
   repeat'(first|refine gD ?_|(conv=>whnf);first|with_reducible (first|refine Ix.nat (aa hr) ?_|refine Bf.N (fun hq=>?_) (fun hq=>?_)))
   ·exact congrArg (fun z=>[B z]) (ic hr hu' (by unfold i6;rw[decide_eq_false (by omega)];rfl)).symm
   have hr16:r.length=16:=by omega
   (conv=>whnf)
   refine Lp.mk (ι:=Nat) (fun k=>[(1,.hold .box (aD.enc .imm f)),(3,.hold .one [I (i:Nat)]),(4,.hold .one [I (k:Nat)])]) (fun k=>k≤16∧(r.take k).all (jd u)=true) (fun k=>16 - k) 0 ?_ ⟨Nat.zero_le _,rfl⟩ fun k hk=>?_
   ·exact wA
   ·obtain⟨hk,hak⟩:=hk
    by_cases hk16:k<16
    ·obtain⟨v,hv⟩ : ∃ v,r[k]? = some v:=⟨_,List.getElem?_eq_getElem (by omega)⟩
     cases u with
     | true=>
      repeat'(first|refine gD ?_|(conv=>whnf);first|with_reducible (first|refine Ix.nat (aa hr) ?_|refine Ix.nat (aa hu') ?_|refine Ix.nat (aa hv) ?_|refine Bf.D (fun hq=>?_) (fun hq=>?_)|refine Bf.N (fun hq=>?_) (fun hq=>?_))|refine Cl.mk (aO v 0 999) ?_)
      all_goals first
       | exact congrArg (fun z=>[B z]) (ic hr hu' (rA hv (by first|(unfold jd;rw[decide_eq_false (by omega)];rfl)|(unfold jd;rw[decide_eq_false (p:=v=0) (by omega)];simp)))).symm
       | ((conv=>whnf)
          refine Nx.mk (ι:=Nat) (k+1) ⟨(by omega),cD hv hak (by unfold jd;first|(rw[decide_eq_true (by omega)];rfl)|(rw[decide_eq_true (p:=0≤v∧v≤999) (by omega),decide_eq_true (p:=v=0) (by omega)];rfl))⟩ (by omega) ?_
          (exact wA))
     | false=>
      repeat'(first|refine gD ?_|(conv=>whnf);first|with_reducible (first|refine Ix.nat (aa hr) ?_|refine Ix.nat (aa hu') ?_|refine Ix.nat (aa hv) ?_|refine Bf.D (fun hq=>?_) (fun hq=>?_)|refine Bf.N (fun hq=>?_) (fun hq=>?_))|refine Cl.mk (aO v 0 999) ?_)
      all_goals first
       | exact congrArg (fun z=>[B z]) (ic hr hu' (rA hv (by first|(unfold jd;rw[decide_eq_false (by omega)];rfl)|(unfold jd;rw[decide_eq_false (p:=v=0) (by omega)];simp)))).symm
       | ((conv=>whnf)
          refine Nx.mk (ι:=Nat) (k+1) ⟨(by omega),cD hv hak (by unfold jd;first|(rw[decide_eq_true (by omega)];rfl)|(rw[decide_eq_true (p:=0≤v∧v≤999) (by omega),decide_eq_true (p:=v=0) (by omega)];rfl))⟩ (by omega) ?_
          (exact wA))
    ·repeat'(first|refine gD ?_|fail)
     (conv=>whnf)
     refine Nx.mk (i+1) ⟨by omega,cD (uo hr hu') ha (by unfold i6;rw[gt (by omega) hak];simp[hr16])⟩ (by omega) ?_
     exact wA
  ·repeat'(first|refine gD ?_|fail)
   exact congrArg (fun z=>[B z]) (by symm;unfold cI;rw[gt (by rw[List.length_zip];omega) ha];simp[h32,huc])
theorem pI (f:aD) (hs:aD.sml f):ah Tryz.prog 152 false [.val (some 2) (aD.enc .imm f)] .one [B (cI f)]:=by
 have hl:=hs.1.1
 have hu:f.Used.length≤1048576:=hs.2
 refine fO 55 [] Tryz.func152 rfl ?_
 repeat'(first|refine gO ?_|(conv=>whnf);first|with_reducible (first|refine Bf.D (fun hq=>?_) (fun hq=>?_)|refine Bf.N (fun hq=>?_) (fun hq=>?_))|refine Cl.mk (aL f.Cells.length 1 32) ?_)
 ·exact congrArg (fun z=>[B z]) (by symm;unfold cI;rw[decide_eq_false (by omega:¬(f.Used.length=f.Cells.length))];simp)
 rotate_left
 ·exact congrArg (fun z=>[B z]) (by symm;unfold cI;rw[decide_eq_false (by omega:¬(1≤f.Cells.length∧f.Cells.length≤32))];rfl)
 have h32:1≤f.Cells.length∧f.Cells.length≤32:=by omega
 have huc:f.Used.length=f.Cells.length:=by omega
 (conv=>whnf)
 refine Lp.mk (ι:=Nat) (fun i=>[(1,.hold .box (aD.enc .imm f)),(22,.hold .one (ed .imm f.Cells)),(23,.hold .one [I (f.Cells.length)]),(24,.hold .one [I ((i:Nat):Int)])]) (fun i=>i≤f.Cells.length∧((f.Cells.zip f.Used).take i).all (fun q=>i6 q.1 q.2)=true) (fun i=>f.Cells.length - i) (0) ?_ (⟨Nat.zero_le _,rfl⟩) fun i hi=>?_
 ·exact wA
 obtain⟨hi,ha⟩:=hi
 by_cases hlt:i<f.Cells.length
 ·obtain⟨r,hr⟩ : ∃ r,f.Cells[i]? = some r:=⟨_,List.getElem?_eq_getElem hlt⟩
  obtain⟨u,hu'⟩ : ∃ u,f.Used[i]? = some u:=⟨_,List.getElem?_eq_getElem (by omega)⟩
  have hrl:r.length≤1048576:=hs.1.2 r (List.mem_of_getElem? hr)
  repeat'(first|refine gD ?_|(conv=>whnf);first|with_reducible (first|refine Ix.nat (aa hr) ?_|refine Bf.N (fun hq=>?_) (fun hq=>?_)))
  ·exact congrArg (fun z=>[B z]) (ic hr hu' (by unfold i6;rw[decide_eq_false (by omega)];rfl)).symm
  have hr16:r.length=16:=by omega
  (conv=>whnf)
  refine Lp.mk (ι:=Nat) (fun k=>[(1,.hold .box (aD.enc .imm f)),(3,.hold .one [I ((i:Nat):Int)]),(22,.hold .one (ed .imm f.Cells)),(23,.hold .one [I (f.Cells.length)]),(24,.hold .one [I ((i:Nat):Int)]),(32,.hold .one (aI .imm r)),(33,.hold .one [I (r.length)]),(34,.hold .one [I ((k:Nat):Int)])]) (fun k=>k≤r.length∧(r.take k).all (jd u)=true) (fun k=>r.length - k) (0) ?_ (⟨Nat.zero_le _,rfl⟩) fun k hk=>?_
  ·exact wA
  obtain⟨hk,hak⟩:=hk
  by_cases hk16:k<r.length
  ·obtain⟨v,hv⟩ : ∃ v,r[k]? = some v:=⟨_,List.getElem?_eq_getElem (by omega)⟩
   cases u with
   | true=>
    repeat'(first|refine gD ?_|(conv=>whnf);first|with_reducible (first|refine Ix.nat (aa hr) ?_|refine Ix.nat (aa hu') ?_|refine Ix.nat (aa hv) ?_|refine Bf.D (fun hq=>?_) (fun hq=>?_)|refine Bf.N (fun hq=>?_) (fun hq=>?_))|refine Cl.mk (aL v 0 999) ?_)
    all_goals first
     | exact congrArg (fun z=>[B z]) (ic hr hu' (rA hv (by unfold jd;grind))).symm
     | ((conv=>whnf)
        refine Nx.mk (ι:=Nat) (k+1) ⟨(by omega),cD hv hak (by unfold jd;grind)⟩ (by omega) ?_
        (exact wA))
   | false=>
    repeat'(first|refine gD ?_|(conv=>whnf);first|with_reducible (first|refine Ix.nat (aa hr) ?_|refine Ix.nat (aa hu') ?_|refine Ix.nat (aa hv) ?_|refine Bf.D (fun hq=>?_) (fun hq=>?_)|refine Bf.N (fun hq=>?_) (fun hq=>?_))|refine Cl.mk (aL v 0 999) ?_)
    all_goals first
     | exact congrArg (fun z=>[B z]) (ic hr hu' (rA hv (by unfold jd;grind))).symm
     | ((conv=>whnf)
        refine Nx.mk (ι:=Nat) (k+1) ⟨(by omega),cD hv hak (by unfold jd;grind)⟩ (by omega) ?_
        (exact wA))
  ·repeat'(first|refine gD ?_|fail)
   (conv=>whnf)
   refine Nx.mk (i+1) ⟨by omega,cD (uo hr hu') ha (by unfold i6;rw[gt (by omega) hak];simp[hr16])⟩ (by omega) ?_
   exact wA
 ·repeat'(first|refine gD ?_|fail)
  exact congrArg (fun z=>[B z]) (by symm;unfold cI;rw[gt (by rw[List.length_zip];omega) ha];simp[h32,huc])
theorem AJ (t:aB) (fr:Int) (hs:aB.sml t):ah Tryz.prog 335 false [.val (some 1) (aB.enc .imm t),.val none [I fr]] .one [B (fX t fr)]:=by
 have hl:=hs.1
 refine fO 54 [] Tryz.func335 rfl ?_
 repeat'(first|refine gO ?_|fail)
 (conv=>whnf)
 refine Lp.mk (ι:=Nat) (fun i=>[(1,.hold .one [I (fr)]),(2,.hold .box (aB.enc .imm t)),(5,.hold .one [I ((i:Nat):Int)])]) (fun i=>i≤t.Entries.length∧cM i (fun j=>nr fr (nth t.Entries j))=true) (fun i=>t.Entries.length - i) 0 ?_ ⟨Nat.zero_le _,rfl⟩ fun i hi=>?_
 ·exact wA
 obtain⟨hi,ai⟩:=hi
 by_cases li:i<t.Entries.length
 ·have hx:=ao li
  repeat'(first|refine gD ?_|(conv=>whnf);first|with_reducible (first|refine Ix.nat (aa hx) ?_|refine Bf.D (fun hq=>?_) (fun hq=>?_)|refine Bf.N (fun hq=>?_) (fun hq=>?_)|refine Bf.E (fun hq=>?_) (fun hq=>?_))|refine Cl.mk (aO _ 0 2) ?_)
  all_goals first
   | exact congrArg (fun z=>[B z]) ((by symm;unfold fX;rw[cf li (decide_eq_false (by grind))];rfl))
   | ((conv=>whnf);refine Nx.mk (i+1) ⟨by omega,bD ai (decide_eq_true (by grind))⟩ (by omega) ?_;(exact wA))
 ·repeat'(first|refine gD ?_|(conv=>whnf);first|refine Cl.mk (aO _ 1 32) ?_)
  obtain rfl:i=t.Entries.length:=by omega
  exact congrArg (fun z=>[B z]) ((by unfold fX;rw[ai,Bool.true_and];exact decide_eq_decide.2 (by omega)))
theorem AL (t:aB) (fr:Int) (hs:aB.sml t):ah Tryz.prog 238 false [.val (some 1) (aB.enc .imm t),.val none [I fr]] .one [B (fX t fr)]:=by
 have hl:=hs.1
 refine fO 49 [] Tryz.func238 rfl ?_
 repeat'(first|refine gO ?_|fail)
 (conv=>whnf)
 refine Lp.mk (ι:=Nat) (fun i=>[(1,.hold .one [I (fr)]),(2,.hold .box (aB.enc .imm t)),(8,.hold .one (ef .imm t.Entries)),(9,.hold .one [I (t.Entries.length)]),(10,.hold .one [I ((i:Nat):Int)])]) (fun i=>i≤t.Entries.length∧cM i (fun j=>nr fr (nth t.Entries j))=true) (fun i=>t.Entries.length - i) 0 ?_ ⟨Nat.zero_le _,rfl⟩ fun i hi=>?_
 ·exact wA
 obtain⟨hi,ai⟩:=hi
 by_cases li:i<t.Entries.length
 ·have hx:=ao li
  repeat'(first|refine gD ?_|(conv=>whnf);first|with_reducible (first|refine Ix.nat (aa hx) ?_|refine Bf.D (fun hq=>?_) (fun hq=>?_)|refine Bf.N (fun hq=>?_) (fun hq=>?_)|refine Bf.E (fun hq=>?_) (fun hq=>?_))|refine Cl.mk (aL _ 0 2) ?_)
  all_goals first
   | exact congrArg (fun z=>[B z]) ((by symm;unfold fX;rw[cf li (decide_eq_false (by grind))];rfl))
   | ((conv=>whnf);refine Nx.mk (i+1) ⟨by omega,bD ai (decide_eq_true (by grind))⟩ (by omega) ?_;(exact wA))
 ·repeat'(first|refine gD ?_|(conv=>whnf);first|refine Cl.mk (aL _ 1 32) ?_)
  obtain rfl:i=t.Entries.length:=by omega
  exact congrArg (fun z=>[B z]) ((by unfold fX;rw[ai,Bool.true_and];exact decide_eq_decide.2 (by omega)))
end Go.Proofs.YtplcalfnngkffaaGreat.Ab
/- Pages of a table, valid machines and kernels: the contracts of the functions that ask it, the reference's and the program's. No condition. -/
namespace Go.Proofs.YtplcalfnngkffaaGreat.Ab
open Go.RowKit
set_option maxRecDepth 20000
set_option maxHeartbeats 4000000
theorem gv (t:aB) (f:Int) (hs:aB.sml t):ah Tryz.prog 336 false [.val (some 1) (aB.enc .imm t),.val none [I f]] .one (aI .own (pagesOn t f)):=by
 have hl:=hs.1
 refine fO 37 [] Tryz.func336 rfl ?_ (.inr (bN _))
 repeat'(first|refine gO ?_|fail)
 (conv=>whnf)
 refine Lp.mk (ι:=Nat) (fun i=>[(1,.hold .one [I (f)]),(2,.hold .box (aB.enc .imm t)),(5,.hold .one (aI .own (jJ t f i))),(6,.hold .one [I ((i:Nat):Int)])]) (fun i=>i≤t.Entries.length) (fun i=>t.Entries.length - i) (0) ?_ (Nat.zero_le _) fun i hi=>?_
 ·exact wA
 have hpl:=rP t f i
 by_cases li:i<t.Entries.length
 ·have hx:=ao li
  repeat'(first|refine gD ?_|(conv=>whnf);first|with_reducible (first|refine Ix.nat (aa hx) ?_|refine Bf.D (fun hq=>?_) (fun hq=>?_)|refine Bf.N (fun hq=>?_) (fun hq=>?_)|refine Bf.E (fun hq=>?_) (fun hq=>?_))|refine Ap.mk di (fun r hr=>by rw[List.mem_singleton.1 hr];rfl) (by simp[aW,eB]) (by simp;omega) (by simp only[List.length_map];exact ul (by simp;omega) (by decide)) rfl ?_)
  all_goals first
   |(have hon:JM t f i=true:=decide_eq_true (by grind)
     (conv=>whnf)
     refine Nx.mk (i+1) (by omega) (by omega) ?_
     rw[y2 hon]
     (repeat'(first|exact trivial|rfl|exact And.intro rfl (And.intro (congrArg (C.s dE.own) (by simp[rI])) trivial)|refine And.intro ?_ ?_)))
   |(have hon:JM t f i=false:=decide_eq_false (by grind)
     (conv=>whnf)
     refine Nx.mk (i+1) (by omega) (by omega) ?_
     rw[D7 hon]
     (exact wA))
 ·repeat'(first|refine gD ?_|fail)
  obtain rfl:i=t.Entries.length:=by omega
  rfl
theorem jM (t:aB) (f:Int) (hs:aB.sml t):ah Tryz.prog 37 false [.val (some 1) (aB.enc .imm t),.val none [I f]] .one (aI .own (pagesOn t f)):=by
 have hl:=hs.1
 refine fO 32 [] Tryz.func37 rfl ?_ (.inr (bN _))
 repeat'(first|refine gO ?_|fail)
 (conv=>whnf)
 refine Lp.mk (ι:=Nat) (fun i=>[(1,.hold .one [I (f)]),(5,.hold .one (aI .own (jJ t f i))),(10,.hold .one (ef .imm t.Entries)),(11,.hold .one [I (t.Entries.length)]),(12,.hold .one [I ((i:Nat):Int)])]) (fun i=>i≤t.Entries.length) (fun i=>t.Entries.length - i) (0) ?_ (Nat.zero_le _) fun i hi=>?_
 ·exact wA
 have hpl:=rP t f i
 by_cases li:i<t.Entries.length
 ·have hx:=ao li
  repeat'(first|refine gD ?_|(conv=>whnf);first|with_reducible (first|refine Ix.nat (aa hx) ?_|refine Bf.D (fun hq=>?_) (fun hq=>?_)|refine Bf.N (fun hq=>?_) (fun hq=>?_)|refine Bf.E (fun hq=>?_) (fun hq=>?_))|refine Ap.mk di (fun r hr=>by rw[List.mem_singleton.1 hr];rfl) (by simp[aW,eB]) (by simp;omega) (by simp only[List.length_map];exact ul (by simp;omega) (by decide)) rfl ?_)
  all_goals first
   |(have hon:JM t f i=true:=decide_eq_true (by grind)
     (conv=>whnf)
     refine Nx.mk (i+1) (by omega) (by omega) ?_
     rw[y2 hon]
     (repeat'(first|exact trivial|rfl|exact And.intro rfl (And.intro (congrArg (C.s dE.own) (by simp[rI])) trivial)|refine And.intro ?_ ?_)))
   |(have hon:JM t f i=false:=decide_eq_false (by grind)
     (conv=>whnf)
     refine Nx.mk (i+1) (by omega) (by omega) ?_
     rw[D7 hon]
     (exact wA))
 ·repeat'(first|refine gD ?_|fail)
  obtain rfl:i=t.Entries.length:=by omega
  rfl
theorem fh (t:aB) (p:Int) (hs:aB.sml t):ah Tryz.prog 340 false [.val (some 1) (aB.enc .imm t),.val none [I p]] .agg (aG.enc .own (ax t p)):=by
 have hl:=hs.1
 refine fO 18 [] Tryz.func340 rfl ?_ (.inr (aG.enc_fr _))
 by_cases hp:0≤p∧p<t.Entries.length
 ·have hx:=ao (xs:=t.Entries) (i:=p.toNat) (by omega)
  repeat'(first|refine gD ?_|(conv=>whnf);first|refine Cl.mk (aO _ 0 _) ?_|refine Ix.mk hp.1 (aa hx) ?_)
  all_goals(unfold ax;rw[if_pos hp];rfl)
 ·repeat'(first|refine gD ?_|(conv=>whnf);first|refine Cl.mk (aO _ 0 _) ?_)
  all_goals(unfold ax;rw[if_neg hp];rfl)
theorem dQ (t:aB) (p:Int) (hs:aB.sml t):ah Tryz.prog 36 false [.val (some 1) (aB.enc .imm t),.val none [I p]] .agg (aG.enc .own (ax t p)):=by
 have hl:=hs.1
 refine fO 18 [] Tryz.func36 rfl ?_ (.inr (aG.enc_fr _))
 by_cases hp:0≤p∧p<t.Entries.length
 ·have hx:=ao (xs:=t.Entries) (i:=p.toNat) (by omega)
  repeat'(first|refine gD ?_|(conv=>whnf);first|refine Cl.mk (aL _ 0 _) ?_|refine Ix.mk hp.1 (aa hx) ?_)
  all_goals(unfold ax;rw[if_pos hp];rfl)
 ·repeat'(first|refine gD ?_|(conv=>whnf);first|refine Cl.mk (aL _ 0 _) ?_)
  all_goals(unfold ax;rw[if_neg hp];rfl)
theorem pW (t:aB) (f:Int):(pagesOn t f).length≤t.Entries.length:=rP ..
theorem nG (m:aA) (hs:aA.sml m):ah Tryz.prog 258 false [.val (some 3) (aA.enc .imm m)] .one [B (cR m)]:=by
 have hu:m.Frames.Used.length≤1048576:=hs.1.2
 have hfc:m.Frames.Cells.length≤1048576:=hs.1.1.1
 have hf:=p9 m.Frames hs.1
 have ht:=AJ m.Table m.Frames.Cells.length hs.2
 cases h1:cI m.Frames with
 | false=>
  rw[h1]at hf
  refine fO 39 [(6,13,[26,27,28,29,30,31,32,33,34,35,36,37,38])] Tryz.func258 rfl ?_
  repeat'(first|refine gO ?_|(conv=>whnf);first|refine Cl.mk hf ?_)
  exact congrArg (fun z=>[B z]) ((by unfold cR;rw[h1];rfl))
 | true=>
  have hlen:=zw h1
  rw[h1]at hf
  cases h2:fX m.Table m.Frames.Used.length with
  | false=>
   rw[show(m.Frames.Cells.length:Int)=m.Frames.Used.length by omega,h2]at ht
   refine fO 39 [(6,13,[26,27,28,29,30,31,32,33,34,35,36,37,38])] Tryz.func258 rfl ?_
   repeat'(first|refine gO ?_|(conv=>whnf);first|refine Cl.mk hf ?_|refine Cl.mk ((show(m.Frames.Cells.length:Int)=m.Frames.Used.length by omega) ▸ ht) ?_)
   exact congrArg (fun z=>[B z]) ((by unfold cR;rw[h1,h2];rfl))
  | true=>
   rw[show(m.Frames.Cells.length:Int)=m.Frames.Used.length by omega,h2]at ht
   refine fO 39 [(6,13,[26,27,28,29,30,31,32,33,34,35,36,37,38])] Tryz.func258 rfl ?_
   repeat'(first|refine gO ?_|(conv=>whnf);first|refine Cl.mk hf ?_|refine Cl.mk ((show(m.Frames.Cells.length:Int)=m.Frames.Used.length by omega) ▸ ht) ?_)
   (conv=>whnf)
   refine Lp.mk (ι:=Nat) (fun i=>[(1,.hold .box (aA.enc .imm m)),(3,.hold .one [I ((i:Nat):Int)])]) (fun i=>i≤m.Frames.Used.length∧cM i (oz m)=true) (fun i=>m.Frames.Used.length - i) 0 ?_ ⟨Nat.zero_le _,rfl⟩ fun i hi=>?_
   ·exact wA
   obtain⟨hi,ai⟩:=hi
   by_cases li:i<m.Frames.Used.length
   ·have hx:=ao li
    have hpl:=pW m.Table (i:Nat)
    repeat'(first|refine gD ?_|(conv=>whnf);first|with_reducible (first|refine Ix.nat (aa hx) ?_|refine Bf.NB (fun hq=>?_) (fun hq=>?_))|refine Cl.mk (gv m.Table (i:Nat) hs.2) ?_)
    all_goals first
     | exact congrArg (fun z=>[B z]) ((by symm;unfold cR;rw[h1,h2,cf li (by unfold oz;grind)];rfl))
     | ((conv=>whnf);refine Nx.mk (i+1) ⟨by omega,bD ai (by unfold oz;grind)⟩ (by omega) ?_;(exact wA))
   ·repeat'(first|refine gD ?_|fail)
    obtain rfl:i=m.Frames.Used.length:=by omega
    exact congrArg (fun z=>[B z]) ((by unfold cR;rw[h1,h2,ai];rfl))
end Go.Proofs.YtplcalfnngkffaaGreat.Ab
/- The program's valid machines, kernels, ranges, spans, large objects: contracts of the functions that ask it. No condition. -/
namespace Go.Proofs.YtplcalfnngkffaaGreat.Ab
open Go.RowKit
set_option maxRecDepth 20000
set_option maxHeartbeats 4000000
theorem ox (m:aA) (hs:aA.sml m):ah Tryz.prog 130 false [.val (some 3) (aA.enc .imm m)] .one [B (cR m)]:=by
 have hu:m.Frames.Used.length≤1048576:=hs.1.2
 have hf:=pI m.Frames hs.1
 have ht:=AL m.Table m.Frames.Used.length hs.2
 cases h1:cI m.Frames with
 | false=>
  rw[h1]at hf
  refine fO 37 [] Tryz.func130 rfl ?_
  repeat'(first|refine gO ?_|(conv=>whnf);first|refine Cl.mk hf ?_)
  exact congrArg (fun z=>[B z]) ((by unfold cR;rw[h1];rfl))
 | true=>
  rw[h1]at hf
  cases h2:fX m.Table m.Frames.Used.length with
  | false=>
   rw[h2]at ht
   refine fO 37 [] Tryz.func130 rfl ?_
   repeat'(first|refine gO ?_|(conv=>whnf);first|refine Cl.mk hf ?_|refine Cl.mk ht ?_)
   exact congrArg (fun z=>[B z]) ((by unfold cR;rw[h1,h2];rfl))
  | true=>
   rw[h2]at ht
   refine fO 37 [] Tryz.func130 rfl ?_
   repeat'(first|refine gO ?_|(conv=>whnf);first|refine Cl.mk hf ?_|refine Cl.mk ht ?_)
   (conv=>whnf)
   refine Lp.mk (ι:=Nat) (fun i=>[(1,.hold .box (aA.enc .imm m)),(21,.hold .one (fu .imm m.Frames.Used)),(22,.hold .one [I (m.Frames.Used.length)]),(23,.hold .one [I ((i:Nat):Int)])]) (fun i=>i≤m.Frames.Used.length∧cM i (oz m)=true) (fun i=>m.Frames.Used.length - i) 0 ?_ ⟨Nat.zero_le _,rfl⟩ fun i hi=>?_
   ·exact wA
   obtain⟨hi,ai⟩:=hi
   by_cases li:i<m.Frames.Used.length
   ·have hx:=ao li
    have hpl:=pW m.Table (i:Nat)
    repeat'(first|refine gD ?_|(conv=>whnf);first|with_reducible (first|refine Ix.nat (aa hx) ?_|refine Bf.NB (fun hq=>?_) (fun hq=>?_))|refine Cl.mk (jM m.Table (i:Nat) hs.2) ?_)
    all_goals first
     | exact congrArg (fun z=>[B z]) ((by symm;unfold cR;rw[h1,h2,cf li (by unfold oz;grind)];rfl))
     | ((conv=>whnf);refine Nx.mk (i+1) ⟨by omega,bD ai (by unfold oz;grind)⟩ (by omega) ?_;(exact wA))
   ·repeat'(first|refine gD ?_|fail)
    obtain rfl:i=m.Frames.Used.length:=by omega
    exact congrArg (fun z=>[B z]) ((by unfold cR;rw[h1,h2,ai];rfl))
theorem pu (k:af) (hs:af.sml k):ah Tryz.prog 177 false [.val (some 5) (af.enc .imm k)] .one [B (aH k)]:=by
 have hr:k.Refuse.length≤1048576:=hs.2
 have hm:=nG k.Machine hs.1
 refine fO 31 [] Tryz.func177 rfl ?_
 repeat'(first|refine gO ?_|fail)
 (conv=>whnf)
 refine Lp.mk (ι:=Nat) (fun i=>[(1,.hold .box (af.enc .imm k)),(3,.hold .one [I ((i:Nat):Int)])]) (fun i=>i≤k.Refuse.length∧cM i (fun j=>decide (0≤nth k.Refuse j))=true) (fun i=>k.Refuse.length - i) 0 ?_ ⟨Nat.zero_le _,rfl⟩ fun i hi=>?_
 ·exact wA
 obtain⟨hi,ai⟩:=hi
 by_cases li:i<k.Refuse.length
 ·have hx:=ao li
  repeat'(first|refine gD ?_|(conv=>whnf);first|with_reducible (first|refine Ix.nat (aa hx) ?_|refine Bf.D (fun hq=>?_) (fun hq=>?_)))
  all_goals first
   | exact congrArg (fun z=>[B z]) ((by symm;unfold aH;rw[cf li (decide_eq_false (by omega))];rfl))
   | ((conv=>whnf);refine Nx.mk (i+1) ⟨by omega,bD ai (decide_eq_true (by omega))⟩ (by omega) ?_;(exact wA))
 ·obtain rfl:i=k.Refuse.length:=by omega
  cases h1:cR k.Machine with
  | false=>
   rw[h1]at hm
   repeat'(first|refine gD ?_|(conv=>whnf);first|refine Cl.mk hm ?_)
   all_goals exact congrArg (fun z=>[B z]) ((by unfold aH;rw[h1];simp))
  | true=>
   rw[h1]at hm
   repeat'(first|refine gD ?_|(conv=>whnf);first|with_reducible refine Bf.D (fun hq=>?_) (fun hq=>?_)|refine Cl.mk hm ?_|refine Cl.mk (aO _ 0 100000) ?_)
   all_goals exact congrArg (fun z=>[B z]) ((by unfold aH;rw[h1,ai];simp only[Bool.true_and];first|exact decide_eq_decide.2 (by omega)|(symm;exact decide_eq_false (by omega))|(symm;exact decide_eq_true (by omega))))
theorem pP (k:af) (hs:af.sml k):ah Tryz.prog 43 false [.val (some 5) (af.enc .imm k)] .one [B (aH k)]:=by
 have hr:k.Refuse.length≤1048576:=hs.2
 have hm:=ox k.Machine hs.1
 refine fO 29 [] Tryz.func43 rfl ?_
 repeat'(first|refine gO ?_|fail)
 (conv=>whnf)
 refine Lp.mk (ι:=Nat) (fun i=>[(1,.hold .box (af.enc .imm k)),(6,.hold .one (aI .imm k.Refuse)),(7,.hold .one [I (k.Refuse.length)]),(8,.hold .one [I ((i:Nat):Int)])]) (fun i=>i≤k.Refuse.length∧cM i (fun j=>decide (0≤nth k.Refuse j))=true) (fun i=>k.Refuse.length - i) 0 ?_ ⟨Nat.zero_le _,rfl⟩ fun i hi=>?_
 ·exact wA
 obtain⟨hi,ai⟩:=hi
 by_cases li:i<k.Refuse.length
 ·have hx:=ao li
  repeat'(first|refine gD ?_|(conv=>whnf);first|with_reducible (first|refine Ix.nat (aa hx) ?_|refine Bf.D (fun hq=>?_) (fun hq=>?_)))
  all_goals first
   | exact congrArg (fun z=>[B z]) ((by symm;unfold aH;rw[cf li (decide_eq_false (by omega))];rfl))
   | ((conv=>whnf);refine Nx.mk (i+1) ⟨by omega,bD ai (decide_eq_true (by omega))⟩ (by omega) ?_;(exact wA))
 ·obtain rfl:i=k.Refuse.length:=by omega
  repeat'(first|refine gD ?_|(conv=>whnf);first|with_reducible refine Bf.D (fun hq=>?_) (fun hq=>?_)|refine Cl.mk hm ?_|refine Cl.mk (aL _ 0 100000) ?_)
  all_goals exact congrArg (fun z=>[B z]) ((by unfold aH;rw[ai];cases cR k.Machine<;>simp only[Bool.true_and,Bool.false_and]<;>first|rfl|exact decide_eq_decide.2 (by omega)|(symm;exact decide_eq_false (by omega))|(symm;exact decide_eq_true (by omega))))
theorem wd (pages:Int) (r:ar) (hp:0≤pages∧pages≤1048576):ah Tryz.prog 259 false [.val none [I pages],.val (some 2) (ar.enc .imm r)] .one [B (rangeIn pages r)]:=by
 refine fO 18 [] Tryz.func259 rfl ?_
 repeat'(first|refine gO ?_|(conv=>whnf);first|with_reducible refine Bf.D (fun hq=>?_) (fun hq=>?_)|refine Cl.mk (aO _ 1 _) ?_|refine Cl.mk (aO _ 0 _) ?_)
 all_goals exact congrArg (fun z=>[B z]) ((by unfold rangeIn;first|(symm;exact decide_eq_false (by omega))|exact decide_eq_decide.2 (by omega)))
theorem uA (pages:Int) (r:ar) (hp:0≤pages∧pages≤1048576):ah Tryz.prog 131 false [.val none [I pages],.val (some 2) (ar.enc .imm r)] .one [B (rangeIn pages r)]:=by
 refine fO 18 [] Tryz.func131 rfl ?_
 repeat'(first|refine gO ?_|(conv=>whnf);first|with_reducible refine Bf.D (fun hq=>?_) (fun hq=>?_)|refine Cl.mk (aL _ 1 _) ?_|refine Cl.mk (aL _ 0 _) ?_)
 all_goals exact congrArg (fun z=>[B z]) ((by unfold rangeIn;first|(symm;exact decide_eq_false (by omega))|exact decide_eq_decide.2 (by omega)))
theorem zY (k:Int):ah Tryz.prog 338 false [.val none [I k]] .one [I (slots k)]:=by
 by_cases hk:0≤k∧k≤3
 ·obtain rfl|rfl|rfl|rfl:k=0∨k=1∨k=2∨k=3:=by omega
  all_goals
   refine fO 9 [] Tryz.func338 rfl ?_
   repeat'(first|refine gD ?_|(conv=>whnf);first|with_reducible refine Bf.D (fun hq=>?_) (fun hq=>?_)|refine Cl.mk (aO _ 0 3) ?_|refine Cd.mk (by decide) ?_|refine Wr.mk rfl ?_|refine Ev.mk rfl ?_)
   exact congrArg (fun z=>[I z]) (by decide)
 ·refine fO 9 [] Tryz.func338 rfl ?_
  repeat'(first|refine gD ?_|(conv=>whnf);first|with_reducible refine Bf.D (fun hq=>?_) (fun hq=>?_)|refine Cl.mk (aO _ 0 3) ?_)
  exact congrArg (fun z=>[I z]) (by unfold slots;rw[if_neg (by omega),if_neg (by omega),if_neg (by omega),if_neg (by omega)])
theorem il (k:Int):ah Tryz.prog 144 false [.val none [I k]] .one [I (slots k)]:=by
 by_cases hk:0≤k∧k≤3
 ·obtain rfl|rfl|rfl|rfl:k=0∨k=1∨k=2∨k=3:=by omega
  all_goals
   refine fO 9 [] Tryz.func144 rfl ?_
   repeat'(first|refine gD ?_|(conv=>whnf);first|with_reducible refine Bf.D (fun hq=>?_) (fun hq=>?_)|refine Cl.mk (eY _) ?_|refine Cl.mk (dR _) ?_|refine Cd.mk (by decide) ?_|refine Wr.mk rfl ?_|refine Ev.mk rfl ?_)
   exact congrArg (fun z=>[I z]) (by decide)
 ·refine fO 9 [] Tryz.func144 rfl ?_
  repeat'(first|refine gD ?_|(conv=>whnf);first|with_reducible refine Bf.D (fun hq=>?_) (fun hq=>?_)|refine Cl.mk (eY _) ?_)
  exact congrArg (fun z=>[I z]) (by unfold slots;rw[if_neg (by omega),if_neg (by omega),if_neg (by omega),if_neg (by omega)])
def NM (k b:Int):Bool:=decide (0≤k∧k≤3∧0≤b∧b≤lim k)
theorem xR (k b:Int):ah Tryz.prog 337 false [.val none [I (slots k)],.val none [I b]] .one [B (NM k b)]:=by
 by_cases hk:0≤k∧k≤3
 ·obtain rfl|rfl|rfl|rfl:k=0∨k=1∨k=2∨k=3:=by omega
  all_goals
   first|rw[show slots 0=16 from rfl]|rw[show slots 1=8 from rfl]|rw[show slots 2=4 from rfl]|rw[show slots 3=2 from rfl]
   refine fO 15 [] Tryz.func337 rfl ?_
   repeat'(first|refine gD ?_|(conv=>whnf);first|with_reducible refine Bf.D (fun hq=>?_) (fun hq=>?_)|refine Cl.mk (aO _ 1 16) ?_|refine Cl.mk (aO _ 0 _) ?_|refine Cd.mk (by decide) ?_|refine Wr.mk (show _=(65536:Int) by decide) ?_|refine Wr.mk (show _=(65535:Int) by decide) ?_|refine Wr.mk (show _=(256:Int) by decide) ?_|refine Wr.mk (show _=(255:Int) by decide) ?_|refine Wr.mk (show _=(16:Int) by decide) ?_|refine Wr.mk (show _=(15:Int) by decide) ?_|refine Wr.mk (show _=(4:Int) by decide) ?_|refine Wr.mk (show _=(8:Int) by decide) ?_|refine Wr.mk (show _=(2:Int) by decide) ?_|refine Wr.mk (show _=(3:Int) by decide) ?_)
   all_goals exact congrArg (fun z=>[B z]) ((decide_eq_decide.2 (by simp[lim])))
 ·have hz:slots k=0:=by unfold slots;rw[if_neg (by omega),if_neg (by omega),if_neg (by omega),if_neg (by omega)]
  rw[hz]
  refine fO 15 [] Tryz.func337 rfl ?_
  repeat'(first|refine gD ?_|(conv=>whnf);first|with_reducible refine Bf.D (fun hq=>?_) (fun hq=>?_)|refine Cl.mk (aO _ 1 16) ?_)
  exact congrArg (fun z=>[B z]) ((by symm;exact decide_eq_false (by omega)))
theorem yi (k b:Int):ah Tryz.prog 239 false [.val none [I (slots k)],.val none [I b]] .one [B (NM k b)]:=by
 by_cases hk:0≤k∧k≤3
 ·obtain rfl|rfl|rfl|rfl:k=0∨k=1∨k=2∨k=3:=by omega
  all_goals
   first|rw[show slots 0=16 from rfl]|rw[show slots 1=8 from rfl]|rw[show slots 2=4 from rfl]|rw[show slots 3=2 from rfl]
   refine fO 14 [] Tryz.func239 rfl ?_
   repeat'(first|refine gD ?_|(conv=>whnf);first|with_reducible refine Bf.D (fun hq=>?_) (fun hq=>?_)|refine Cl.mk (aL _ 1 16) ?_|refine Cl.mk (aL _ 0 _) ?_|refine Cd.mk (by decide) ?_|refine Wr.mk (fU (by decide) (by decide)) ?_)
   all_goals exact congrArg (fun z=>[B z]) ((decide_eq_decide.2 (by simp[lim,IntKind.bits])))
 ·have hz:slots k=0:=by unfold slots;rw[if_neg (by omega),if_neg (by omega),if_neg (by omega),if_neg (by omega)]
  rw[hz]
  refine fO 14 [] Tryz.func239 rfl ?_
  repeat'(first|refine gD ?_|(conv=>whnf);first|with_reducible refine Bf.D (fun hq=>?_) (fun hq=>?_)|refine Cl.mk (aL _ 1 16) ?_)
  exact congrArg (fun z=>[B z]) ((by symm;exact decide_eq_false (by omega)))
theorem hC (s:am):ah Tryz.prog 260 false [.val (some 3) (am.enc .imm s)] .one [B (bq s)]:=by
 refine fO 14 [(1,12,[3,4,5,6,7,8,9,10,11,12,13,2])] Tryz.func260 rfl ?_
 repeat'(first|refine gO ?_|(conv=>whnf);first|with_reducible refine Bf.D (fun hq=>?_) (fun hq=>?_)|refine Cl.mk (aO _ 0 31) ?_|refine Cl.mk (zY _) ?_|refine Cl.mk (xR _ _) ?_)
 all_goals exact congrArg (fun z=>[B z]) ((by unfold bq;first|(symm;exact decide_eq_false (by omega))|exact decide_eq_decide.2 (by omega)))
theorem gn (s:am):ah Tryz.prog 133 false [.val (some 3) (am.enc .imm s)] .one [B (bq s)]:=by
 refine fO 19 [(1,17,[3,4,5,6,7,8,9,10,11,12,13,14,15,16,17,18,2])] Tryz.func133 rfl ?_
 repeat'(first|refine gO ?_|(conv=>whnf);first|with_reducible refine Bf.D (fun hq=>?_) (fun hq=>?_)|refine Cl.mk (aL _ 0 31) ?_|refine Cl.mk (eY _) ?_|refine Cl.mk (il _) ?_|refine Cl.mk (yi _ _) ?_)
 all_goals exact congrArg (fun z=>[B z]) ((by unfold bq;first|(symm;exact decide_eq_false (by omega))|exact decide_eq_decide.2 (by omega)))
end Go.Proofs.YtplcalfnngkffaaGreat.Ab
/- Ranges, large objects, meshable spans, plans, jobs: contracts of the functions that ask whether they are valid, the reference's and the program's. No condition. -/
namespace Go.Proofs.YtplcalfnngkffaaGreat.Ab
open Go.RowKit
set_option maxRecDepth 20000
set_option maxHeartbeats 4000000
section
variable {α:Type} {xs:List α} {p:α→Bool} {i:Nat} {y:α}
theorem Al (h:xs[i]? = some y) (hp:p y=true):xs.any p=true:=List.any_eq_true.2 ⟨y,List.mem_of_getElem? h,hp⟩
theorem wn (h:xs[i]? = some y) (ha:(xs.take i).any p=false) (hp:p y=false):(xs.take (i+1)).any p=false:=by
 rw[List.take_add_one,h,List.any_append,ha];simp[hp]
theorem G8 (hi:xs.length≤i) (ha:(xs.take i).any p=false):xs.any p=false:=by
 rwa [List.take_of_length_le hi]at ha
theorem fZ [Inhabited α] (h0:0<i) (hi:i<xs.length):xs[((i:Int) - 1).toNat]? = some (nth xs (i - 1)):=by
 rw[show((i:Int) - 1).toNat=i - 1 by omega];exact ao (by omega)
end
theorem wQ {pages:Int} {xs:List ar} {i n:Nat} (ha:cM n (fV pages xs)=true) (hi:i<n):1≤(nth xs i).Len∧(nth xs i).Len≤pages∧0≤(nth xs i).At∧(nth xs i).At≤pages - (nth xs i).Len:=by
 have:=en ha hi
 unfold fV rangeIn at this
 simp only[Bool.and_eq_true,decide_eq_true_eq]at this
 exact this.1
theorem pJ (pages:Int) (xs:List ar) (hp:0≤pages∧pages≤1048576) (hs:dK xs):ah Tryz.prog 178 false [.val none [I pages],.val none (bg .imm xs)] .one [B (bC pages xs)]:=by
 have hl:=hs.1
 refine fO 46 [(4,32,[12,13,14,15,16,17,18,19,20,21,22,23,24,25,26,27,28,29,30,31,32,33,34,35,36,37,38,39,40,41,42,43])] Tryz.func178 rfl ?_
 repeat'(first|refine gO ?_|fail)
 (conv=>whnf)
 refine Lp.mk (ι:=Nat) (fun i=>[(0,.hold .one [I (pages)]),(1,.hold .one (bg .imm xs)),(5,.hold .one [I ((i:Nat):Int)])]) (fun i=>i≤xs.length∧cM i (fV pages xs)=true) (fun i=>xs.length - i) 0 ?_ ⟨Nat.zero_le _,rfl⟩ fun i hi=>?_
 ·exact wA
 obtain⟨hi,ai⟩:=hi
 by_cases li:i<xs.length
 ·have hx:=ao li
  have hb:0<i→1≤(nth xs (i - 1)).Len∧(nth xs (i - 1)).Len≤pages∧0≤(nth xs (i - 1)).At∧(nth xs (i - 1)).At≤pages - (nth xs (i - 1)).Len:=fun h=>wQ ai (by omega)
  cases h1:rangeIn pages (nth xs i) with
  | false=>
   have h2:=wd pages (nth xs i) hp
   rw[h1]at h2
   repeat'(first|refine gD ?_|(conv=>whnf);first|with_reducible refine Ix.nat (aa hx) ?_|refine Cl.mk h2 ?_)
   exact congrArg (fun z=>[B z]) ((by symm;unfold bC;rw[cf li (by unfold fV;rw[h1];rfl)];rfl))
  | true=>
   have h2:=wd pages (nth xs i) hp
   rw[h1]at h2
   repeat'(first|refine gD ?_|(conv=>whnf);first|with_reducible (first|refine Ix.nat (aa hx) ?_|refine Bf.D (fun hq=>?_) (fun hq=>?_))|refine Cl.mk h2 ?_|refine Ix.mk (by omega) (aa (fZ (by omega) li)) ?_)
   all_goals first
    | exact congrArg (fun z=>[B z]) ((by symm;unfold bC;rw[cf li (by unfold fV;rw[h1,decide_eq_false (by omega)];rfl)];rfl))
    | ((conv=>whnf);refine Nx.mk (i+1) ⟨by omega,bD ai (by unfold fV;rw[h1,decide_eq_true (by omega)];rfl)⟩ (by omega) ?_;(exact wA))
 ·repeat'(first|refine gD ?_|(conv=>whnf);first|refine Cl.mk (aO pages 1 32) ?_)
  obtain rfl:i=xs.length:=by omega
  exact congrArg (fun z=>[B z]) ((by unfold bC;rw[ai];rfl))
theorem p7 (pages:Int) (xs:List ar) (hp:0≤pages∧pages≤1048576) (hs:dK xs):ah Tryz.prog 44 false [.val none [I pages],.val none (bg .imm xs)] .one [B (bC pages xs)]:=by
 have hl:=hs.1
 refine fO 43 [(4,26,[14,15,16,17,18,19,20,21,22,23,24,25,26,27,28,29,30,31,32,33,34,35,36,37,38,39])] Tryz.func44 rfl ?_
 repeat'(first|refine gO ?_|fail)
 (conv=>whnf)
 refine Lp.mk (ι:=Nat) (fun i=>[(0,.hold .one [I (pages)]),(1,.hold .one (bg .imm xs)),(7,.hold .one (bg .imm xs)),(8,.hold .one [I (xs.length)]),(9,.hold .one [I ((i:Nat):Int)])]) (fun i=>i≤xs.length∧cM i (fV pages xs)=true) (fun i=>xs.length - i) 0 ?_ ⟨Nat.zero_le _,rfl⟩ fun i hi=>?_
 ·exact wA
 obtain⟨hi,ai⟩:=hi
 by_cases li:i<xs.length
 ·have hx:=ao li
  have hb:0<i→1≤(nth xs (i - 1)).Len∧(nth xs (i - 1)).Len≤pages∧0≤(nth xs (i - 1)).At∧(nth xs (i - 1)).At≤pages - (nth xs (i - 1)).Len:=fun h=>wQ ai (by omega)
  have h2:=uA pages (nth xs i) hp
  cases h1:rangeIn pages (nth xs i) with
  | false=>
   rw[h1]at h2
   repeat'(first|refine gD ?_|(conv=>whnf);first|with_reducible refine Ix.nat (aa hx) ?_|refine Cl.mk h2 ?_)
   exact congrArg (fun z=>[B z]) ((by symm;unfold bC;rw[cf li (by unfold fV;rw[h1];rfl)];rfl))
  | true=>
   rw[h1]at h2
   repeat'(first|refine gD ?_|(conv=>whnf);first|with_reducible (first|refine Ix.nat (aa hx) ?_|refine Bf.D (fun hq=>?_) (fun hq=>?_))|refine Cl.mk h2 ?_|refine Ix.mk (by omega) (aa (fZ (by omega) li)) ?_)
   all_goals first
    | exact congrArg (fun z=>[B z]) ((by symm;unfold bC;rw[cf li (by unfold fV;rw[h1,decide_eq_false (by omega)];rfl)];rfl))
    | ((conv=>whnf);refine Nx.mk (i+1) ⟨by omega,bD ai (by unfold fV;rw[h1,decide_eq_true (by omega)];rfl)⟩ (by omega) ?_;(exact wA))
 ·repeat'(first|refine gD ?_|(conv=>whnf);first|refine Cl.mk (aL pages 1 32) ?_)
  obtain rfl:i=xs.length:=by omega
  exact congrArg (fun z=>[B z]) ((by unfold bC;rw[ai];rfl))
theorem xo (xs:List ar) (page:Int) (hl:xs.length≤9223372036854775807):ah Tryz.prog 264 false [.val none (bg .imm xs),.val none [I page]] .one [B (xs.any (qq page))]:=by
 refine fO 34 [(4,22,[12,13,14,15,16,17,18,19,20,21,22,23,24,25,26,27,28,29,30,31,32,33])] Tryz.func264 rfl ?_
 repeat'(first|refine gO ?_|fail)
 (conv=>whnf)
 refine Lp.mk (ι:=Nat) (fun i=>[(0,.hold .one (bg .imm xs)),(1,.hold .one [I (page)]),(5,.hold .one [I ((i:Nat):Int)])]) (fun i=>i≤xs.length∧(xs.take i).any (qq page)=false) (fun i=>xs.length - i) (0) ?_ (⟨Nat.zero_le _,rfl⟩) fun i hi=>?_
 ·exact wA
 obtain⟨hi,ha⟩:=hi
 by_cases li:i<xs.length
 ·have hx:=ao li
  repeat'(first|refine gD ?_|(conv=>whnf);first|with_reducible (first|refine Ix.nat (aa hx) ?_|refine Bf.D (fun hq=>?_) (fun hq=>?_))|refine Wr.mk rfl ?_)
  all_goals first
   | exact congrArg (fun z=>[B z]) ((Al hx (by unfold qq;rw[decide_eq_true (by assumption),decide_eq_true (by assumption)];rfl)).symm)
   | ((conv=>whnf);refine Nx.mk (i+1) ⟨by omega,wn hx ha (by unfold qq;first|(rw[decide_eq_false (by assumption:¬(nth xs i).At≤page)];rfl)|(rw[decide_eq_false (by assumption:¬page<_)];simp))⟩ (by omega) ?_;(exact wA))
 ·repeat'(first|refine gD ?_|fail)
  exact congrArg (fun z=>[B z]) ((G8 (by omega) ha).symm)
theorem tdiv16 {z:Int} (h:0≤z):z.tdiv 16=z / 16:=Int.tdiv_eq_ediv_of_nonneg h
theorem x6 (z:Int):ah Tryz.prog 339 false [.val none [I z]] .one [I (iy z)]:=by
 refine fO 10 [] Tryz.func339 rfl ?_
 by_cases hz:9≤z∧z≤1000
 ·repeat'(first|refine gD ?_|(conv=>whnf);first|with_reducible refine Bf.D (fun hq=>?_) (fun hq=>?_)|refine Cl.mk (aO z 9 1000) ?_|refine Cd.mk (by decide) ?_|refine Wr.mk ((congrArg _ (tdiv16 (by omega))).trans (fU (by omega) (by omega))) ?_)
  all_goals exact congrArg (fun z=>[I z]) (by unfold iy;rw[if_pos hz];omega)
 ·repeat'(first|refine gD ?_|(conv=>whnf);first|with_reducible refine Bf.D (fun hq=>?_) (fun hq=>?_)|refine Cl.mk (aO z 9 1000) ?_)
  all_goals exact congrArg (fun z=>[I z]) (by unfold iy;rw[if_neg hz])
theorem x5 (z:Int):ah Tryz.prog 240 false [.val none [I z]] .one [I (iy z)]:=by
 refine fO 10 [] Tryz.func240 rfl ?_
 by_cases hz:9≤z∧z≤1000
 ·repeat'(first|refine gD ?_|(conv=>whnf);first|with_reducible refine Bf.D (fun hq=>?_) (fun hq=>?_)|refine Cl.mk (aL z 9 1000) ?_|refine Cd.mk (by decide) ?_|refine Wr.mk ((congrArg _ (tdiv16 (by omega))).trans (fU (by omega) (by omega))) ?_)
  all_goals exact congrArg (fun z=>[I z]) (by unfold iy;rw[if_pos hz];omega)
 ·repeat'(first|refine gD ?_|(conv=>whnf);first|with_reducible refine Bf.D (fun hq=>?_) (fun hq=>?_)|refine Cl.mk (aL z 9 1000) ?_)
  all_goals exact congrArg (fun z=>[I z]) (by unfold iy;rw[if_neg hz])
theorem rx (l:au):ah Tryz.prog 262 false [.val (some 3) (au.enc .imm l)] .one [B (dl l)]:=by
 have h1:=x6 l.Size
 by_cases hz:9≤l.Size∧l.Size≤1000
 ·rw[show iy l.Size=(l.Size+15) / 16 from if_pos hz]at h1
  refine fO 22 [] Tryz.func262 rfl ?_
  repeat'(first|refine gO ?_|(conv=>whnf);first|with_reducible (first|refine Bf.D (fun hq=>?_) (fun hq=>?_)|refine Bf.E (fun hq=>?_) (fun hq=>?_))|refine Cl.mk h1 ?_|refine Cl.mk (aO _ 0 _) ?_)
  all_goals exact congrArg (fun z=>[B z]) ((by unfold dl;first|(symm;exact decide_eq_false (by omega))|exact decide_eq_decide.2 (by omega)))
 ·rw[show iy l.Size=0 from if_neg hz]at h1
  refine fO 22 [] Tryz.func262 rfl ?_
  repeat'(first|refine gD ?_|(conv=>whnf);first|with_reducible refine Bf.D (fun hq=>?_) (fun hq=>?_)|refine Cl.mk h1 ?_)
  all_goals exact congrArg (fun z=>[B z]) ((by unfold dl;symm;exact decide_eq_false (by omega)))
theorem qE (l:au):ah Tryz.prog 134 false [.val (some 3) (au.enc .imm l)] .one [B (dl l)]:=by
 have h1:=x5 l.Size
 by_cases hz:9≤l.Size∧l.Size≤1000
 ·rw[show iy l.Size=(l.Size+15) / 16 from if_pos hz]at h1
  refine fO 22 [(1,20,[3,4,5,6,7,8,9,10,11,12,13,14,15,16,17,18,19,20,21,2])] Tryz.func134 rfl ?_
  repeat'(first|refine gD ?_|(conv=>whnf);first|with_reducible (first|refine Bf.D (fun hq=>?_) (fun hq=>?_)|refine Bf.E (fun hq=>?_) (fun hq=>?_))|refine Cl.mk h1 ?_|refine Cl.mk (aL _ 9 1000) ?_|refine Cl.mk (aL _ 0 _) ?_)
  all_goals exact congrArg (fun z=>[B z]) ((by unfold dl;first|(symm;exact decide_eq_false (by omega))|exact decide_eq_decide.2 (by omega)))
 ·refine fO 22 [(1,20,[3,4,5,6,7,8,9,10,11,12,13,14,15,16,17,18,19,20,21,2])] Tryz.func134 rfl ?_
  repeat'(first|refine gD ?_|(conv=>whnf);first|with_reducible refine Bf.D (fun hq=>?_) (fun hq=>?_)|refine Cl.mk (aL _ 9 1000) ?_)
  all_goals exact congrArg (fun z=>[B z]) ((by unfold dl;symm;exact decide_eq_false (by omega)))
theorem qG {z:Int} (h:0≤z∧z≤9223372036854775807):(BitVec.ofInt IntKind.i64.bits z).toNat=z.toNat:=by
 show(BitVec.ofInt 64 z).toNat=z.toNat
 rw[BitVec.toNat_ofInt]
 congr 1
 exact Int.emod_eq_of_lt h.1 (by show z<((2 ^ 64:Nat):Int);have:=h.2;norm_cast;omega)
theorem and64 {z1 z2:Int} (h1:0≤z1∧z1≤9223372036854775807) (h2:0≤z2∧z2≤9223372036854775807):IntKind.i64.wrap ((BitVec.ofInt IntKind.i64.bits z1 &&& BitVec.ofInt IntKind.i64.bits z2).toNat:Nat)=((z1.toNat &&& z2.toNat:Nat):Int):=by
 rw[BitVec.toNat_and,qG h1,qG h2]
 have:z1.toNat &&& z2.toNat≤z1.toNat:=Nat.and_le_left
 exact fU (by omega) (by omega)
theorem Kg (k:Int):lim k≤65535:=by
 unfold lim
 (repeat' split)<;>decide
theorem eJ {s:am} (h:bq s=true):0≤s.Bits∧s.Bits≤9223372036854775807:=by
 unfold bq at h
 simp only[decide_eq_true_eq]at h
 have:=Kg s.Class
 omega
theorem ly (x1 x2:am):ah Tryz.prog 265 false [.val (some 3) (am.enc .imm x1),.val (some 3) (am.enc .imm x2)] .one [B (meshable x1 x2)]:=by
 have h1:=hC x1
 have h2:=hC x2
 cases e1:bq x1<;>rw[e1]at h1<;>cases e2:bq x2<;>rw[e2]at h2
 all_goals
  refine fO 33 [] Tryz.func265 rfl ?_
  repeat'(first|refine gO ?_|(conv=>whnf);first|with_reducible (first|refine Bf.D (fun hq=>?_) (fun hq=>?_)|refine Bf.N (fun hq=>?_) (fun hq=>?_)|refine Bf.E (fun hq=>?_) (fun hq=>?_))|refine Cl.mk h1 ?_|refine Cl.mk h2 ?_|refine Wr.mk (and64 (eJ e1) (eJ e2)) ?_)
  all_goals exact congrArg (fun z=>[B z]) ((by unfold meshable;rw[e1,e2];first|rfl|(symm;exact decide_eq_false (by omega))|(rw[Bool.eq_iff_iff];simp;omega)))
theorem lQ (x1 x2:am):ah Tryz.prog 137 false [.val (some 3) (am.enc .imm x1),.val (some 3) (am.enc .imm x2)] .one [B (meshable x1 x2)]:=by
 have h1:=gn x1
 have h2:=gn x2
 cases e1:bq x1<;>rw[e1]at h1<;>cases e2:bq x2<;>rw[e2]at h2
 all_goals
  refine fO 33 [] Tryz.func137 rfl ?_
  repeat'(first|refine gO ?_|(conv=>whnf);first|with_reducible (first|refine Bf.D (fun hq=>?_) (fun hq=>?_)|refine Bf.N (fun hq=>?_) (fun hq=>?_)|refine Bf.E (fun hq=>?_) (fun hq=>?_))|refine Cl.mk h1 ?_|refine Cl.mk h2 ?_|refine Wr.mk (and64 (eJ e1) (eJ e2)) ?_)
  all_goals exact congrArg (fun z=>[B z]) ((by unfold meshable;rw[e1,e2];first|rfl|(symm;exact decide_eq_false (by omega))|(rw[Bool.eq_iff_iff];simp;omega)))
theorem yq (k:Int):ah Tryz.prog 243 false [.val none [I k]] .one [B (decide (0≤k∧k≤15))]:=by
 refine fO 5 [] Tryz.func243 rfl ?_
 repeat'(first|refine gO ?_|(conv=>whnf);first|refine Cl.mk (aL k 0 15) ?_)
 rfl
theorem tq (p:aN) (hs:aN.sml p):ah Tryz.prog 275 false [.val (some 3) (aN.enc .imm p)] .one [B (eR p)]:=by
 have hl:p.Cells.length≤1048576:=hs
 refine fO 51 [(4,25,[11,12,13,14,15,16,17,18,19,20,21,22,23,24,25,26,27,28,29,30,31,32,33,34,35])] Tryz.func275 rfl ?_
 repeat'(first|refine gO ?_|fail)
 (conv=>whnf)
 refine Lp.mk (ι:=Nat) (fun i=>[(1,.hold .box (aN.enc .imm p)),(3,.hold .one [I ((i:Nat):Int)])]) (fun i=>i≤p.Cells.length∧cM i (mH p.Cells)=true) (fun i=>p.Cells.length - i) 0 ?_ ⟨Nat.zero_le _,rfl⟩ fun i hi=>?_
 ·exact wA
 obtain⟨hi,ai⟩:=hi
 by_cases li:i<p.Cells.length
 ·have hx:=ao li
  repeat'(first|refine gD ?_|(conv=>whnf);first|with_reducible (first|refine Ix.nat (aa hx) ?_|refine Bf.D (fun hq=>?_) (fun hq=>?_))|refine Cl.mk (aO _ 0 15) ?_|refine Ix.mk (by omega) (aa (fZ (by omega) li)) ?_)
  all_goals first
   | exact congrArg (fun z=>[B z]) ((by symm;unfold eR;rw[cf li (decide_eq_false (by omega))];rfl))
   | ((conv=>whnf);refine Nx.mk (i+1) ⟨by omega,bD ai (decide_eq_true (by omega))⟩ (by omega) ?_;(exact wA))
 ·obtain rfl:i=p.Cells.length:=by omega
  repeat'(first|refine gD ?_|(conv=>whnf);first|with_reducible (first|refine Bf.D (fun hq=>?_) (fun hq=>?_)|refine Bf.NB (fun hq=>?_) (fun hq=>?_)|refine Bf.N (fun hq=>?_) (fun hq=>?_))|refine Cl.mk (aO _ 0 31) ?_)
  all_goals exact congrArg (fun z=>[B z]) ((by unfold eR;rw[ai];simp only[Bool.true_and];first|(symm;exact decide_eq_false (by omega))|exact decide_eq_decide.2 (by omega)|(rw[Bool.eq_iff_iff];simp;omega)))
theorem tl (p:aN) (hs:aN.sml p):ah Tryz.prog 143 false [.val (some 3) (aN.enc .imm p)] .one [B (eR p)]:=by
 have hl:p.Cells.length≤1048576:=hs
 refine fO 46 [] Tryz.func143 rfl ?_
 repeat'(first|refine gO ?_|fail)
 (conv=>whnf)
 refine Lp.mk (ι:=Nat) (fun i=>[(1,.hold .box (aN.enc .imm p)),(6,.hold .one (aI .imm p.Cells)),(7,.hold .one [I (p.Cells.length)]),(8,.hold .one [I ((i:Nat):Int)])]) (fun i=>i≤p.Cells.length∧cM i (mH p.Cells)=true) (fun i=>p.Cells.length - i) 0 ?_ ⟨Nat.zero_le _,rfl⟩ fun i hi=>?_
 ·exact wA
 obtain⟨hi,ai⟩:=hi
 by_cases li:i<p.Cells.length
 ·have hx:=ao li
  repeat'(first|refine gD ?_|(conv=>whnf);first|with_reducible (first|refine Ix.nat (aa hx) ?_|refine Bf.D (fun hq=>?_) (fun hq=>?_))|refine Cl.mk (yq _) ?_|refine Ix.mk (by omega) (aa (fZ (by omega) li)) ?_)
  all_goals first
   | exact congrArg (fun z=>[B z]) ((by symm;unfold eR;rw[cf li (decide_eq_false (by omega))];rfl))
   | ((conv=>whnf);refine Nx.mk (i+1) ⟨by omega,bD ai (decide_eq_true (by omega))⟩ (by omega) ?_;(exact wA))
 ·obtain rfl:i=p.Cells.length:=by omega
  repeat'(first|refine gD ?_|(conv=>whnf);first|with_reducible (first|refine Bf.D (fun hq=>?_) (fun hq=>?_)|refine Bf.NB (fun hq=>?_) (fun hq=>?_)|refine Bf.N (fun hq=>?_) (fun hq=>?_))|refine Cl.mk (aL _ 0 31) ?_)
  all_goals exact congrArg (fun z=>[B z]) ((by unfold eR;rw[ai];simp only[Bool.true_and];first|(symm;exact decide_eq_false (by omega))|exact decide_eq_decide.2 (by omega)|(rw[Bool.eq_iff_iff];simp;omega)))
end Go.Proofs.YtplcalfnngkffaaGreat.Ab
/- Valid layouts: the contracts of LayoutOk, the reference's and the program's. No condition. -/
namespace Go.Proofs.YtplcalfnngkffaaGreat.Ab
open Go.RowKit
set_option maxRecDepth 20000
set_option maxHeartbeats 4000000
theorem vw (j:aZ) (hs:aZ.sml j):ah Tryz.prog 188 false [.val (some 5) (aZ.enc .imm j)] .one [B (jb j)]:=by
 have hl:j.Plan.Cells.length≤1048576:=hs
 have h1:=tq j.Plan hs
 cases e1:eR j.Plan<;>rw[e1]at h1
 all_goals
  refine fO 20 [] Tryz.func188 rfl ?_
  repeat'(first|refine gO ?_|(conv=>whnf);first|with_reducible refine Bf.D (fun hq=>?_) (fun hq=>?_)|refine Cl.mk h1 ?_|refine Cl.mk (aO _ 0 5) ?_|refine Cl.mk (aO _ 0 _) ?_)
  all_goals exact congrArg (fun z=>[B z]) ((by unfold jb;rw[e1];first|rfl|(symm;exact decide_eq_false (by omega))|(rw[Bool.eq_iff_iff];simp;omega)))
theorem uX (j:aZ) (hs:aZ.sml j):ah Tryz.prog 53 false [.val (some 5) (aZ.enc .imm j)] .one [B (jb j)]:=by
 have hl:j.Plan.Cells.length≤1048576:=hs
 have h1:=tl j.Plan hs
 cases e1:eR j.Plan<;>rw[e1]at h1
 all_goals
  refine fO 20 [] Tryz.func53 rfl ?_
  repeat'(first|refine gO ?_|(conv=>whnf);first|with_reducible refine Bf.D (fun hq=>?_) (fun hq=>?_)|refine Cl.mk h1 ?_|refine Cl.mk (aL _ 0 5) ?_|refine Cl.mk (aL _ 0 _) ?_)
  all_goals exact congrArg (fun z=>[B z]) ((by unfold jb;rw[e1];first|rfl|(symm;exact decide_eq_false (by omega))|(rw[Bool.eq_iff_iff];simp;omega)))
theorem kb (l:au) (k:Nat):lpgs l (k+1)=lpgs l k++[l.Page+(k:Nat)]:=by
 unfold lpgs;rw[List.range_succ,List.map_append];rfl
theorem Bd (l:au) (k:Nat):(lpgs l k).length=k:=by unfold lpgs;simp
theorem Lr (l:au) {k n:Nat} (h:k≤n):lpgs l k <+: lpgs l n:=by
 induction n with
 | zero=>
  obtain rfl:k=0:=by omega
  exact List.prefix_refl _
 | succ n ih=>
  rcases Nat.lt_or_ge n k with h1|h1
  ·obtain rfl:k=n+1:=by omega
   exact List.prefix_refl _
  ·rw[kb];exact(ih h1).trans (List.prefix_append ..)
theorem nP (sp:List am) {la:List au} {i:Nat} {l:au} (h:la[i]? = some l):pgs sp (la.take (i+1))=pgs sp (la.take i)++lpgs l l.Pages.toNat:=by
 unfold pgs;rw[List.take_add_one,h,List.flatMap_append];simp
theorem LR (sp:List am) (la:List au) (i:Nat):pgs sp (la.take i) <+: pgs sp la:=by
 unfold pgs
 refine(List.prefix_append_right_inj _).2 ?_
 conv=>rhs;rw[←List.take_append_drop i la,List.flatMap_append]
 exact List.prefix_append ..
theorem Lk {S all:List Int} {p:Int} (h:(S++[p]) <+: all) (hp:p∈S):decide all.Nodup=false:=by
 refine decide_eq_false fun hn=>?_
 have h1:=hn.sublist h.sublist
 rw[List.nodup_append]at h1
 exact h1.2.2 p hp p (by simp) rfl
theorem kS {S:List Int} {p:Int} (h:S.Nodup) (hp:p∉S):(S++[p]).Nodup:=by
 rw[List.nodup_append]
 exact⟨h,by simp,fun x hx y hy e=>by simp at hy;subst hy;subst e;exact hp hx⟩
theorem BT {sp:List am} {la:List au} {i:Nat} {s:am} (h:sp[i]? = some s):((sp.take i).map (·.Page)++[s.Page]) <+: pgs sp la:=by
 have h1:(sp.take i).map (·.Page)++[s.Page]=(sp.take (i+1)).map (·.Page):=by rw[List.take_add_one,h];simp
 rw[h1]
 refine List.IsPrefix.trans ?_ (List.prefix_append ..)
 rw[List.map_take]
 exact List.take_prefix ..
theorem yz {sp:List am} {la:List au} {i k:Nat} {l:au} (h:la[i]? = some l) (hk:k<l.Pages.toNat):(pgs sp (la.take i)++lpgs l k++[l.Page+(k:Nat)]) <+: pgs sp la:=by
 refine List.IsPrefix.trans ?_ (LR sp la (i+1))
 rw[nP sp h,List.append_assoc,←kb]
 exact(List.prefix_append_right_inj _).2 (Lr l hk)
theorem pL {sp:List am} {la:List au} {i:Nat} {s:am} (h:sp[i]? = some s) (hs:bq s=false):bu sp la=false:=by
 unfold bu;rw[eE h hs];rfl
theorem nQ {sp:List am} {la:List au} {i:Nat} {l:au} (h:la[i]? = some l) (hs:dl l=false):bu sp la=false:=by
 unfold bu;rw[eE h hs];simp
theorem jV {sp:List am} {la:List au} {S:List Int} {p:Int} (h:(S++[p]) <+: pgs sp la) (hp:p∈S):bu sp la=false:=by
 unfold bu;rw[Lk h hp];simp
theorem ru {sp:List am} {la:List au} (h1:sp.all bq=true) (h2:la.all dl=true) (h3:(pgs sp la).Nodup):bu sp la=true:=by
 unfold bu;rw[h1,h2,decide_eq_true h3];rfl
theorem bB {l:au} (h:dl l=true):1≤l.Pages∧l.Pages≤63∧0≤l.Page∧l.Page≤31:=by
 unfold dl at h;simp only[decide_eq_true_eq]at h;omega
theorem lz (sp:List am) (la:List au) (hs1:cC sp) (hs2:cg la):ah Tryz.prog 179 false [.val none (bm .imm sp),.val none (bn .imm la)] .one [B (bu sp la)]:=by
 have hl1:=hs1.1
 have hl2:=hs2.1
 refine fO 79 [] Tryz.func179 rfl ?_
 repeat'(first|refine gO ?_|fail)
 (conv=>whnf)
 refine Lp.mk (ι:=Nat × List Int) (fun i=>[(0,.hold .one (bm .imm sp)),(1,.hold .one (bn .imm la)),(5,.hold .one (aI .own i.2)),(6,.hold .one [I ((i.1:Nat):Int)])]) (fun i=>i.1≤sp.length∧i.2=(sp.take i.1).map (·.Page)∧(sp.take i.1).all bq=true∧i.2.Nodup) (fun i=>sp.length - i.1) ((0,[])) ?_ (⟨Nat.zero_le _,rfl,rfl,List.nodup_nil⟩) fun i hi=>?_
 ·exact wA
 obtain⟨i,S⟩:=i
 obtain⟨hi,hS,hok,hnd⟩:=hi
 simp only at hi hS hok hnd ⊢
 have hSl:S.length=i:=by rw[hS,List.length_map,List.length_take];omega
 by_cases li:i<sp.length
 ·have hx:=ao li
  have h1:=hC (nth sp i)
  cases e1:bq (nth sp i)<;>rw[e1]at h1
  ·repeat'(first|refine gD ?_|(conv=>whnf);first|with_reducible refine Ix.nat (aa hx) ?_|refine Cl.mk h1 ?_)
   exact congrArg (fun z=>[B z]) ((pL hx e1).symm)
  ·repeat'(first|refine gD ?_|(conv=>whnf);first|with_reducible (first|refine Ix.nat (aa hx) ?_|refine Bf.D (fun hq=>?_) (fun hq=>?_))|refine Cl.mk h1 ?_|refine Cl.eq (m0 S _ (by omega)) ⟨⟨rfl,dO _⟩,⟨rfl,rfl⟩,trivial⟩ ?_|refine Ap.mk di (fun r hr=>by rw[List.mem_singleton.1 hr];rfl) (by simp[aW,eB]) (by simp;omega) (by simp only[List.length_map];exact ul (by simp;omega) (by decide)) rfl ?_)
   all_goals first
    | exact congrArg (fun z=>[B z]) ((jV (S:=S) (by rw[hS];exact BT hx) (by assumption)).symm)
    | ((conv=>whnf)
       refine Nx.mk (i+1,S++[(nth sp i).Page]) ⟨(by simp only;omega),(by simp only;rw[hS,List.take_add_one,hx];simp),(cD hx hok e1),kS hnd (by assumption)⟩ (by simp only;omega) ?_
       (repeat'(first|exact trivial|rfl|exact And.intro rfl (And.intro (congrArg (C.s dE.own) (by simp[rI])) trivial)|refine And.intro ?_ ?_)))
 ·obtain rfl:i=sp.length:=by omega
  rw[List.take_length]at hok hS
  repeat'(first|refine gD ?_|fail)
  (conv=>whnf)
  refine Lp.mk (ι:=Nat × List Int) (fun i=>[(1,.hold .one (bn .imm la)),(5,.hold .one (aI .own i.2)),(7,.hold .one [I ((i.1:Nat):Int)])]) (fun i=>i.1≤la.length∧i.2=pgs sp (la.take i.1)∧(la.take i.1).all dl=true∧i.2.Nodup∧i.2.length≤1048576+64*i.1) (fun i=>la.length - i.1) ((0,S)) ?_ (⟨Nat.zero_le _,by rw[hS];unfold pgs;simp,rfl,hnd,by simp only;omega⟩) fun i hi=>?_
  ·exact wA
  obtain⟨i,S2⟩:=i
  obtain⟨hi2,hS2,hok2,hnd2,hb2⟩:=hi
  simp only at hi2 hS2 hok2 hnd2 hb2 ⊢
  by_cases li:i<la.length
  ·have hx:=ao li
   have h1:=rx (nth la i)
   cases e1:dl (nth la i)<;>rw[e1]at h1
   ·repeat'(first|refine gD ?_|(conv=>whnf);first|with_reducible refine Ix.nat (aa hx) ?_|refine Cl.mk h1 ?_)
    exact congrArg (fun z=>[B z]) ((nQ hx e1).symm)
   ·have hpg:=bB e1
    repeat'(first|refine gD ?_|(conv=>whnf);first|with_reducible refine Ix.nat (aa hx) ?_|refine Cl.mk h1 ?_)
    (conv=>whnf)
    refine Lp.mk (ι:=Nat × List Int) (fun k=>[(1,.hold .one (bn .imm la)),(5,.hold .one (aI .own k.2)),(7,.hold .one [I ((i:Nat):Int)]),(8,.hold .one [I ((k.1:Nat):Int)])]) (fun k=>k.1≤(nth la i).Pages.toNat∧k.2=S2++lpgs (nth la i) k.1∧k.2.Nodup) (fun k=>(nth la i).Pages.toNat - k.1) ((0,S2)) ?_ (⟨Nat.zero_le _,by simp[lpgs],hnd2⟩) fun k hk=>?_
    ·exact wA
    obtain⟨k,S3⟩:=k
    obtain⟨hk,hS3,hnd3⟩:=hk
    simp only at hk hS3 hnd3 ⊢
    have hl3:S3.length=S2.length+k:=by rw[hS3,List.length_append,Bd]
    by_cases lk:k<(nth la i).Pages.toNat
    ·repeat'(first|refine gD ?_|(conv=>whnf);first|with_reducible (first|refine Ix.nat (aa hx) ?_|refine Bf.D (fun hq=>?_) (fun hq=>?_))|refine Cl.eq (m0 S3 _ (by omega)) ⟨⟨rfl,dO _⟩,⟨rfl,rfl⟩,trivial⟩ ?_|refine Ap.mk di (fun r hr=>by rw[List.mem_singleton.1 hr];rfl) (by simp[aW,eB]) (by simp;omega) (by show _*8≤_;simp;omega) rfl ?_)
     all_goals first
      | exact congrArg (fun z=>[B z]) ((jV (S:=S3) (by rw[hS3,hS2];exact yz hx lk) (by assumption)).symm)
      | ((conv=>whnf)
         refine Nx.mk (k+1,S3++[(nth la i).Page+(k:Nat)]) ⟨(by simp only;omega),(by simp only;rw[hS3,kb,List.append_assoc]),kS hnd3 (by assumption)⟩ (by simp only;omega) ?_
         (repeat'(first|exact trivial|rfl|exact And.intro rfl (And.intro (congrArg (C.s dE.own) (by simp[rI])) trivial)|refine And.intro ?_ ?_)))
    ·obtain rfl:k=(nth la i).Pages.toNat:=by omega
     repeat'(first|refine gD ?_|(conv=>whnf);first|with_reducible refine Ix.nat (aa hx) ?_)
     ((conv=>whnf);refine Nx.mk (i+1,S3) ⟨(by simp only;omega),(by simp only;rw[hS3,hS2,←nP sp hx]),(cD hx hok2 e1),hnd3,(by simp only;omega)⟩ (by simp only;omega) ?_;(exact wA))
  ·obtain rfl:i=la.length:=by omega
   rw[List.take_length]at hok2 hS2
   repeat'(first|refine gD ?_|fail)
   exact congrArg (fun z=>[B z]) ((ru hok hok2 (by rw[←hS2];exact hnd2)).symm)
def ins (S:List Int) (p:Int):List Int:=if p∈S then S else S++[p]
theorem G6 {p:Int} : ∀ {S:List Int},p∈S→mput (fm S) p (.bool true)=fm S
 | x::S,h=>by
  simp only[fm,List.map_cons,mput]
  by_cases hx:x=p
  ·rw[if_pos hx,hx]
  ·rw[if_neg hx]
   have:=G6 (S:=S) ((List.mem_cons.1 h).resolve_left fun e=>hx e.symm)
   simp only[fm]at this
   rw[this]
theorem vn (S:List Int) (p:Int):fm (ins S p)=mput (fm S) p (.bool true):=by
 unfold ins
 split
 ·rw[G6 (by assumption)]
 ·rw[sJ (by assumption)]
theorem KL (S:List Int) (p:Int):aV Tryz.prog 132 false [.val none [I p],.ptr [.m (fm S)]] [.val none [I p],.ptr [.m (fm (ins S p))]] .one [B (decide (p∉S))]:=by
 refine fM 12 [] [] [(0,0),(0,0)] Tryz.func132 rfl (fun u q=>?_)
 repeat'(first|refine gO ?_|(conv=>whnf);first|refine Ml.mk (ng p S) ?_|refine Mu.mk (vn S p) ?_)
 refine bK.mk rfl ?_ ?_
 ·exact congrArg (fun z=>[B z]) (by simp)
 ·exact wA
theorem pR (sp:List am) (la:List au) (hs1:cC sp) (hs2:cg la):ah Tryz.prog 45 false [.val none (bm .imm sp),.val none (bn .imm la)] .one [B (bu sp la)]:=by
 have hl1:=hs1.1
 have hl2:=hs2.1
 refine fP 54 [(132,[0,2])] [] Tryz.func45 rfl ?_
 repeat'(first|refine gO ?_|fail)
 (conv=>whnf)
 refine Lp.mk (ι:=Nat × List Int) (fun i=>[(1,.hold .one (bn .imm la)),(5,.hold .box [.m (fm i.2)]),(6,.fn 132 [5]),(14,.hold .one (bm .imm sp)),(15,.hold .one [I (sp.length)]),(16,.hold .one [I ((i.1:Nat):Int)])]) (fun i=>i.1≤sp.length∧i.2=(sp.take i.1).map (·.Page)∧(sp.take i.1).all bq=true∧i.2.Nodup) (fun i=>sp.length - i.1) ((0,[])) ?_ (⟨Nat.zero_le _,rfl,rfl,List.nodup_nil⟩) fun i hi=>?_
 ·exact wA
 obtain⟨i,S⟩:=i
 obtain⟨hi,hS,hok,hnd⟩:=hi
 simp only at hi hS hok hnd ⊢
 by_cases li:i<sp.length
 ·have hx:=ao li
  have h1:=gn (nth sp i)
  cases e1:bq (nth sp i)<;>rw[e1]at h1
  ·repeat'(first|refine gD ?_|(conv=>whnf);first|with_reducible refine Ix.nat (aa hx) ?_|refine Cl.mk h1 ?_)
   exact congrArg (fun z=>[B z]) ((pL hx e1).symm)
  ·repeat'(first|refine gD ?_|(conv=>whnf);first|with_reducible (first|refine Ix.nat (aa hx) ?_|refine Bf.D (fun hq=>?_) (fun hq=>?_))|refine Cl.mk h1 ?_|refine er.mk (KL S _) (.inl rfl) ?_)
   all_goals first
    | exact congrArg (fun z=>[B z]) ((jV (S:=S) (by rw[hS];exact BT hx) (by grind)).symm)
    |(have hnin:(nth sp i).Page∉S:=by assumption
      (conv=>whnf)
      refine Nx.mk (i+1,ins S (nth sp i).Page) ⟨(by simp only;omega),(by simp only;unfold ins;rw[if_neg hnin,hS,List.take_add_one,hx];simp),(cD hx hok e1),(by simp only;unfold ins;rw[if_neg hnin];exact kS hnd hnin)⟩ (by simp only;omega) ?_
      (exact wA))
 ·obtain rfl:i=sp.length:=by omega
  rw[List.take_length]at hok hS
  repeat'(first|refine gD ?_|fail)
  (conv=>whnf)
  refine Lp.mk (ι:=Nat × List Int) (fun i=>[(5,.hold .box [.m (fm i.2)]),(6,.fn 132 [5]),(31,.hold .one (bn .imm la)),(32,.hold .one [I (la.length)]),(33,.hold .one [I ((i.1:Nat):Int)])]) (fun i=>i.1≤la.length∧i.2=pgs sp (la.take i.1)∧(la.take i.1).all dl=true∧i.2.Nodup) (fun i=>la.length - i.1) ((0,S)) ?_ (⟨Nat.zero_le _,by rw[hS];unfold pgs;simp,rfl,hnd⟩) fun i hi=>?_
  ·exact wA
  obtain⟨i,S2⟩:=i
  obtain⟨hi2,hS2,hok2,hnd2⟩:=hi
  simp only at hi2 hS2 hok2 hnd2 ⊢
  by_cases li:i<la.length
  ·have hx:=ao li
   have h1:=qE (nth la i)
   cases e1:dl (nth la i)<;>rw[e1]at h1
   ·repeat'(first|refine gD ?_|(conv=>whnf);first|with_reducible refine Ix.nat (aa hx) ?_|refine Cl.mk h1 ?_)
    exact congrArg (fun z=>[B z]) ((nQ hx e1).symm)
   ·have hpg:=bB e1
    repeat'(first|refine gD ?_|(conv=>whnf);first|with_reducible refine Ix.nat (aa hx) ?_|refine Cl.mk h1 ?_)
    (conv=>whnf)
    refine Lp.mk (ι:=Nat × List Int) (fun k=>[(5,.hold .box [.m (fm k.2)]),(6,.fn 132 [5]),(10,.hold .box (au.enc .imm (nth la i))),(11,.hold .one [I ((k.1:Nat):Int)]),(31,.hold .one (bn .imm la)),(32,.hold .one [I (la.length)]),(33,.hold .one [I ((i:Nat):Int)])]) (fun k=>k.1≤(nth la i).Pages.toNat∧k.2=S2++lpgs (nth la i) k.1∧k.2.Nodup) (fun k=>(nth la i).Pages.toNat - k.1) ((0,S2)) ?_ (⟨Nat.zero_le _,by simp[lpgs],hnd2⟩) fun k hk=>?_
    ·exact wA
    obtain⟨k,S3⟩:=k
    obtain⟨hk,hS3,hnd3⟩:=hk
    simp only at hk hS3 hnd3 ⊢
    by_cases lk:k<(nth la i).Pages.toNat
    ·repeat'(first|refine gD ?_|(conv=>whnf);first|with_reducible refine Bf.D (fun hq=>?_) (fun hq=>?_)|refine er.mk (KL S3 _) (.inl rfl) ?_)
     all_goals first
      | exact congrArg (fun z=>[B z]) ((jV (S:=S3) (by rw[hS3,hS2];exact yz hx lk) (by grind)).symm)
      |(have hnin:(nth la i).Page+(k:Nat)∉S3:=by assumption
        (conv=>whnf)
        refine Nx.mk (k+1,ins S3 ((nth la i).Page+(k:Nat))) ⟨(by simp only;omega),(by simp only;unfold ins;rw[if_neg hnin,hS3,kb,List.append_assoc]),(by simp only;unfold ins;rw[if_neg hnin];exact kS hnd3 hnin)⟩ (by simp only;omega) ?_
        (exact wA))
    ·obtain rfl:k=(nth la i).Pages.toNat:=by omega
     repeat'(first|refine gD ?_|fail)
     ((conv=>whnf);refine Nx.mk (i+1,S3) ⟨(by simp only;omega),(by simp only;rw[hS3,hS2,←nP sp hx]),(cD hx hok2 e1),hnd3⟩ (by simp only;omega) ?_;(exact wA))
  ·obtain rfl:i=la.length:=by omega
   rw[List.take_length]at hok2 hS2
   repeat'(first|refine gD ?_|fail)
   exact congrArg (fun z=>[B z]) ((ru hok hok2 (by rw[←hS2];exact hnd2)).symm)
end Go.Proofs.YtplcalfnngkffaaGreat.Ab
/- Slots and addresses: whom an address belongs to; contracts of the functions that ask it, the reference's and the program's. No condition. -/
namespace Go.Proofs.YtplcalfnngkffaaGreat.Ab
open Go.RowKit
set_option maxRecDepth 20000
set_option maxHeartbeats 4000000
theorem aR {s:am} (h:bq s=true):0≤s.Page∧s.Page≤31∧0≤s.Class∧s.Class≤3:=by
 unfold bq at h;simp only[decide_eq_true_eq]at h;omega
theorem dw {k:Int} (h:0≤k∧k≤3):csz k=1∨csz k=2∨csz k=4∨csz k=8:=by
 obtain rfl|rfl|rfl|rfl:k=0∨k=1∨k=2∨k=3:=by omega
 all_goals decide
theorem mz {x y:Int} (h:0≤x):x.tdiv y=x / y:=Int.tdiv_eq_ediv_of_nonneg h
theorem gf {x y:Int} (h:0≤x):x.tmod y=x % y:=Int.tmod_eq_emod_of_nonneg h
def S2 (p:Int × Int):List C:=[I p.1,I p.2]
theorem yG {x1 x2:Int} {p:Int × Int} (h:(x1,x2)=p):[I x1,I x2]=S2 p:=by subst h;rfl
theorem te (s:am) (a:Int) (ha:iD a):ah Tryz.prog 341 false [.val (some 3) (am.enc .imm s),.val none [I a]] (.tup [none,none]) (S2 (iB s a)):=by
 have h1:=hC s
 have h2:=gl s.Class
 obtain⟨ha1,ha2⟩:=ha
 cases e1:bq s<;>rw[e1]at h1
 ·refine fO 33 [(4,12,[23,24,25,26,27,28,29,30,31,32,4,5])] Tryz.func341 rfl ?_ (.inr ⟨trivial,trivial,trivial⟩)
  repeat'(first|refine gO ?_|(conv=>whnf);first|refine Cl.mk h1 ?_)
  exact yG (by unfold iB cF;rw[e1];rfl)
 ·have hc:=aR e1
  have hz:=dw ⟨hc.2.2.1,hc.2.2.2⟩
  by_cases hin:16*s.Page≤a∧a≤16*s.Page+15
  ·have h0:0≤a:=by omega
   refine fO 33 [(4,12,[23,24,25,26,27,28,29,30,31,32,4,5])] Tryz.func341 rfl ?_ (.inr ⟨trivial,trivial,trivial⟩)
   repeat'(first|refine gD ?_|(conv=>whnf);first|with_reducible refine Bf.N (fun hq=>?_) (fun hq=>?_)|refine Cl.mk h1 ?_|refine Cl.mk h2 ?_|refine Cd.mk (by decide) ?_|refine Cd.mk (by omega) ?_|refine Wr.mk ((congrArg _ (mz h0)).trans (fU (by omega) (by omega))) ?_|refine Ev.mk (gf h0) ?_|refine Wr.mk ((congrArg _ (mz (by omega))).trans (fU (by rcases hz with e|e|e|e<;>rw[e]<;>omega) (by rcases hz with e|e|e|e<;>rw[e]<;>omega))) ?_|refine Ev.mk (gf (by omega)) ?_)
   all_goals first
    |(exfalso;omega)
    |exact yG (by unfold iB cF;rw[e1,decide_eq_true hin];show _=((a - 16*s.Page) / csz s.Class,(a - 16*s.Page) % csz s.Class);rw[show a % 16=a - 16*s.Page by omega])
  ·refine fO 33 [(4,12,[23,24,25,26,27,28,29,30,31,32,4,5])] Tryz.func341 rfl ?_ (.inr ⟨trivial,trivial,trivial⟩)
   repeat'(first|refine gO ?_|(conv=>whnf);first|with_reducible (first|refine Bf.D (fun hq=>?_) (fun hq=>?_)|refine Bf.N (fun hq=>?_) (fun hq=>?_))|refine Cl.mk h1 ?_|refine Cd.mk (by decide) ?_|refine Wr.mk ((congrArg _ (mz (by omega))).trans (fU (by omega) (by omega))) ?_)
   all_goals first
    |exact yG (by unfold iB cF;rw[e1,decide_eq_false hin];rfl)
    |(exfalso;omega)
theorem BU (s:am) (a:Int):ah Tryz.prog 154 false [.val (some 3) (am.enc .imm s),.val none [I a]] (.tup [none,none]) (S2 (iB s a)):=by
 have h1:=gn s
 have h2:=dR s.Class
 cases e1:bq s<;>rw[e1]at h1
 ·refine fO 38 [(4,12,[28,29,30,31,32,33,34,35,36,37,4,5])] Tryz.func154 rfl ?_ (.inr ⟨trivial,trivial,trivial⟩)
  repeat'(first|refine gO ?_|(conv=>whnf);first|refine Cl.mk h1 ?_)
  exact yG (by unfold iB cF;rw[e1];rfl)
 ·have hc:=aR e1
  have hz:=dw ⟨hc.2.2.1,hc.2.2.2⟩
  by_cases hin:16*s.Page≤a∧a≤16*s.Page+15
  ·refine fO 38 [(4,12,[28,29,30,31,32,33,34,35,36,37,4,5])] Tryz.func154 rfl ?_ (.inr ⟨trivial,trivial,trivial⟩)
   repeat'(first|refine gD ?_|(conv=>whnf);first|with_reducible refine Bf.D (fun hq=>?_) (fun hq=>?_)|refine Cl.mk h1 ?_|refine Cl.mk h2 ?_|refine Cl.mk (aL _ _ _) ?_|refine Cd.mk (by omega) ?_|refine Wr.mk ((congrArg _ (mz (by omega))).trans (fU (by rcases hz with e|e|e|e<;>rw[e]<;>omega) (by rcases hz with e|e|e|e<;>rw[e]<;>omega))) ?_|refine Ev.mk (gf (by omega)) ?_)
   all_goals exact yG (by unfold iB cF;rw[e1,decide_eq_true hin];show _=((a - 16*s.Page) / csz s.Class,(a - 16*s.Page) % csz s.Class);rw[show a - s.Page*16=a - 16*s.Page by omega])
  ·refine fO 38 [(4,12,[28,29,30,31,32,33,34,35,36,37,4,5])] Tryz.func154 rfl ?_ (.inr ⟨trivial,trivial,trivial⟩)
   repeat'(first|refine gD ?_|(conv=>whnf);first|with_reducible refine Bf.D (fun hq=>?_) (fun hq=>?_)|refine Cl.mk h1 ?_|refine Cl.mk (aL _ _ _) ?_)
   all_goals exact yG (by unfold iB cF;rw[e1,decide_eq_false hin];rfl)
theorem si (b i:Int):ah Tryz.prog 393 false [.val none [I b],.val none [I i]] .one [B (decide (0≤b∧0≤i∧i≤15))]:=by
 refine fO 11 [] Tryz.func393 rfl ?_
 repeat'(first|refine gO ?_|(conv=>whnf);first|with_reducible refine Bf.D (fun hq=>?_) (fun hq=>?_)|refine Cl.mk (aO _ 0 15) ?_)
 all_goals exact congrArg (fun z=>[B z]) ((by first|(symm;exact decide_eq_false (by omega))|exact decide_eq_decide.2 (by omega)))
theorem sB (b i:Int):ah Tryz.prog 244 false [.val none [I b],.val none [I i]] .one [B (decide (0≤b∧0≤i∧i≤15))]:=by
 refine fO 11 [] Tryz.func244 rfl ?_
 repeat'(first|refine gO ?_|(conv=>whnf);first|with_reducible refine Bf.D (fun hq=>?_) (fun hq=>?_)|refine Cl.mk (aL _ 0 15) ?_)
 all_goals exact congrArg (fun z=>[B z]) ((by first|(symm;exact decide_eq_false (by omega))|exact decide_eq_decide.2 (by omega)))
theorem JP {b i:Int} (hb:0≤b∧b≤9223372036854775807) (hi:0≤i∧i≤15):b.fdiv (2 ^ min i.toNat IntKind.i64.bits)=b / 2 ^ i.toNat∧0≤b / 2 ^ i.toNat∧b / 2 ^ i.toNat≤9223372036854775807:=by
 have h1:min i.toNat IntKind.i64.bits=i.toNat:=Nat.min_eq_left (show i.toNat≤64 by omega)
 rw[h1]
 have h2:(0:Int)≤2 ^ i.toNat:=Int.pow_nonneg (by decide)
 refine⟨Int.fdiv_eq_ediv_of_nonneg _ h2,Int.ediv_nonneg hb.1 h2,?_⟩
 have:=Int.ediv_le_self (2 ^ i.toNat:Int) hb.1
 omega
theorem vE {b i:Int} (hb:0≤b) (hi:0≤i∧i≤15):((((b / 2 ^ i.toNat).toNat &&& (1:Int).toNat:Nat):Int) == 1)=bF b i:=by
 have h2:(0:Int)≤b / 2 ^ i.toNat:=Int.ediv_nonneg hb (Int.pow_nonneg (by decide))
 have h3:(b / 2 ^ i.toNat).toNat &&& (1:Int).toNat=(b / 2 ^ i.toNat).toNat % 2:=Nat.and_one_is_mod _
 rw[h3]
 unfold bF
 generalize b / 2 ^ i.toNat=q at h2 ⊢
 rw[Bool.eq_iff_iff,beq_iff_eq,decide_eq_true_eq]
 omega
theorem jS (b i:Int) (hb:b≤9223372036854775807):ah Tryz.prog 342 false [.val none [I b],.val none [I i]] .one [B (bF b i)]:=by
 by_cases h:0≤b∧0≤i∧i≤15
 ·obtain⟨s1,s2⟩:=JP (b:=b) (i:=i) ⟨h.1,hb⟩ h.2
  have hw:IntKind.u64.wrap i=i:=by unfold IntKind.wrap;simp[IntKind.signed,IntKind.bits];omega
  refine fO 16 [] Tryz.func342 rfl ?_
  repeat'(first|refine gD ?_|(conv=>whnf);first|with_reducible refine Bf.D (fun hq=>?_) (fun hq=>?_)|refine Cl.mk (si _ _) ?_|refine Cd.mk (by omega) ?_|refine Wr.mk hw ?_|refine Ev.mk s1 ?_|refine Wr.mk (and64 s2 ⟨by decide,by decide⟩) ?_)
  all_goals exact congrArg (fun z=>[B z]) ((vE h.1 h.2))
 ·refine fO 16 [] Tryz.func342 rfl ?_
  repeat'(first|refine gD ?_|(conv=>whnf);first|with_reducible refine Bf.D (fun hq=>?_) (fun hq=>?_)|refine Cl.mk (si _ _) ?_)
  all_goals exact congrArg (fun z=>[B z]) ((by unfold bF;symm;exact decide_eq_false fun e=>h ⟨e.1,e.2.1,e.2.2.1⟩))
theorem ip (b i:Int) (hb:b≤9223372036854775807):ah Tryz.prog 145 false [.val none [I b],.val none [I i]] .one [B (bF b i)]:=by
 by_cases h:0≤b∧0≤i∧i≤15
 ·obtain⟨s1,s2⟩:=JP (b:=b) (i:=i) ⟨h.1,hb⟩ h.2
  refine fO 15 [] Tryz.func145 rfl ?_
  repeat'(first|refine gD ?_|(conv=>whnf);first|with_reducible refine Bf.D (fun hq=>?_) (fun hq=>?_)|refine Cl.mk (sB _ _) ?_|refine Cd.mk (by omega) ?_|refine Ev.mk s1 ?_|refine Wr.mk (and64 s2 ⟨by decide,by decide⟩) ?_)
  all_goals exact congrArg (fun z=>[B z]) ((vE h.1 h.2))
 ·refine fO 15 [] Tryz.func145 rfl ?_
  repeat'(first|refine gD ?_|(conv=>whnf);first|with_reducible refine Bf.D (fun hq=>?_) (fun hq=>?_)|refine Cl.mk (sB _ _) ?_)
  all_goals exact congrArg (fun z=>[B z]) ((by unfold bF;symm;exact decide_eq_false fun e=>h ⟨e.1,e.2.1,e.2.2.1⟩))
theorem dM {l:au} (h:dl l=true):9≤l.Size∧l.Size≤1000∧0≤l.Page∧l.Page≤31:=by
 unfold dl at h;simp only[decide_eq_true_eq]at h;omega
theorem po (l:au) (a:Int):ah Tryz.prog 343 false [.val (some 3) (au.enc .imm l),.val none [I a]] .one [B (bt l a)]:=by
 have h1:=rx l
 cases e1:dl l<;>rw[e1]at h1
 ·refine fO 24 [] Tryz.func343 rfl ?_
  repeat'(first|refine gO ?_|(conv=>whnf);first|refine Cl.mk h1 ?_)
  exact congrArg (fun z=>[B z]) ((by unfold bt;rw[e1];rfl))
 ·have hf:=dM e1
  refine fO 24 [] Tryz.func343 rfl ?_
  repeat'(first|refine gO ?_|(conv=>whnf);first|with_reducible refine Bf.D (fun hq=>?_) (fun hq=>?_)|refine Cl.mk h1 ?_)
  all_goals exact congrArg (fun z=>[B z]) ((by unfold bt;rw[e1,Bool.true_and];first|(symm;exact decide_eq_false (by omega))|exact decide_eq_decide.2 (by omega)))
theorem pp (l:au) (a:Int):ah Tryz.prog 155 false [.val (some 3) (au.enc .imm l),.val none [I a]] .one [B (bt l a)]:=by
 have h1:=qE l
 cases e1:dl l<;>rw[e1]at h1
 ·refine fO 21 [] Tryz.func155 rfl ?_
  repeat'(first|refine gO ?_|(conv=>whnf);first|refine Cl.mk h1 ?_)
  exact congrArg (fun z=>[B z]) ((by unfold bt;rw[e1];rfl))
 ·have hf:=dM e1
  refine fO 21 [] Tryz.func155 rfl ?_
  repeat'(first|refine gO ?_|(conv=>whnf);first|with_reducible refine Bf.D (fun hq=>?_) (fun hq=>?_)|refine Cl.mk h1 ?_|refine Cl.mk (aL _ _ _) ?_)
  all_goals exact congrArg (fun z=>[B z]) ((by unfold bt;rw[e1,Bool.true_and];exact decide_eq_decide.2 (by omega)))
theorem rQ (l:au) (a:Int) (h:bt l a=true):ah Tryz.prog 344 false [.val (some 3) (au.enc .imm l),.val none [I a]] .one [I (a - 16*l.Page)]:=by
 have h1:=po l a
 rw[h]at h1
 unfold bt at h
 simp only[Bool.and_eq_true,decide_eq_true_eq]at h
 have hf:=dM h.1
 refine fO 14 [] Tryz.func344 rfl ?_
 repeat'(first|refine gO ?_|(conv=>whnf);first|refine Cl.mk h1 ?_)
 exact congrArg (fun z=>[I z]) (by omega)
theorem sC (l:au) (a:Int) (h:bt l a=true):ah Tryz.prog 156 false [.val (some 3) (au.enc .imm l),.val none [I a]] .one [I (a - 16*l.Page)]:=by
 have h1:=pp l a
 rw[h]at h1
 unfold bt at h
 simp only[Bool.and_eq_true,decide_eq_true_eq]at h
 have hf:=dM h.1
 refine fO 14 [] Tryz.func156 rfl ?_
 repeat'(first|refine gO ?_|(conv=>whnf);first|refine Cl.mk h1 ?_)
 exact congrArg (fun z=>[I z]) (by omega)
end Go.Proofs.YtplcalfnngkffaaGreat.Ab
/- Mail and quarantine: the contracts of the functions that ask whether they are valid, the reference's and the program's. No condition. -/
namespace Go.Proofs.YtplcalfnngkffaaGreat.Ab
open Go.RowKit
set_option maxRecDepth 20000
set_option maxHeartbeats 4000000
theorem oU {m:aK} {i:Nat} (hi:i<m.Buffers.length) (h:gN m i=false):dZ m=false:=by
 unfold dZ;rw[cf hi h];simp
theorem uE {m:aK} (h:¬(1≤m.Buffers.length∧m.Buffers.length≤4∧m.Inbox.length=m.Buffers.length)):dZ m=false:=by
 unfold dZ;rw[decide_eq_false h];rfl
theorem uZ {m:aK} (h1:1≤m.Buffers.length∧m.Buffers.length≤4∧m.Inbox.length=m.Buffers.length) (h2:cM m.Buffers.length (gN m)=true):dZ m=decide (bP m m.Buffers.length≤30):=by
 unfold dZ;rw[decide_eq_true h1,h2];rfl
theorem th (m:aK) (hs:aK.sml m):ah Tryz.prog 182 false [.val (some 2) (aK.enc .imm m)] .one [B (dZ m)]:=by
 have hl1:m.Buffers.length≤1048576:=hs.1.1
 have hl2:m.Inbox.length≤1048576:=hs.2.1
 by_cases hn:1≤m.Buffers.length∧m.Buffers.length≤4∧m.Inbox.length=m.Buffers.length
 ·refine fO 92 [(19,15,[75,76,77,78,79,80,81,82,83,84,85,86,87,88,89])] Tryz.func182 rfl ?_
  repeat'(first|refine gA ?_|(conv=>whnf);first|with_reducible (first|refine Bf.D (fun hq=>?_) (fun hq=>?_)|refine Bf.N (fun hq=>?_) (fun hq=>?_))|refine Cl.mk (aO _ 1 4) ?_)
  (conv=>whnf)
  refine Lp.mk (ι:=Nat) (fun i=>[(1,.hold .box (aK.enc .imm m)),(3,.hold .one [I (m.Buffers.length)]),(4,.hold .one [I (bP m i)]),(5,.hold .one [I ((i:Nat):Int)])]) (fun i=>i≤m.Buffers.length∧cM i (gN m)=true∧0≤bP m i∧bP m i≤2097152*i) (fun i=>m.Buffers.length - i) (0) ?_ (⟨Nat.zero_le _,rfl,by simp[bP],by simp[bP]⟩) fun i hi=>?_
  ·exact wA
  obtain⟨hi,ai,s0,s1⟩:=hi
  by_cases li:i<m.Buffers.length
  ·have hx:=ao li
   have hy:=ao (xs:=m.Inbox) (i:=i) (by omega)
   have hb1:(nth m.Buffers i).length≤1048576:=(hs.1.2 _ (aC li)).1
   have hb2:(nth m.Inbox i).length≤1048576:=hs.2.2 _ (aC (by omega))
   repeat'(first|refine gD ?_|fail)
   (conv=>whnf)
   refine Lp.mk (ι:=Nat) (fun k=>[(1,.hold .box (aK.enc .imm m)),(3,.hold .one [I (m.Buffers.length)]),(4,.hold .one [I (bP m i)]),(5,.hold .one [I ((i:Nat):Int)]),(6,.hold .one [I ((k:Nat):Int)])]) (fun k=>k≤(nth m.Buffers i).length∧((nth m.Buffers i).take k).all (oA m.Buffers.length)=true) (fun k=>(nth m.Buffers i).length - k) (0) ?_ (⟨Nat.zero_le _,rfl⟩) fun k hk=>?_
   ·exact wA
   obtain⟨hk,ak⟩:=hk
   by_cases lk:k<(nth m.Buffers i).length
   ·have hz:=ao lk
    repeat'(first|refine gD ?_|(conv=>whnf);first|with_reducible (first|refine Ix.nat (aa hx) ?_|refine Ix.nat (aa hz) ?_|refine Bf.D (fun hq=>?_) (fun hq=>?_))|refine Cl.mk (aO _ 0 _) ?_)
    all_goals first
     | exact congrArg (fun z=>[B z]) ((oU li (by unfold gN;rw[eE hz (by unfold oA;exact decide_eq_false (by omega))];rfl)).symm)
     | ((conv=>whnf);refine Nx.mk (k+1) ⟨by omega,cD hz ak (by unfold oA;exact decide_eq_true (by omega))⟩ (by omega) ?_;(exact wA))
   ·have ae:=gt (by omega) ak
    repeat'(first|refine gD ?_|(conv=>whnf);first|with_reducible refine Ix.nat (aa hx) ?_)
    (conv=>whnf)
    refine Lp.mk (ι:=Nat) (fun k2=>[(1,.hold .box (aK.enc .imm m)),(3,.hold .one [I (m.Buffers.length)]),(4,.hold .one [I (bP m i)]),(5,.hold .one [I ((i:Nat):Int)]),(8,.hold .one [I ((k2:Nat):Int)])]) (fun k2=>k2≤(nth m.Inbox i).length∧((nth m.Inbox i).take k2).all M8=true) (fun k2=>(nth m.Inbox i).length - k2) (0) ?_ (⟨Nat.zero_le _,rfl⟩) fun k2 hk2=>?_
    ·exact wA
    obtain⟨hk2,ak2⟩:=hk2
    by_cases lk2:k2<(nth m.Inbox i).length
    ·have hz:=ao lk2
     repeat'(first|refine gD ?_|(conv=>whnf);first|with_reducible (first|refine Ix.nat (aa hy) ?_|refine Ix.nat (aa hz) ?_|refine Bf.D (fun hq=>?_) (fun hq=>?_)))
     all_goals first
      | exact congrArg (fun z=>[B z]) ((oU li (by unfold gN;rw[eE hz (by unfold M8;exact decide_eq_false (by omega))];simp)).symm)
      | ((conv=>whnf);refine Nx.mk (k2+1) ⟨by omega,cD hz ak2 (by unfold M8;exact decide_eq_true (by omega))⟩ (by omega) ?_;(exact wA))
    ·have ae2:=gt (by omega) ak2
     have hsum:bP m (i+1)=bP m i+((nth m.Buffers i).length+(nth m.Inbox i).length):=rfl
     have hsum2:bP m (i+1)=bP m i+(nth m.Buffers i).length+(nth m.Inbox i).length:=by rw[hsum];omega
     repeat'(first|refine gD ?_|(conv=>whnf);first|with_reducible (first|refine Ix.nat (aa hx) ?_|refine Ix.nat (aa hy) ?_))
     ((conv=>whnf);refine Nx.mk (i+1) ⟨by omega,bD ai (by unfold gN;rw[ae,ae2];rfl),by omega,by omega⟩ (by omega) ?_)
     rw[hsum2]
     exact wA
  ·obtain rfl:i=m.Buffers.length:=by omega
   repeat'(first|refine gD ?_|fail)
   exact congrArg (fun z=>[B z]) ((uZ hn ai).symm)
 ·refine fO 92 [(19,15,[75,76,77,78,79,80,81,82,83,84,85,86,87,88,89])] Tryz.func182 rfl ?_
  repeat'(first|refine gO ?_|(conv=>whnf);first|with_reducible (first|refine Bf.D (fun hq=>?_) (fun hq=>?_)|refine Bf.N (fun hq=>?_) (fun hq=>?_))|refine Cl.mk (aO _ 1 4) ?_)
  all_goals first
   | exact congrArg (fun z=>[B z]) ((uE hn).symm)
   |(exfalso;omega)
theorem tJ (m:aK) (hs:aK.sml m):ah Tryz.prog 47 false [.val (some 2) (aK.enc .imm m)] .one [B (dZ m)]:=by
 have hl1:m.Buffers.length≤1048576:=hs.1.1
 have hl2:m.Inbox.length≤1048576:=hs.2.1
 by_cases hn:1≤m.Buffers.length∧m.Buffers.length≤4∧m.Inbox.length=m.Buffers.length
 ·refine fO 82 [(20,15,[64,65,66,67,68,69,70,71,72,73,74,75,76,77,78])] Tryz.func47 rfl ?_
  repeat'(first|refine gA ?_|(conv=>whnf);first|with_reducible (first|refine Bf.D (fun hq=>?_) (fun hq=>?_)|refine Bf.N (fun hq=>?_) (fun hq=>?_))|refine Cl.mk (aL _ 1 4) ?_)
  (conv=>whnf)
  refine Lp.mk (ι:=Nat) (fun i=>[(1,.hold .box (aK.enc .imm m)),(3,.hold .one [I (m.Buffers.length)]),(4,.hold .one [I (bP m i)]),(25,.hold .one [I (m.Buffers.length)]),(26,.hold .one [I ((i:Nat):Int)])]) (fun i=>i≤m.Buffers.length∧cM i (gN m)=true∧0≤bP m i∧bP m i≤2097152*i) (fun i=>m.Buffers.length - i) (0) ?_ (⟨Nat.zero_le _,rfl,by simp[bP],by simp[bP]⟩) fun i hi=>?_
  ·exact wA
  obtain⟨hi,ai,s0,s1⟩:=hi
  by_cases li:i<m.Buffers.length
  ·have hx:=ao li
   have hy:=ao (xs:=m.Inbox) (i:=i) (by omega)
   have hb1:(nth m.Buffers i).length≤1048576:=(hs.1.2 _ (aC li)).1
   have hb2:(nth m.Inbox i).length≤1048576:=hs.2.2 _ (aC (by omega))
   repeat'(first|refine gD ?_|(conv=>whnf);first|with_reducible refine Ix.nat (aa hx) ?_)
   (conv=>whnf)
   refine Lp.mk (ι:=Nat) (fun k=>[(1,.hold .box (aK.enc .imm m)),(3,.hold .one [I (m.Buffers.length)]),(4,.hold .one [I (bP m i)]),(5,.hold .one [I ((i:Nat):Int)]),(25,.hold .one [I (m.Buffers.length)]),(26,.hold .one [I ((i:Nat):Int)]),(33,.hold .one (b6 .imm (nth m.Buffers i))),(34,.hold .one [I ((nth m.Buffers i).length)]),(35,.hold .one [I ((k:Nat):Int)])]) (fun k=>k≤(nth m.Buffers i).length∧((nth m.Buffers i).take k).all (oA m.Buffers.length)=true) (fun k=>(nth m.Buffers i).length - k) (0) ?_ (⟨Nat.zero_le _,rfl⟩) fun k hk=>?_
   ·exact wA
   obtain⟨hk,ak⟩:=hk
   by_cases lk:k<(nth m.Buffers i).length
   ·have hz:=ao lk
    repeat'(first|refine gD ?_|(conv=>whnf);first|with_reducible (first|refine Ix.nat (aa hx) ?_|refine Ix.nat (aa hz) ?_|refine Bf.D (fun hq=>?_) (fun hq=>?_))|refine Cl.mk (aL _ 0 _) ?_)
    all_goals first
     | exact congrArg (fun z=>[B z]) ((oU li (by unfold gN;rw[eE hz (by unfold oA;exact decide_eq_false (by omega))];rfl)).symm)
     | ((conv=>whnf);refine Nx.mk (k+1) ⟨by omega,cD hz ak (by unfold oA;exact decide_eq_true (by omega))⟩ (by omega) ?_;(exact wA))
   ·have ae:=gt (by omega) ak
    repeat'(first|refine gD ?_|(conv=>whnf);first|with_reducible (first|refine Ix.nat (aa hx) ?_|refine Ix.nat (aa hy) ?_))
    (conv=>whnf)
    refine Lp.mk (ι:=Nat) (fun k2=>[(1,.hold .box (aK.enc .imm m)),(3,.hold .one [I (m.Buffers.length)]),(4,.hold .one [I (bP m i)]),(5,.hold .one [I ((i:Nat):Int)]),(25,.hold .one [I (m.Buffers.length)]),(26,.hold .one [I ((i:Nat):Int)]),(55,.hold .one (aI .imm (nth m.Inbox i))),(56,.hold .one [I ((nth m.Inbox i).length)]),(57,.hold .one [I ((k2:Nat):Int)])]) (fun k2=>k2≤(nth m.Inbox i).length∧((nth m.Inbox i).take k2).all M8=true) (fun k2=>(nth m.Inbox i).length - k2) (0) ?_ (⟨Nat.zero_le _,rfl⟩) fun k2 hk2=>?_
    ·exact wA
    obtain⟨hk2,ak2⟩:=hk2
    by_cases lk2:k2<(nth m.Inbox i).length
    ·have hz:=ao lk2
     repeat'(first|refine gD ?_|(conv=>whnf);first|with_reducible (first|refine Ix.nat (aa hy) ?_|refine Ix.nat (aa hz) ?_|refine Bf.D (fun hq=>?_) (fun hq=>?_)))
     all_goals first
      | exact congrArg (fun z=>[B z]) ((oU li (by unfold gN;rw[eE hz (by unfold M8;exact decide_eq_false (by omega))];simp)).symm)
      | ((conv=>whnf);refine Nx.mk (k2+1) ⟨by omega,cD hz ak2 (by unfold M8;exact decide_eq_true (by omega))⟩ (by omega) ?_;(exact wA))
    ·have ae2:=gt (by omega) ak2
     have hsum:bP m (i+1)=bP m i+((nth m.Buffers i).length+(nth m.Inbox i).length):=rfl
     repeat'(first|refine gD ?_|(conv=>whnf);first|with_reducible (first|refine Ix.nat (aa hx) ?_|refine Ix.nat (aa hy) ?_))
     ((conv=>whnf);refine Nx.mk (i+1) ⟨by omega,bD ai (by unfold gN;rw[ae,ae2];rfl),by omega,by omega⟩ (by omega) ?_)
     rw[hsum]
     exact wA
  ·obtain rfl:i=m.Buffers.length:=by omega
   repeat'(first|refine gD ?_|fail)
   exact congrArg (fun z=>[B z]) ((uZ hn ai).symm)
 ·refine fO 82 [(20,15,[64,65,66,67,68,69,70,71,72,73,74,75,76,77,78])] Tryz.func47 rfl ?_
  repeat'(first|refine gO ?_|(conv=>whnf);first|with_reducible (first|refine Bf.D (fun hq=>?_) (fun hq=>?_)|refine Bf.N (fun hq=>?_) (fun hq=>?_))|refine Cl.mk (aL _ 1 4) ?_)
  all_goals first
   | exact congrArg (fun z=>[B z]) ((uE hn).symm)
   |(exfalso;omega)
end Go.Proofs.YtplcalfnngkffaaGreat.Ab
/- Whom an address belongs to: the contracts of Denotes and denotes; classes of sizes; pages of a frame; spans on a page. No condition. -/
namespace Go.Proofs.YtplcalfnngkffaaGreat.Ab
open Go.RowKit
set_option maxRecDepth 20000
set_option maxHeartbeats 4000000
theorem y3 {s:am} {a:Int} (h:cF s a=false):S2 (iB s a)=[I (-1),I (-1)]:=by
 unfold iB;rw[h];rfl
theorem vQ {s:am} {a:Int} (h:cF s a=true):S2 (iB s a)=[I ((a - 16*s.Page) / csz s.Class),I ((a - 16*s.Page) % csz s.Class)]:=by
 unfold iB;rw[h];rfl
theorem qM {s:am} {a:Int} (h:cF s a=true):bq s=true∧0≤(a - 16*s.Page) / csz s.Class∧(a - 16*s.Page) / csz s.Class≤15:=by
 unfold cF at h
 simp only[Bool.and_eq_true,decide_eq_true_eq]at h
 have hc:=aR h.1
 refine⟨h.1,?_⟩
 rcases dw ⟨hc.2.2.1,hc.2.2.2⟩ with e|e|e|e<;>rw[e]<;>omega
theorem mU {sp:List am} {la:List au} {a:Int} {i:Nat} (hi:i<sp.length) (h:cF (nth sp i) a=true) (ha:∀ (j:Nat) (z:am),j<i→sp[j]? = some z→cF z a=false):denotes sp la a=nE i (nth sp i) a:=by
 unfold denotes;rw[zu (pr:=(cF · a)) (ao hi) h ha]
theorem lO {sp:List am} {la:List au} {a:Int} {i n:Nat} (hn:sp.length≤n) (hs:∀ (j:Nat) (z:am),j<n→sp[j]? = some z→cF z a=false) (hi:i<la.length) (h:bt (nth la i) a=true) (ha:∀ (j:Nat) (z:au),j<i→la[j]? = some z→bt z a=false) :
  denotes sp la a = ⟨3,i,0,a - 16*(nth la i).Page⟩:=by
 unfold denotes;rw[zt (pr:=(cF · a)) hn hs,zu (pr:=(bt · a)) (ao hi) h ha]
theorem wR {sp:List am} {la:List au} {a:Int} {n k:Nat} (hn:sp.length≤n) (hs:∀ (j:Nat) (z:am),j<n→sp[j]? = some z→cF z a=false) (hk:la.length≤k) (ha:∀ (j:Nat) (z:au),j<k→la[j]? = some z→bt z a=false):denotes sp la a = ⟨0,0,0,0⟩:=by
 unfold denotes;rw[zt (pr:=(cF · a)) hn hs,zt (pr:=(bt · a)) hk ha]
theorem mJ (sp:List am) (la:List au) (a:Int) (hs1:cC sp) (hs2:cg la) (hlay:bu sp la=true) (hw:iD a):ah Tryz.prog 270 false [.val none (bm .imm sp),.val none (bn .imm la),.val none [I a]] .agg (cJ.enc .own (denotes sp la a)):=by
 have hl1:=hs1.1
 have hl2:=hs2.1
 have h0:=lz sp la hs1 hs2
 rw[hlay]at h0
 refine fO 67 [] Tryz.func270 rfl ?_ (.inr (cJ.enc_fr _))
 repeat'(first|refine gO ?_|(conv=>whnf);first|refine Cl.mk h0 ?_)
 (conv=>whnf)
 refine Lp.mk (ι:=Nat) (fun i=>[(0,.hold .one (bm .imm sp)),(1,.hold .one (bn .imm la)),(2,.hold .one [I (a)]),(6,.hold .box ([I 0,I 0,I 0,I 0])),(7,.hold .one [I ((i:Nat):Int)])]) (fun i=>i≤sp.length∧∀ (j:Nat) (z:am),j<i→sp[j]? = some z→cF z a=false) (fun i=>sp.length - i) (0) ?_ (⟨Nat.zero_le _,fun j z hj=>by omega⟩) fun i hi=>?_
 ·exact wA
 obtain⟨hi,ai⟩:=hi
 by_cases li:i<sp.length
 ·have hx:=ao li
  have h1:=te (nth sp i) a hw
  cases e1:cF (nth sp i) a with
  | false=>
   rw[y3 e1]at h1
   repeat'(first|refine gD ?_|(conv=>whnf);first|with_reducible (first|refine Ix.nat (aa hx) ?_|refine Bf.D (fun hq=>?_) (fun hq=>?_))|refine Cl.mk h1 ?_)
   ((conv=>whnf);refine Nx.mk (i+1) ⟨by omega,gE (pr:=(cF · a)) hx e1 ai⟩ (by omega) ?_;(exact wA))
  | true=>
   rw[vQ e1]at h1
   obtain⟨f1,f2,f3⟩:=qM e1
   have h2:=jS (nth sp i).Bits ((a - 16*(nth sp i).Page) / csz (nth sp i).Class) (eJ f1).2
   cases e2:bF (nth sp i).Bits ((a - 16*(nth sp i).Page) / csz (nth sp i).Class)<;>rw[e2]at h2
   all_goals
    repeat'(first|refine gD ?_|(conv=>whnf);first|with_reducible (first|refine Ix.nat (aa hx) ?_|refine Bf.D (fun hq=>?_) (fun hq=>?_))|refine Cl.mk h1 ?_|refine Cl.mk h2 ?_)
    all_goals(rw[mU li e1 ai];unfold nE;rw[e2];rfl)
 ·repeat'(first|refine gD ?_|fail)
  (conv=>whnf)
  refine Lp.mk (ι:=Nat) (fun k=>[(1,.hold .one (bn .imm la)),(2,.hold .one [I (a)]),(6,.hold .box ([I 0,I 0,I 0,I 0])),(11,.hold .one [I ((k:Nat):Int)])]) (fun k=>k≤la.length∧∀ (j:Nat) (z:au),j<k→la[j]? = some z→bt z a=false) (fun k=>la.length - k) (0) ?_ (⟨Nat.zero_le _,fun j z hj=>by omega⟩) fun k hk=>?_
  ·exact wA
  obtain⟨hk,ak⟩:=hk
  by_cases lk:k<la.length
  ·have hx:=ao lk
   have h1:=po (nth la k) a
   cases e1:bt (nth la k) a<;>rw[e1]at h1
   ·repeat'(first|refine gD ?_|(conv=>whnf);first|with_reducible refine Ix.nat (aa hx) ?_|refine Cl.mk h1 ?_)
    ((conv=>whnf);refine Nx.mk (k+1) ⟨by omega,gE (pr:=(bt · a)) hx e1 ak⟩ (by omega) ?_;(exact wA))
   ·repeat'(first|refine gD ?_|(conv=>whnf);first|with_reducible refine Ix.nat (aa hx) ?_|refine Cl.mk h1 ?_|refine Cl.mk (rQ (nth la k) a e1) ?_)
    rw[lO (n:=i) (by omega) ai lk e1 ak];rfl
  ·repeat'(first|refine gD ?_|fail)
   rw[wR (n:=i) (k:=k) (by omega) ai (by omega) ak];rfl
theorem mI (sp:List am) (la:List au) (a:Int) (hs1:cC sp) (hs2:cg la):ah Tryz.prog 68 false [.val none (bm .imm sp),.val none (bn .imm la),.val none [I a]] .agg (cJ.enc .own (denotes sp la a)):=by
 have hl1:=hs1.1
 have hl2:=hs2.1
 refine fO 56 [] Tryz.func68 rfl ?_ (.inr (cJ.enc_fr _))
 repeat'(first|refine gO ?_|fail)
 (conv=>whnf)
 refine Lp.mk (ι:=Nat) (fun i=>[(1,.hold .one (bn .imm la)),(2,.hold .one [I (a)]),(6,.hold .box ([I 0,I 0,I 0,I 0])),(14,.hold .one (bm .imm sp)),(15,.hold .one [I (sp.length)]),(16,.hold .one [I ((i:Nat):Int)])]) (fun i=>i≤sp.length∧∀ (j:Nat) (z:am),j<i→sp[j]? = some z→cF z a=false) (fun i=>sp.length - i) (0) ?_ (⟨Nat.zero_le _,fun j z hj=>by omega⟩) fun i hi=>?_
 ·exact wA
 obtain⟨hi,ai⟩:=hi
 by_cases li:i<sp.length
 ·have hx:=ao li
  have h1:=BU (nth sp i) a
  cases e1:cF (nth sp i) a with
  | false=>
   rw[y3 e1]at h1
   repeat'(first|refine gD ?_|(conv=>whnf);first|with_reducible (first|refine Ix.nat (aa hx) ?_|refine Bf.D (fun hq=>?_) (fun hq=>?_))|refine Cl.mk h1 ?_)
   ((conv=>whnf);refine Nx.mk (i+1) ⟨by omega,gE (pr:=(cF · a)) hx e1 ai⟩ (by omega) ?_;(exact wA))
  | true=>
   rw[vQ e1]at h1
   obtain⟨f1,f2,f3⟩:=qM e1
   have h2:=ip (nth sp i).Bits ((a - 16*(nth sp i).Page) / csz (nth sp i).Class) (eJ f1).2
   cases e2:bF (nth sp i).Bits ((a - 16*(nth sp i).Page) / csz (nth sp i).Class)<;>rw[e2]at h2
   all_goals
    repeat'(first|refine gD ?_|(conv=>whnf);first|with_reducible (first|refine Ix.nat (aa hx) ?_|refine Bf.D (fun hq=>?_) (fun hq=>?_))|refine Cl.mk h1 ?_|refine Cl.mk h2 ?_)
    all_goals(rw[mU li e1 ai];unfold nE;rw[e2];rfl)
 ·repeat'(first|refine gD ?_|fail)
  (conv=>whnf)
  refine Lp.mk (ι:=Nat) (fun k=>[(2,.hold .one [I (a)]),(6,.hold .box ([I 0,I 0,I 0,I 0])),(39,.hold .one (bn .imm la)),(40,.hold .one [I (la.length)]),(41,.hold .one [I ((k:Nat):Int)])]) (fun k=>k≤la.length∧∀ (j:Nat) (z:au),j<k→la[j]? = some z→bt z a=false) (fun k=>la.length - k) (0) ?_ (⟨Nat.zero_le _,fun j z hj=>by omega⟩) fun k hk=>?_
  ·exact wA
  obtain⟨hk,ak⟩:=hk
  by_cases lk:k<la.length
  ·have hx:=ao lk
   have h1:=pp (nth la k) a
   cases e1:bt (nth la k) a<;>rw[e1]at h1
   ·repeat'(first|refine gD ?_|(conv=>whnf);first|with_reducible refine Ix.nat (aa hx) ?_|refine Cl.mk h1 ?_)
    ((conv=>whnf);refine Nx.mk (k+1) ⟨by omega,gE (pr:=(bt · a)) hx e1 ak⟩ (by omega) ?_;(exact wA))
   ·repeat'(first|refine gD ?_|(conv=>whnf);first|with_reducible refine Ix.nat (aa hx) ?_|refine Cl.mk h1 ?_|refine Cl.mk (sC (nth la k) a e1) ?_)
    rw[lO (n:=i) (by omega) ai lk e1 ak];rfl
  ·repeat'(first|refine gD ?_|fail)
   rw[wR (n:=i) (k:=k) (by omega) ai (by omega) ak];rfl
end Go.Proofs.YtplcalfnngkffaaGreat.Ab
/- The library's IndexFunc and ContainsFunc at the program's types, and the first functions that use them. No condition. -/
namespace Go.Proofs.YtplcalfnngkffaaGreat.Ab
open Go.RowKit
set_option maxRecDepth 20000
set_option maxHeartbeats 4000000
section
variable {α:Type}
def yO (ag:Option Nat) (e:α→List C) (pr:α→Bool) (xs:List α):List (Option Nat × List C)→Kd→List C→Prop:=fun L k rcs=>∃ x,x∈xs∧L=[(ag,e x)]∧k=.one∧rcs=[B (pr x)]
end
theorem tY (xs:List ar) (pr:ar→Bool) (hl:xs.length≤9223372036854775807):ah Tryz.prog 315 false [.val none (bg .imm xs),.fn (n7 Tryz.prog (yO (some 2) (ar.enc .imm) pr xs))] .one [I (gF pr xs)]:=by
 refine fO 19 [] Tryz.func315 rfl ?_
 repeat'(first|refine gO ?_|fail)
 (conv=>whnf)
 refine Lp.mk (ι:=Nat) (fun i=>[(0,.hold .one (bg .imm xs)),(1,.fv (n7 Tryz.prog (yO (some 2) (ar.enc .imm) pr xs))),(7,.hold .one [I xs.length]),(8,.hold .one [I (i:Nat)])]) (fun i=>i≤xs.length∧∀ (j:Nat) (z:ar),j<i→xs[j]? = some z→pr z=false) (fun i=>xs.length - i) 0 ?_ ⟨Nat.zero_le _,fun j z hj=>by omega⟩ fun i hi=>?_
 ·exact wA
 ·obtain⟨hi,ha⟩:=hi
  by_cases hlt:i<xs.length
  ·obtain⟨y,hy⟩ : ∃ y,xs[i]? = some y:=⟨_,List.getElem?_eq_getElem hlt⟩
   repeat'(first|refine gD ?_|(conv=>whnf);first|with_reducible refine Ix.nat (aa hy) ?_|refine Fv.mk (k:=.one) (rcs:=[B (pr y)]) ⟨y,List.mem_of_getElem? hy,rfl,rfl,rfl⟩ ?_|refine Bf.P (fun hq=>?_) (fun hq=>?_))
   ·exact congrArg (fun z=>[I z]) (gu hy ‹_› ha).symm
   ·(conv=>whnf)
    refine Nx.mk (i+1) ⟨by omega,fun j z hj hz=>?_⟩ (by omega) ?_
    ·rcases Nat.lt_or_ge j i with h1|h1
     ·exact ha j z h1 hz
     ·obtain rfl:j=i:=by omega
      rw[hy]at hz;cases hz;assumption
    ·exact wA
  ·repeat'(first|refine gD ?_|fail)
   exact congrArg (fun z=>[I z]) (k7 (by omega) ha).symm
theorem pY (xs:List ar) (pr:ar→Bool) (hl:xs.length≤9223372036854775807):ah Tryz.prog 241 false [.val none (bg .imm xs),.fn (n7 Tryz.prog (yO (some 2) (ar.enc .imm) pr xs))] .one [B (xs.any pr)]:=by
 refine fO 9 [] Tryz.func241 rfl ?_
 repeat'(first|refine gO ?_|(conv=>whnf);first|refine Cl.mk (tY xs pr hl) ?_)
 exact congrArg (fun z=>[B z]) (ke pr xs)
theorem tM (r:ar) (page:Int):ah Tryz.prog 242 false [.val (some 2) (ar.enc .imm r),.ptr [I page]] .one [B (qq page r)]:=by
 refine fO 17 [] Tryz.func242 rfl ?_
 repeat'(first|refine gO ?_|(conv=>whnf);first|with_reducible refine Bf.D (fun hq=>?_) (fun hq=>?_)|refine Wr.mk rfl ?_)
 all_goals exact congrArg (fun z=>[B z]) (by unfold qq;first|(rw[decide_eq_true (by assumption:r.At≤page)];simp;done)|(rw[decide_eq_false (by assumption:¬r.At≤page)];rfl))
theorem xi (xs:List ar) (page:Int) (hl:xs.length≤9223372036854775807):ah Tryz.prog 136 false [.val none (bg .imm xs),.val none [I page]] .one [B (xs.any (qq page))]:=by
 refine fO 8 [] Tryz.func136 rfl ?_
 repeat'(first|refine gO ?_|(conv=>whnf);first|refine Cq.mk (yO (some 2) (ar.enc .imm) (qq page) xs) (tM default page).has (fun L k rcs hQ=>?_) ?_|refine Cl.mk (pY xs (qq page) hl) ?_)
 ·obtain⟨x,-,rfl,rfl,rfl⟩:=hQ
  exact tM x page
 ·rfl
end Go.Proofs.YtplcalfnngkffaaGreat.Ab
/- Classes of sizes, the quarantine, used frames, pages of a frame, spans on a page: contracts, the reference's and the program's. No condition. -/
namespace Go.Proofs.YtplcalfnngkffaaGreat.Ab
open Go.RowKit
set_option maxRecDepth 20000
set_option maxHeartbeats 4000000
theorem uf (xs:List aE) (pr:aE→Bool) (hl:xs.length≤9223372036854775807):ah Tryz.prog 327 false [.val none (ce .imm xs),.fn (n7 Tryz.prog (yO (some 3) (aE.enc .imm) pr xs))] .one [I (gF pr xs)]:=by
 refine fO 19 [] Tryz.func327 rfl ?_
 repeat'(first|refine gO ?_|fail)
 (conv=>whnf)
 refine Lp.mk (ι:=Nat) (fun i=>[(0,.hold .one (ce .imm xs)),(1,.fv (n7 Tryz.prog (yO (some 3) (aE.enc .imm) pr xs))),(7,.hold .one [I xs.length]),(8,.hold .one [I (i:Nat)])]) (fun i=>i≤xs.length∧∀ (j:Nat) (z:aE),j<i→xs[j]? = some z→pr z=false) (fun i=>xs.length - i) 0 ?_ ⟨Nat.zero_le _,fun j z hj=>by omega⟩ fun i hi=>?_
 ·exact wA
 ·obtain⟨hi,ha⟩:=hi
  by_cases hlt:i<xs.length
  ·obtain⟨y,hy⟩ : ∃ y,xs[i]? = some y:=⟨_,List.getElem?_eq_getElem hlt⟩
   repeat'(first|refine gD ?_|(conv=>whnf);first|with_reducible refine Ix.nat (aa hy) ?_|refine Fv.mk (k:=.one) (rcs:=[B (pr y)]) ⟨y,List.mem_of_getElem? hy,rfl,rfl,rfl⟩ ?_|refine Bf.P (fun hq=>?_) (fun hq=>?_))
   ·exact congrArg (fun z=>[I z]) (gu hy ‹_› ha).symm
   ·(conv=>whnf)
    refine Nx.mk (i+1) ⟨by omega,gE hy (by assumption) ha⟩ (by omega) ?_
    exact wA
  ·repeat'(first|refine gD ?_|fail)
   exact congrArg (fun z=>[I z]) (k7 (by omega) ha).symm
theorem qn (xs:List aE) (pr:aE→Bool) (hl:xs.length≤9223372036854775807):ah Tryz.prog 248 false [.val none (ce .imm xs),.fn (n7 Tryz.prog (yO (some 3) (aE.enc .imm) pr xs))] .one [B (xs.any pr)]:=by
 refine fO 9 [] Tryz.func248 rfl ?_
 repeat'(first|refine gO ?_|(conv=>whnf);first|refine Cl.mk (uf xs pr hl) ?_)
 exact congrArg (fun z=>[B z]) (ke pr xs)
theorem vb (xs:List am) (pr:am→Bool) (hl:xs.length≤9223372036854775807):ah Tryz.prog 38 false [.val none (bm .imm xs),.fn (n7 Tryz.prog (yO (some 3) (am.enc .imm) pr xs))] .one [I (gF pr xs)]:=by
 refine fO 19 [] Tryz.func38 rfl ?_
 repeat'(first|refine gO ?_|fail)
 (conv=>whnf)
 refine Lp.mk (ι:=Nat) (fun i=>[(0,.hold .one (bm .imm xs)),(1,.fv (n7 Tryz.prog (yO (some 3) (am.enc .imm) pr xs))),(7,.hold .one [I xs.length]),(8,.hold .one [I (i:Nat)])]) (fun i=>i≤xs.length∧∀ (j:Nat) (z:am),j<i→xs[j]? = some z→pr z=false) (fun i=>xs.length - i) 0 ?_ ⟨Nat.zero_le _,fun j z hj=>by omega⟩ fun i hi=>?_
 ·exact wA
 ·obtain⟨hi,ha⟩:=hi
  by_cases hlt:i<xs.length
  ·obtain⟨y,hy⟩ : ∃ y,xs[i]? = some y:=⟨_,List.getElem?_eq_getElem hlt⟩
   repeat'(first|refine gD ?_|(conv=>whnf);first|with_reducible refine Ix.nat (aa hy) ?_|refine Fv.mk (k:=.one) (rcs:=[B (pr y)]) ⟨y,List.mem_of_getElem? hy,rfl,rfl,rfl⟩ ?_|refine Bf.P (fun hq=>?_) (fun hq=>?_))
   ·exact congrArg (fun z=>[I z]) (gu hy ‹_› ha).symm
   ·(conv=>whnf)
    refine Nx.mk (i+1) ⟨by omega,gE hy (by assumption) ha⟩ (by omega) ?_
    exact wA
  ·repeat'(first|refine gD ?_|fail)
   exact congrArg (fun z=>[I z]) (k7 (by omega) ha).symm
theorem xl (xs:List aX) (pr:aX→Bool) (hl:xs.length≤9223372036854775807):ah Tryz.prog 41 false [.val none (eD .imm xs),.fn (n7 Tryz.prog (yO (some 4) (aX.enc .imm) pr xs))] .one [I (gF pr xs)]:=by
 refine fO 19 [] Tryz.func41 rfl ?_
 repeat'(first|refine gO ?_|fail)
 (conv=>whnf)
 refine Lp.mk (ι:=Nat) (fun i=>[(0,.hold .one (eD .imm xs)),(1,.fv (n7 Tryz.prog (yO (some 4) (aX.enc .imm) pr xs))),(7,.hold .one [I xs.length]),(8,.hold .one [I (i:Nat)])]) (fun i=>i≤xs.length∧∀ (j:Nat) (z:aX),j<i→xs[j]? = some z→pr z=false) (fun i=>xs.length - i) 0 ?_ ⟨Nat.zero_le _,fun j z hj=>by omega⟩ fun i hi=>?_
 ·exact wA
 ·obtain⟨hi,ha⟩:=hi
  by_cases hlt:i<xs.length
  ·obtain⟨y,hy⟩ : ∃ y,xs[i]? = some y:=⟨_,List.getElem?_eq_getElem hlt⟩
   repeat'(first|refine gD ?_|(conv=>whnf);first|with_reducible refine Ix.nat (aa hy) ?_|refine Fv.mk (k:=.one) (rcs:=[B (pr y)]) ⟨y,List.mem_of_getElem? hy,rfl,rfl,rfl⟩ ?_|refine Bf.P (fun hq=>?_) (fun hq=>?_))
   ·exact congrArg (fun z=>[I z]) (gu hy ‹_› ha).symm
   ·(conv=>whnf)
    refine Nx.mk (i+1) ⟨by omega,gE hy (by assumption) ha⟩ (by omega) ?_
    exact wA
  ·repeat'(first|refine gD ?_|fail)
   exact congrArg (fun z=>[I z]) (k7 (by omega) ha).symm
theorem sf (xs:List aX) (pr:aX→Bool) (hl:xs.length≤9223372036854775807):ah Tryz.prog 140 false [.val none (eD .imm xs),.fn (n7 Tryz.prog (yO (some 4) (aX.enc .imm) pr xs))] .one [B (xs.any pr)]:=by
 refine fO 9 [] Tryz.func140 rfl ?_
 repeat'(first|refine gO ?_|(conv=>whnf);first|refine Cl.mk (xl xs pr hl) ?_)
 exact congrArg (fun z=>[B z]) (ke pr xs)
theorem Mt {k:Nat} (hk:k≤3):IntKind.i64.wrap (1*2 ^ min ((k:Nat):Int).toNat IntKind.i64.bits)=csz (k:Nat):=by
 obtain rfl|rfl|rfl|rfl:k=0∨k=1∨k=2∨k=3:=by omega
 all_goals decide
theorem L0 {k:Nat} (hk:k≤100):IntKind.u64.wrap (k:Nat)=(k:Nat):=by
 unfold IntKind.wrap;simp[IntKind.signed,IntKind.bits];omega
theorem Ax {k:Nat} {z:Int} (hk:k≤3) (h:csz (k:Nat)<z) (hz:z≤8):k≤2:=by
 have e8:csz ((3:Nat):Int)=8:=by decide
 obtain rfl|rfl|rfl|rfl:k=0∨k=1∨k=2∨k=3:=by omega
 all_goals omega
theorem vD {k:Nat} {z:Int} (hk:k≤3) (h1:1≤z) (h2:k=0∨csz ((k - 1:Nat):Int)<z) (h3:¬csz (k:Nat)<z):cq z=(k:Nat):=by
 have e0:csz ((0:Nat):Int)=1:=by decide
 have e1:csz ((1:Nat):Int)=2:=by decide
 have e2:csz ((2:Nat):Int)=4:=by decide
 have e3:csz ((3:Nat):Int)=8:=by decide
 unfold cq
 obtain rfl|rfl|rfl|rfl:k=0∨k=1∨k=2∨k=3:=by omega
 all_goals simp only[Nat.reduceSub,e0,e1,e2,e3]at h2 h3
 all_goals(repeat' split)<;>omega
theorem Ag (z:Int):ah Tryz.prog 271 false [.val none [I z]] .one [I (cq z)]:=by
 refine fO 15 [] Tryz.func271 rfl ?_
 by_cases hz:1≤z∧z≤8
 ·repeat'(first|refine gD ?_|(conv=>whnf);first|with_reducible refine Bf.D (fun hq=>?_) (fun hq=>?_)|refine Cl.mk (aO z 1 8) ?_)
  (conv=>whnf)
  refine Lp.mk (ι:=Nat) (fun k=>[(0,.hold .one [I (z)]),(3,.hold .one [I ((k:Nat):Int)])]) (fun k=>k≤3∧(k=0∨csz ((k - 1:Nat):Int)<z)) (fun k=>4 - k) (0) ?_ (⟨by omega,.inl rfl⟩) fun k hk=>?_
  ·exact wA
  obtain⟨hk,h2⟩:=hk
  repeat'(first|refine gO ?_|(conv=>whnf);first|with_reducible refine Bf.D (fun hq=>?_) (fun hq=>?_)|refine Wr.mk (L0 (by omega)) ?_|refine Wr.mk (Mt hk) ?_|refine Cd.mk (by omega) ?_)
  all_goals first
   | exact congrArg (fun z=>[I z]) (vD hk hz.1 h2 (by assumption)).symm
   | ((conv=>whnf);refine Nx.mk (k+1) ⟨by have:=Ax hk (by assumption) hz.2;omega,.inr (by simpa using (by assumption:csz (k:Nat)<z))⟩ (by have:=Ax hk (by assumption) hz.2;omega) ?_;(exact wA))
 ·repeat'(first|refine gD ?_|(conv=>whnf);first|with_reducible refine Bf.D (fun hq=>?_) (fun hq=>?_)|refine Cl.mk (aO z 1 8) ?_)
  all_goals exact congrArg (fun z=>[I z]) (by unfold cq;(repeat' split)<;>omega)
theorem zH (z:Int):ah Tryz.prog 65 false [.val none [I z]] .one [I (cq z)]:=by
 refine fO 14 [] Tryz.func65 rfl ?_
 by_cases hz:1≤z∧z≤8
 ·repeat'(first|refine gD ?_|(conv=>whnf);first|with_reducible refine Bf.D (fun hq=>?_) (fun hq=>?_)|refine Cl.mk (aL z 1 8) ?_)
  (conv=>whnf)
  refine Lp.mk (ι:=Nat) (fun k=>[(0,.hold .one [I (z)]),(3,.hold .one [I ((k:Nat):Int)])]) (fun k=>k≤3∧(k=0∨csz ((k - 1:Nat):Int)<z)) (fun k=>4 - k) (0) ?_ (⟨by omega,.inl rfl⟩) fun k hk=>?_
  ·exact wA
  obtain⟨hk,h2⟩:=hk
  repeat'(first|refine gO ?_|(conv=>whnf);first|with_reducible refine Bf.D (fun hq=>?_) (fun hq=>?_)|refine Cl.mk (dR _) ?_)
  all_goals first
   | exact congrArg (fun z=>[I z]) (vD hk hz.1 h2 (by assumption)).symm
   | ((conv=>whnf);refine Nx.mk (k+1) ⟨by have:=Ax hk (by assumption) hz.2;omega,.inr (by simpa using (by assumption:csz (k:Nat)<z))⟩ (by have:=Ax hk (by assumption) hz.2;omega) ?_;(exact wA))
 ·repeat'(first|refine gD ?_|(conv=>whnf);first|with_reducible refine Bf.D (fun hq=>?_) (fun hq=>?_)|refine Cl.mk (aL z 1 8) ?_)
  all_goals exact congrArg (fun z=>[I z]) (by unfold cq;(repeat' split)<;>omega)
theorem zN (q:aQ) (a:Int) (hs:aQ.sml q):ah Tryz.prog 267 false [.val (some 2) (aQ.enc .imm q),.val none [I a]] .one [B (q.Lst.any (fj a))]:=by
 have hl:q.Lst.length≤1048576:=hs.1
 refine fO 21 [] Tryz.func267 rfl ?_
 repeat'(first|refine gO ?_|fail)
 (conv=>whnf)
 refine Lp.mk (ι:=Nat) (fun i=>[(1,.hold .one [I (a)]),(2,.hold .box (aQ.enc .imm q)),(5,.hold .one [I ((i:Nat):Int)])]) (fun i=>i≤q.Lst.length∧(q.Lst.take i).any (fj a)=false) (fun i=>q.Lst.length - i) (0) ?_ (⟨Nat.zero_le _,rfl⟩) fun i hi=>?_
 ·exact wA
 obtain⟨hi,ha⟩:=hi
 by_cases li:i<q.Lst.length
 ·have hx:=ao li
  repeat'(first|refine gD ?_|(conv=>whnf);first|with_reducible (first|refine Ix.nat (aa hx) ?_|refine Bf.E (fun hq=>?_) (fun hq=>?_)))
  all_goals first
   | exact congrArg (fun z=>[B z]) ((Al hx (decide_eq_true (by assumption))).symm)
   | ((conv=>whnf);refine Nx.mk (i+1) ⟨by omega,wn hx ha (decide_eq_false (by assumption))⟩ (by omega) ?_;(exact wA))
 ·repeat'(first|refine gD ?_|fail)
  exact congrArg (fun z=>[B z]) ((G8 (by omega) ha).symm)
theorem nM (xs:List aE) (i:Nat):quarCells xs (i+1)=quarCells xs i+csz (nth xs i).Class:=rfl
theorem Kk (k:Int):0≤csz k∧csz k≤8:=by
 by_cases h:0≤k∧k≤3
 ·rcases dw h with e|e|e|e<;>rw[e]<;>decide
 ·unfold csz;rw[if_neg h];decide
theorem E5 (xs:List aE) (hs:eO xs):ah Tryz.prog 268 false [.val none (ce .imm xs)] .one [I (quarCells xs xs.length)]:=by
 have hl:=hs.1
 refine fO 20 [] Tryz.func268 rfl ?_
 repeat'(first|refine gO ?_|fail)
 (conv=>whnf)
 refine Lp.mk (ι:=Nat) (fun i=>[(0,.hold .one (ce .imm xs)),(3,.hold .one [I (quarCells xs i)]),(4,.hold .one [I ((i:Nat):Int)])]) (fun i=>i≤xs.length∧0≤quarCells xs i∧quarCells xs i≤8*i) (fun i=>xs.length - i) (0) ?_ (⟨Nat.zero_le _,by simp[quarCells],by simp[quarCells]⟩) fun i hi=>?_
 ·exact wA
 obtain⟨hi,s0,s1⟩:=hi
 by_cases li:i<xs.length
 ·have hx:=ao li
  have hb:=Kk (nth xs i).Class
  have hst:=nM xs i
  repeat'(first|refine gD ?_|(conv=>whnf);first|with_reducible refine Ix.nat (aa hx) ?_|refine Cl.mk (gl _) ?_)
  ((conv=>whnf);refine Nx.mk (i+1) ⟨by omega,by omega,by omega⟩ (by omega) ?_)
  rw[hst]
  exact wA
 ·repeat'(first|refine gD ?_|fail)
  obtain rfl:i=xs.length:=by omega
  rfl
theorem wO (xs:List aE) (hs:eO xs):ah Tryz.prog 64 false [.val none (ce .imm xs)] .one [I (quarCells xs xs.length)]:=by
 have hl:=hs.1
 refine fO 19 [] Tryz.func64 rfl ?_
 repeat'(first|refine gO ?_|fail)
 (conv=>whnf)
 refine Lp.mk (ι:=Nat) (fun i=>[(3,.hold .one [I (quarCells xs i)]),(6,.hold .one (ce .imm xs)),(7,.hold .one [I (xs.length)]),(8,.hold .one [I ((i:Nat):Int)])]) (fun i=>i≤xs.length∧0≤quarCells xs i∧quarCells xs i≤8*i) (fun i=>xs.length - i) (0) ?_ (⟨Nat.zero_le _,by simp[quarCells],by simp[quarCells]⟩) fun i hi=>?_
 ·exact wA
 obtain⟨hi,s0,s1⟩:=hi
 by_cases li:i<xs.length
 ·have hx:=ao li
  have hb:=Kk (nth xs i).Class
  have hst:=nM xs i
  repeat'(first|refine gD ?_|(conv=>whnf);first|with_reducible refine Ix.nat (aa hx) ?_|refine Cl.mk (dR _) ?_)
  ((conv=>whnf);refine Nx.mk (i+1) ⟨by omega,by omega,by omega⟩ (by omega) ?_)
  rw[hst]
  exact wA
 ·repeat'(first|refine gD ?_|fail)
  obtain rfl:i=xs.length:=by omega
  rfl
theorem H8 (x0:aE):ah Tryz.prog 266 false [.val (some 3) (aE.enc .imm x0)] .one [B (decide (0≤x0.Class∧x0.Class≤3∧0≤x0.Addr∧0≤x0.Since))]:=by
 refine fO 16 [] Tryz.func266 rfl ?_
 repeat'(first|refine gO ?_|(conv=>whnf);first|with_reducible refine Bf.D (fun hq=>?_) (fun hq=>?_)|refine Cl.mk (aO _ 0 3) ?_)
 all_goals exact congrArg (fun z=>[B z]) ((by first|(symm;exact decide_eq_false (by omega))|exact decide_eq_decide.2 (by omega)))
theorem KY {xs:List aE} (hs:eO xs) (i:Nat):eO (xs.take i):=⟨by have:=hs.1;rw[List.length_take];omega,fun _ _=>trivial⟩
theorem Bl (q:aQ) (hs:aQ.sml q):ah Tryz.prog 183 false [.val (some 2) (aQ.enc .imm q)] .one [B (gZ q)]:=by
 have hl:q.Lst.length≤1048576:=hs.1
 refine fO 57 [(5,29,[17,18,19,20,21,22,23,24,25,26,27,28,29,30,31,32,33,34,35,36,37,38,39,40,41,42,43,44,45]),(7,11,[46,47,48,49,50,51,52,53,54,55,56])] Tryz.func183 rfl ?_
 repeat'(first|refine gO ?_|fail)
 (conv=>whnf)
 refine Lp.mk (ι:=Nat) (fun i=>[(1,.hold .box (aQ.enc .imm q)),(3,.hold .one [I ((i:Nat):Int)])]) (fun i=>i≤q.Lst.length∧cM i (jR q.Lst)=true) (fun i=>q.Lst.length - i) 0 ?_ ⟨Nat.zero_le _,rfl⟩ fun i hi=>?_
 ·exact wA
 obtain⟨hi,ai⟩:=hi
 by_cases li:i<q.Lst.length
 ·have hx:=ao li
  have h1:=zN ⟨0,q.Lst.take i⟩ (nth q.Lst i).Addr (KY hs i)
  cases e1:(q.Lst.take i).any (fj (nth q.Lst i).Addr)<;>rw[show(aQ.mk 0 (q.Lst.take i)).Lst.any (fj (nth q.Lst i).Addr)=_ from e1]at h1
  all_goals
   repeat'(first|refine gD ?_|(conv=>whnf);first|with_reducible (first|refine Ix.nat (aa hx) ?_|refine Bf.D (fun hq=>?_) (fun hq=>?_))|refine Cl.mk (H8 _) ?_|refine Ix.mk (by omega) (aa (fZ (by omega) li)) ?_|refine Sl.pre i rfl (by simp;omega) (fun r hr=>by obtain⟨z,-,rfl⟩:=List.mem_map.1 hr;rfl) (List.map_take ..) ?_|refine Cl.mk h1 ?_)
   all_goals first
    | exact congrArg (fun z=>[B z]) ((by symm;unfold gZ;rw[cf li (by unfold jR;first|(rw[e1];simp;done)|(rw[decide_eq_false (by omega)];rfl))];rfl))
    | ((conv=>whnf);refine Nx.mk (i+1) ⟨by omega,bD ai (by unfold jR;rw[e1,decide_eq_true (by omega)];rfl)⟩ (by omega) ?_;(exact wA))
 ·obtain rfl:i=q.Lst.length:=by omega
  repeat'(first|refine gD ?_|(conv=>whnf);first|with_reducible refine Bf.D (fun hq=>?_) (fun hq=>?_)|refine Cl.mk (aO _ 0 500) ?_|refine Cl.mk (E5 q.Lst hs) ?_)
  all_goals exact congrArg (fun z=>[B z]) ((by unfold gZ;rw[ai];simp only[Bool.true_and];first|(symm;exact decide_eq_false (by omega))|exact decide_eq_decide.2 (by omega)))
theorem tO (x0:aE) (a:Int):ah Tryz.prog 249 false [.val (some 3) (aE.enc .imm x0),.ptr [I a]] .one [B (fj a x0)]:=by
 refine fO 8 [] Tryz.func249 rfl ?_
 repeat'(first|refine gO ?_|fail)
 exact congrArg (fun z=>[B z]) ((by unfold fj;rw[Bool.eq_iff_iff];simp))
theorem xA (xs:List aE) (a:Int) (hl:xs.length≤9223372036854775807):ah Tryz.prog 151 false [.val none (ce .imm xs),.val none [I a]] .one [B (xs.any (fj a))]:=by
 refine fO 8 [] Tryz.func151 rfl ?_
 repeat'(first|refine gO ?_|(conv=>whnf);first|refine Cq.mk (yO (some 3) (aE.enc .imm) (fj a) xs) (tO default a).has (fun L k rcs hQ=>?_) ?_|refine Cl.mk (qn xs (fj a) hl) ?_)
 ·obtain⟨y,-,rfl,rfl,rfl⟩:=hQ
  exact tO y a
 ·rfl
def oQ (xs:List aE) (x0:aE):Bool:=decide (0≤x0.Class∧x0.Class≤3∧0≤x0.Addr∧0≤x0.Since∧(xs.length=0∨(nth xs (xs.length - 1)).Since≤x0.Since))&&!xs.any (fj x0.Addr)
theorem zC (xs:List aE) (x0:aE) (hl:xs.length≤1048576):ah Tryz.prog 138 false [.val none (ce .imm xs),.val (some 3) (aE.enc .imm x0)] .one [B (oQ xs x0)]:=by
 have h1:=xA xs x0.Addr (by omega)
 cases e1:xs.any (fj x0.Addr)<;>rw[e1]at h1
 ·by_cases hz:xs.length=0
  ·refine fO 40 [(3,15,[25,26,27,28,29,30,31,32,33,34,35,36,37,38,39])] Tryz.func138 rfl ?_
   repeat'(first|refine gO ?_|(conv=>whnf);first|with_reducible (first|refine Bf.D (fun hq=>?_) (fun hq=>?_)|refine Bf.E (fun hq=>?_) (fun hq=>?_))|refine Cl.mk (eY _) ?_|refine Cl.mk h1 ?_)
   all_goals first
    | exact congrArg (fun z=>[B z]) ((by unfold oQ;rw[e1,Bool.not_false,Bool.and_true];first|(symm;exact decide_eq_false (by omega))|(symm;exact decide_eq_true (by omega))|exact decide_eq_decide.2 (by omega)))
    |(exfalso;omega)
    |trace_state
  ·have hx:xs[((xs.length:Int) - 1).toNat]? = some (nth xs (xs.length - 1)):=by rw[show((xs.length:Int) - 1).toNat=xs.length - 1 by omega];exact ao (by omega)
   refine fO 40 [(3,15,[25,26,27,28,29,30,31,32,33,34,35,36,37,38,39])] Tryz.func138 rfl ?_
   repeat'(first|refine gO ?_|(conv=>whnf);first|with_reducible (first|refine Bf.D (fun hq=>?_) (fun hq=>?_)|refine Bf.E (fun hq=>?_) (fun hq=>?_))|refine Cl.mk (eY _) ?_|refine Cl.mk h1 ?_|refine Ix.mk (by omega) (aa hx) ?_)
   all_goals first
    | exact congrArg (fun z=>[B z]) ((by unfold oQ;rw[e1,Bool.not_false,Bool.and_true];first|(symm;exact decide_eq_false (by omega))|(symm;exact decide_eq_true (by omega))|exact decide_eq_decide.2 (by omega)))
    |(exfalso;omega)
    |trace_state
 ·refine fO 40 [(3,15,[25,26,27,28,29,30,31,32,33,34,35,36,37,38,39])] Tryz.func138 rfl ?_
  repeat'(first|refine gO ?_|(conv=>whnf);first|with_reducible refine Bf.D (fun hq=>?_) (fun hq=>?_)|refine Cl.mk (eY _) ?_|refine Cl.mk h1 ?_)
  all_goals exact congrArg (fun z=>[B z]) ((by unfold oQ;rw[e1];simp))
theorem F4 {xs:List aE} {i:Nat} (hi:i<xs.length):oQ (xs.take i) (nth xs i)=jR xs i:=by
 unfold oQ jR
 have h1:(xs.take i).length=i:=by rw[List.length_take];omega
 rw[h1]
 congr 1
 refine decide_eq_decide.2 ?_
 by_cases h0:i=0
 ·subst h0;simp
 ·have h2:nth (xs.take i) (i - 1)=nth xs (i - 1):=by
   have:=ao (xs:=xs) (i:=i - 1) (by omega)
   exact bL (by rw[List.getElem?_take_of_lt (by omega)];exact this)
  rw[h2]
theorem DZ (q:aQ) (hs:aQ.sml q):ah Tryz.prog 48 false [.val (some 2) (aQ.enc .imm q)] .one [B (gZ q)]:=by
 have hl:q.Lst.length≤1048576:=hs.1
 refine fO 32 [(4,7,[13,14,15,16,17,18,19]),(7,11,[21,22,23,24,25,26,27,28,29,30,31])] Tryz.func48 rfl ?_
 repeat'(first|refine gO ?_|fail)
 (conv=>whnf)
 refine Lp.mk (ι:=Nat) (fun i=>[(1,.hold .box (aQ.enc .imm q)),(6,.hold .one (ce .imm q.Lst)),(7,.hold .one [I (q.Lst.length)]),(8,.hold .one [I ((i:Nat):Int)])]) (fun i=>i≤q.Lst.length∧cM i (jR q.Lst)=true) (fun i=>q.Lst.length - i) 0 ?_ ⟨Nat.zero_le _,rfl⟩ fun i hi=>?_
 ·exact wA
 obtain⟨hi,ai⟩:=hi
 by_cases li:i<q.Lst.length
 ·have hx:=ao li
  have h1:=zC (q.Lst.take i) (nth q.Lst i) (by rw[List.length_take];omega)
  rw[F4 li]at h1
  cases e1:jR q.Lst i<;>rw[e1]at h1
  all_goals
   repeat'(first|refine gD ?_|(conv=>whnf);first|with_reducible refine Ix.nat (aa hx) ?_|refine Sl.pre i rfl (by simp;omega) (fun r hr=>by obtain⟨z,-,rfl⟩:=List.mem_map.1 hr;rfl) (List.map_take ..) ?_|refine Cl.mk h1 ?_)
   all_goals first
    | exact congrArg (fun z=>[B z]) ((by symm;unfold gZ;rw[cf li e1];rfl))
    | ((conv=>whnf);refine Nx.mk (i+1) ⟨by omega,bD ai e1⟩ (by omega) ?_;(exact wA))
 ·obtain rfl:i=q.Lst.length:=by omega
  repeat'(first|refine gD ?_|(conv=>whnf);first|with_reducible refine Bf.D (fun hq=>?_) (fun hq=>?_)|refine Cl.mk (aL _ 0 500) ?_|refine Cl.mk (wO q.Lst hs) ?_)
  all_goals exact congrArg (fun z=>[B z]) ((by unfold gZ;rw[ai];simp only[Bool.true_and];first|(symm;exact decide_eq_false (by omega))|exact decide_eq_decide.2 (by omega)))
end Go.Proofs.YtplcalfnngkffaaGreat.Ab
