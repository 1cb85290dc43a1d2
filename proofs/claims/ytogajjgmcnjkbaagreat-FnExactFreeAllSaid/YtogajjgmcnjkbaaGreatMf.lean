/- What valid frames, tables, machines and kernels are, and the contracts of the functions that ask it, the reference's and the program's. No condition. -/
import Derived.Test.YtogajjgmcnjkbaaGreatMe
namespace Go.Proofs.YtogajjgmcnjkbaaGreat.Ab
open Go.RowKit
set_option maxRecDepth 20000
set_option maxHeartbeats 4000000
theorem uw (f:aC) (hs:aC.sml f):af Tryz.prog 274 false [.val (some 2) (aC.enc .imm f)] .one [B (dn f)]:=by
 have hl:=hs.1.1
 have hu:f.Used.length≤1048576:=hs.2
 refine fO (n:=61) [] Tryz.func274 (by kernel_rfl) rfl (by kernel_rfl) (by rfl) (.inr ⟨trivial,trivial⟩) ?_
 repeat'((conv=>whnf);first|with_reducible (first|refine Lm ?_|refine Wm (by omega) ?_|refine Bf.D (fun hq=>?_) (fun hq=>?_)|refine Bf.N (fun hq=>?_) (fun hq=>?_)|refine Bn ?_|refine Fm rfl ?_)|refine Bt ?_|refine Bu ?_|refine Cl.mk (aP f.Cells.length 1 32) ?_)
 ·exact congrArg (fun z=>[B z]) (by symm;unfold dn;rw[decide_eq_false (by omega:¬(f.Used.length=f.Cells.length))];simp)
 rotate_left
 ·exact congrArg (fun z=>[B z]) (by symm;unfold dn;rw[decide_eq_false (by omega:¬(1≤f.Cells.length∧f.Cells.length≤32))];rfl)
 have h32:1≤f.Cells.length∧f.Cells.length≤32:=by omega
 have huc:f.Used.length=f.Cells.length:=by omega
 (conv=>whnf)
 refine Lp.mk (ι:=Nat) (fun i=>[(1,.hold .box (aC.enc .imm f)),(3,.hold .one [I (i:Nat)])]) (fun i=>i≤f.Cells.length∧((f.Cells.zip f.Used).take i).all (fun q=>j9 q.1 q.2)=true) (fun i=>f.Cells.length - i) 0 ?_ ⟨Nat.zero_le _,rfl⟩ fun i hi=>?_
 ·repeat'(first|exact trivial|rfl|refine And.intro ?_ ?_)
 ·obtain⟨hi,ha⟩:=hi
  by_cases hlt:i<f.Cells.length
  ·obtain⟨r,hr⟩ : ∃ r,f.Cells[i]? = some r:=⟨_,List.getElem?_eq_getElem hlt⟩
   obtain⟨u,hu'⟩ : ∃ u,f.Used[i]? = some u:=⟨_,List.getElem?_eq_getElem (by omega)⟩
   repeat'((conv=>whnf);first|with_reducible (first|refine Lm ?_|refine Wm (by omega) ?_|refine Ix.nat (aa hr) ?_|refine dT (by omega) (fun hq=>?_)|refine Bf.N (fun hq=>?_) (fun hq=>?_)|refine Bn ?_|refine Fm rfl ?_)|refine Bt ?_|refine Bu ?_)
   ·exact congrArg (fun z=>[B z]) (fX hr hu' (by unfold j9;rw[decide_eq_false (by omega)];rfl)).symm
   have hr16:r.length=16:=by omega
   (conv=>whnf)
   refine Lp.mk (ι:=Nat) (fun k=>[(1,.hold .box (aC.enc .imm f)),(3,.hold .one [I (i:Nat)]),(4,.hold .one [I (k:Nat)])]) (fun k=>k≤16∧(r.take k).all (ji u)=true) (fun k=>16 - k) 0 ?_ ⟨Nat.zero_le _,rfl⟩ fun k hk=>?_
   ·repeat'(first|exact trivial|rfl|refine And.intro ?_ ?_)
   ·obtain⟨hk,hak⟩:=hk
    by_cases hk16:k<16
    ·obtain⟨v,hv⟩ : ∃ v,r[k]? = some v:=⟨_,List.getElem?_eq_getElem (by omega)⟩
     cases u with
     | true=>
      repeat'((conv=>whnf);first|with_reducible (first|refine Lm ?_|refine Wm (by omega) ?_|refine Ix.nat (aa hr) ?_|refine Ix.nat (aa hu') ?_|refine Ix.nat (aa hv) ?_|refine dT (by omega) (fun hq=>?_)|refine Bf.D (fun hq=>?_) (fun hq=>?_)|refine Bf.N (fun hq=>?_) (fun hq=>?_)|refine Bn ?_|refine Fm rfl ?_)|refine Bt ?_|refine Bu ?_|refine Cl.mk (aP v 0 999) ?_)
      all_goals first
       | exact congrArg (fun z=>[B z]) (fX hr hu' (pw hv (by first|(unfold ji;rw[decide_eq_false (by omega)];rfl)|(unfold ji;rw[decide_eq_false (p:=v=0) (by omega)];simp)))).symm
       | ((conv=>whnf)
          refine Nx.mk (ι:=Nat) (k+1) ⟨(by omega),ce hv hak (by unfold ji;first|(rw[decide_eq_true (by omega)];rfl)|(rw[decide_eq_true (p:=0≤v∧v≤999) (by omega),decide_eq_true (p:=v=0) (by omega)];rfl))⟩ (by omega) ?_
          (repeat'(first|exact trivial|rfl|refine And.intro ?_ ?_)))
     | false=>
      repeat'((conv=>whnf);first|with_reducible (first|refine Lm ?_|refine Wm (by omega) ?_|refine Ix.nat (aa hr) ?_|refine Ix.nat (aa hu') ?_|refine Ix.nat (aa hv) ?_|refine dT (by omega) (fun hq=>?_)|refine Bf.D (fun hq=>?_) (fun hq=>?_)|refine Bf.N (fun hq=>?_) (fun hq=>?_)|refine Bn ?_|refine Fm rfl ?_)|refine Bt ?_|refine Bu ?_|refine Cl.mk (aP v 0 999) ?_)
      all_goals first
       | exact congrArg (fun z=>[B z]) (fX hr hu' (pw hv (by first|(unfold ji;rw[decide_eq_false (by omega)];rfl)|(unfold ji;rw[decide_eq_false (p:=v=0) (by omega)];simp)))).symm
       | ((conv=>whnf)
          refine Nx.mk (ι:=Nat) (k+1) ⟨(by omega),ce hv hak (by unfold ji;first|(rw[decide_eq_true (by omega)];rfl)|(rw[decide_eq_true (p:=0≤v∧v≤999) (by omega),decide_eq_true (p:=v=0) (by omega)];rfl))⟩ (by omega) ?_
          (repeat'(first|exact trivial|rfl|refine And.intro ?_ ?_)))
    ·repeat'((conv=>whnf);first|with_reducible (first|refine Lm ?_|refine Wm (by omega) ?_|refine dF (by omega) (fun hq=>?_)|refine Bn ?_|refine Fm rfl ?_)|refine Bt ?_|refine Bu ?_)
     (conv=>whnf)
     refine Nx.mk (i+1) ⟨by omega,ce (rC hr hu') ha (by unfold j9;rw[fk (by omega) hak];simp[hr16])⟩ (by omega) ?_
     repeat'(first|exact trivial|rfl|refine And.intro ?_ ?_)
  ·repeat'((conv=>whnf);first|with_reducible (first|refine Lm ?_|refine Wm (by omega) ?_|refine dF (by omega) (fun hq=>?_)|refine Bn ?_|refine Fm rfl ?_)|refine Bt ?_|refine Bu ?_)
   exact congrArg (fun z=>[B z]) (by symm;unfold dn;rw[fk (by rw[List.length_zip];omega) ha];simp[h32,huc])
theorem uM (f:aC) (hs:aC.sml f):af Tryz.prog 197 false [.val (some 2) (aC.enc .imm f)] .one [B (dn f)]:=by
 have hl:=hs.1.1
 have hu:f.Used.length≤1048576:=hs.2
 refine fO (n:=55) [] Tryz.func197 (by kernel_rfl) rfl (by kernel_rfl) (by rfl) (.inr ⟨trivial,trivial⟩) ?_
 repeat'((conv=>whnf);first|with_reducible (first|refine Lm ?_|refine Wm (by omega) ?_|refine Bf.D (fun hq=>?_) (fun hq=>?_)|refine Bf.N (fun hq=>?_) (fun hq=>?_)|refine Bn ?_|refine Fm rfl ?_)|refine Bt ?_|refine Bu ?_|refine Cl.mk (aH f.Cells.length 1 32) ?_)
 ·exact congrArg (fun z=>[B z]) (by symm;unfold dn;rw[decide_eq_false (by omega:¬(f.Used.length=f.Cells.length))];simp)
 rotate_left
 ·exact congrArg (fun z=>[B z]) (by symm;unfold dn;rw[decide_eq_false (by omega:¬(1≤f.Cells.length∧f.Cells.length≤32))];rfl)
 have h32:1≤f.Cells.length∧f.Cells.length≤32:=by omega
 have huc:f.Used.length=f.Cells.length:=by omega
 (conv=>whnf)
 refine Lp.mk (ι:=Nat) (fun i=>[(1,.hold .box (aC.enc .imm f)),(22,.hold .one (d5 .imm f.Cells)),(23,.hold .one [I (f.Cells.length)]),(24,.hold .one [I ((i:Nat):Int)])]) (fun i=>i≤f.Cells.length∧((f.Cells.zip f.Used).take i).all (fun q=>j9 q.1 q.2)=true) (fun i=>f.Cells.length - i) (0) ?_ (⟨Nat.zero_le _,rfl⟩) fun i hi=>?_
 ·repeat'(first|exact trivial|rfl|refine And.intro ?_ ?_)
 obtain⟨hi,ha⟩:=hi
 by_cases hlt:i<f.Cells.length
 ·obtain⟨r,hr⟩ : ∃ r,f.Cells[i]? = some r:=⟨_,List.getElem?_eq_getElem hlt⟩
  obtain⟨u,hu'⟩ : ∃ u,f.Used[i]? = some u:=⟨_,List.getElem?_eq_getElem (by omega)⟩
  have hrl:r.length≤1048576:=hs.1.2 r (List.mem_of_getElem? hr)
  repeat'((conv=>whnf);first|with_reducible (first|refine Lm ?_|refine Wm (by omega) ?_|refine Ix.nat (aa hr) ?_|refine dT (by omega) (fun hq=>?_)|refine Bf.N (fun hq=>?_) (fun hq=>?_)|refine Bn ?_|refine Fm rfl ?_)|refine Bt ?_|refine Bu ?_)
  ·exact congrArg (fun z=>[B z]) (fX hr hu' (by unfold j9;rw[decide_eq_false (by omega)];rfl)).symm
  have hr16:r.length=16:=by omega
  (conv=>whnf)
  refine Lp.mk (ι:=Nat) (fun k=>[(1,.hold .box (aC.enc .imm f)),(3,.hold .one [I ((i:Nat):Int)]),(22,.hold .one (d5 .imm f.Cells)),(23,.hold .one [I (f.Cells.length)]),(24,.hold .one [I ((i:Nat):Int)]),(32,.hold .one (aI .imm r)),(33,.hold .one [I (r.length)]),(34,.hold .one [I ((k:Nat):Int)])]) (fun k=>k≤r.length∧(r.take k).all (ji u)=true) (fun k=>r.length - k) (0) ?_ (⟨Nat.zero_le _,rfl⟩) fun k hk=>?_
  ·repeat'(first|exact trivial|rfl|refine And.intro ?_ ?_)
  obtain⟨hk,hak⟩:=hk
  by_cases hk16:k<r.length
  ·obtain⟨v,hv⟩ : ∃ v,r[k]? = some v:=⟨_,List.getElem?_eq_getElem (by omega)⟩
   cases u with
   | true=>
    repeat'((conv=>whnf);first|with_reducible (first|refine Lm ?_|refine Wm (by omega) ?_|refine Ix.nat (aa hr) ?_|refine Ix.nat (aa hu') ?_|refine Ix.nat (aa hv) ?_|refine dT (by omega) (fun hq=>?_)|refine Bf.D (fun hq=>?_) (fun hq=>?_)|refine Bf.N (fun hq=>?_) (fun hq=>?_)|refine Bn ?_|refine Fm rfl ?_)|refine Bt ?_|refine Bu ?_|refine Cl.mk (aH v 0 999) ?_)
    all_goals first
     | exact congrArg (fun z=>[B z]) (fX hr hu' (pw hv (by unfold ji;grind))).symm
     | ((conv=>whnf)
        refine Nx.mk (ι:=Nat) (k+1) ⟨(by omega),ce hv hak (by unfold ji;grind)⟩ (by omega) ?_
        (repeat'(first|exact trivial|rfl|refine And.intro ?_ ?_)))
   | false=>
    repeat'((conv=>whnf);first|with_reducible (first|refine Lm ?_|refine Wm (by omega) ?_|refine Ix.nat (aa hr) ?_|refine Ix.nat (aa hu') ?_|refine Ix.nat (aa hv) ?_|refine dT (by omega) (fun hq=>?_)|refine Bf.D (fun hq=>?_) (fun hq=>?_)|refine Bf.N (fun hq=>?_) (fun hq=>?_)|refine Bn ?_|refine Fm rfl ?_)|refine Bt ?_|refine Bu ?_|refine Cl.mk (aH v 0 999) ?_)
    all_goals first
     | exact congrArg (fun z=>[B z]) (fX hr hu' (pw hv (by unfold ji;grind))).symm
     | ((conv=>whnf)
        refine Nx.mk (ι:=Nat) (k+1) ⟨(by omega),ce hv hak (by unfold ji;grind)⟩ (by omega) ?_
        (repeat'(first|exact trivial|rfl|refine And.intro ?_ ?_)))
  ·repeat'((conv=>whnf);first|with_reducible (first|refine Lm ?_|refine Wm (by omega) ?_|refine dF (by omega) (fun hq=>?_)|refine Bn ?_|refine Fm rfl ?_)|refine Bt ?_|refine Bu ?_)
   (conv=>whnf)
   refine Nx.mk (i+1) ⟨by omega,ce (rC hr hu') ha (by unfold j9;rw[fk (by omega) hak];simp[hr16])⟩ (by omega) ?_
   repeat'(first|exact trivial|rfl|refine And.intro ?_ ?_)
 ·repeat'((conv=>whnf);first|with_reducible (first|refine Lm ?_|refine Wm (by omega) ?_|refine dF (by omega) (fun hq=>?_)|refine Bn ?_|refine Fm rfl ?_)|refine Bt ?_|refine Bu ?_)
  exact congrArg (fun z=>[B z]) (by symm;unfold dn;rw[fk (by rw[List.length_zip];omega) ha];simp[h32,huc])
theorem wR (t:aB) (fr:Int) (hs:aB.sml t):af Tryz.prog 289 false [.val (some 1) (aB.enc .imm t),.val none [I fr]] .one [B (fm t fr)]:=by
 have hl:=hs.1
 refine fO (n:=54) [] Tryz.func289 (by kernel_rfl) rfl (by kernel_rfl) (by rfl) (.inr ⟨trivial,trivial⟩) ?_
 repeat'((conv=>whnf);first|with_reducible (first|refine Lm ?_|refine Wm (by omega) ?_|refine Bn ?_|refine Fm rfl ?_)|refine Bt ?_|refine Bu ?_)
 (conv=>whnf)
 refine Lp.mk (ι:=Nat) (fun i=>[(1,.hold .one [I (fr)]),(2,.hold .box (aB.enc .imm t)),(5,.hold .one [I ((i:Nat):Int)])]) (fun i=>i≤t.Entries.length∧cD i (fun j=>sF fr (nth t.Entries j))=true) (fun i=>t.Entries.length - i) 0 ?_ ⟨Nat.zero_le _,rfl⟩ fun i hi=>?_
 ·repeat'(first|exact trivial|rfl|refine And.intro ?_ ?_)
 obtain⟨hi,ai⟩:=hi
 by_cases li:i<t.Entries.length
 ·have hx:=au li
  repeat'((conv=>whnf);first|with_reducible (first|refine Lm ?_|refine Wm (by omega) ?_|refine Ix.nat (aa hx) ?_|refine dT (by omega) (fun hq=>?_)|refine Bf.D (fun hq=>?_) (fun hq=>?_)|refine Bf.N (fun hq=>?_) (fun hq=>?_)|refine Bf.E (fun hq=>?_) (fun hq=>?_)|refine Bn ?_|refine Fm rfl ?_)|refine Bt ?_|refine Bu ?_|refine Cl.mk (aP _ 0 2) ?_)
  all_goals first
   | exact congrArg (fun z=>[B z]) ((by symm;unfold fm;rw[bN li (decide_eq_false (by grind))];rfl))
   | ((conv=>whnf);refine Nx.mk (i+1) ⟨by omega,b6 ai (decide_eq_true (by grind))⟩ (by omega) ?_;(repeat'(first|exact trivial|rfl|refine And.intro ?_ ?_)))
 ·repeat'((conv=>whnf);first|with_reducible (first|refine Lm ?_|refine Wm (by omega) ?_|refine dF (by omega) (fun hq=>?_)|refine Bn ?_|refine Fm rfl ?_)|refine Bt ?_|refine Bu ?_|refine Cl.mk (aP _ 1 32) ?_)
  obtain rfl:i=t.Entries.length:=by omega
  exact congrArg (fun z=>[B z]) ((by unfold fm;rw[ai,Bool.true_and];exact decide_eq_decide.2 (by omega)))
theorem wT (t:aB) (fr:Int) (hs:aB.sml t):af Tryz.prog 303 false [.val (some 1) (aB.enc .imm t),.val none [I fr]] .one [B (fm t fr)]:=by
 have hl:=hs.1
 refine fO (n:=49) [] Tryz.func303 (by kernel_rfl) rfl (by kernel_rfl) (by rfl) (.inr ⟨trivial,trivial⟩) ?_
 repeat'((conv=>whnf);first|with_reducible (first|refine Lm ?_|refine Wm (by omega) ?_|refine Bn ?_|refine Fm rfl ?_)|refine Bt ?_|refine Bu ?_)
 (conv=>whnf)
 refine Lp.mk (ι:=Nat) (fun i=>[(1,.hold .one [I (fr)]),(2,.hold .box (aB.enc .imm t)),(8,.hold .one (d6 .imm t.Entries)),(9,.hold .one [I (t.Entries.length)]),(10,.hold .one [I ((i:Nat):Int)])]) (fun i=>i≤t.Entries.length∧cD i (fun j=>sF fr (nth t.Entries j))=true) (fun i=>t.Entries.length - i) 0 ?_ ⟨Nat.zero_le _,rfl⟩ fun i hi=>?_
 ·repeat'(first|exact trivial|rfl|refine And.intro ?_ ?_)
 obtain⟨hi,ai⟩:=hi
 by_cases li:i<t.Entries.length
 ·have hx:=au li
  repeat'((conv=>whnf);first|with_reducible (first|refine Lm ?_|refine Wm (by omega) ?_|refine Ix.nat (aa hx) ?_|refine dT (by omega) (fun hq=>?_)|refine Bf.D (fun hq=>?_) (fun hq=>?_)|refine Bf.N (fun hq=>?_) (fun hq=>?_)|refine Bf.E (fun hq=>?_) (fun hq=>?_)|refine Bn ?_|refine Fm rfl ?_)|refine Bt ?_|refine Bu ?_|refine Cl.mk (aH _ 0 2) ?_)
  all_goals first
   | exact congrArg (fun z=>[B z]) ((by symm;unfold fm;rw[bN li (decide_eq_false (by grind))];rfl))
   | ((conv=>whnf);refine Nx.mk (i+1) ⟨by omega,b6 ai (decide_eq_true (by grind))⟩ (by omega) ?_;(repeat'(first|exact trivial|rfl|refine And.intro ?_ ?_)))
 ·repeat'((conv=>whnf);first|with_reducible (first|refine Lm ?_|refine Wm (by omega) ?_|refine dF (by omega) (fun hq=>?_)|refine Bn ?_|refine Fm rfl ?_)|refine Bt ?_|refine Bu ?_|refine Cl.mk (aH _ 1 32) ?_)
  obtain rfl:i=t.Entries.length:=by omega
  exact congrArg (fun z=>[B z]) ((by unfold fm;rw[ai,Bool.true_and];exact decide_eq_decide.2 (by omega)))
end Go.Proofs.YtogajjgmcnjkbaaGreat.Ab
namespace Go.Proofs.YtogajjgmcnjkbaaGreat.Ab
open Go.RowKit
set_option maxRecDepth 20000
set_option maxHeartbeats 4000000
theorem iQ (t:aB) (f:Int) (hs:aB.sml t):af Tryz.prog 290 false [.val (some 1) (aB.enc .imm t),.val none [I f]] .one (aI .own (cj t f)):=by
 have hl:=hs.1
 refine fO (n:=37) [] Tryz.func290 (by kernel_rfl) rfl (by kernel_rfl) (by rfl) (.inr (bZ _)) ?_
 repeat'((conv=>whnf);first|with_reducible (first|refine Lm ?_|refine Wm (by omega) ?_|refine Bn ?_|refine Fm rfl ?_)|refine Bt ?_|refine Bu ?_)
 (conv=>whnf)
 refine Lp.mk (ι:=Nat) (fun i=>[(1,.hold .one [I (f)]),(2,.hold .box (aB.enc .imm t)),(5,.hold .one (aI .own (jq t f i))),(6,.hold .one [I ((i:Nat):Int)])]) (fun i=>i≤t.Entries.length) (fun i=>t.Entries.length - i) (0) ?_ (Nat.zero_le _) fun i hi=>?_
 ·repeat'(first|exact trivial|rfl|refine And.intro ?_ ?_)
 have hpl:=qb t f i
 by_cases li:i<t.Entries.length
 ·have hx:=au li
  repeat'((conv=>whnf);first|with_reducible (first|refine Lm ?_|refine Wm (by omega) ?_|refine Ix.nat (aa hx) ?_|refine dT (by omega) (fun hq=>?_)|refine Bf.D (fun hq=>?_) (fun hq=>?_)|refine Bf.N (fun hq=>?_) (fun hq=>?_)|refine Bf.E (fun hq=>?_) (fun hq=>?_)|refine Bn ?_|refine Fm rfl ?_)|refine Bt ?_|refine Bu ?_|refine Ap.mk dl (fun r hr=>by rw[List.mem_singleton.1 hr];rfl) (by simp[aQ,dU]) (by simp;omega) (by simp only[List.length_map];exact tO (by simp;omega) (by decide)) rfl ?_)
  all_goals first
   |(have hon:G6 t f i=true:=decide_eq_true (by grind)
     (conv=>whnf)
     refine Nx.mk (i+1) (by omega) (by omega) ?_
     rw[vA hon]
     (repeat'(first|exact trivial|rfl|exact And.intro rfl (And.intro (congrArg (C.s dy.own) (by simp[rI])) trivial)|refine And.intro ?_ ?_)))
   |(have hon:G6 t f i=false:=decide_eq_false (by grind)
     (conv=>whnf)
     refine Nx.mk (i+1) (by omega) (by omega) ?_
     rw[xN hon]
     (repeat'(first|exact trivial|rfl|refine And.intro ?_ ?_)))
 ·repeat'((conv=>whnf);first|with_reducible (first|refine Lm ?_|refine Wm (by omega) ?_|refine dF (by omega) (fun hq=>?_)|refine Bn ?_|refine Fm rfl ?_)|refine Bt ?_|refine Bu ?_)
  obtain rfl:i=t.Entries.length:=by omega
  rfl
theorem iM (t:aB) (f:Int) (hs:aB.sml t):af Tryz.prog 304 false [.val (some 1) (aB.enc .imm t),.val none [I f]] .one (aI .own (cj t f)):=by
 have hl:=hs.1
 refine fO (n:=32) [] Tryz.func304 (by kernel_rfl) rfl (by kernel_rfl) (by rfl) (.inr (bZ _)) ?_
 repeat'((conv=>whnf);first|with_reducible (first|refine Lm ?_|refine Wm (by omega) ?_|refine Bn ?_|refine Fm rfl ?_)|refine Bt ?_|refine Bu ?_)
 (conv=>whnf)
 refine Lp.mk (ι:=Nat) (fun i=>[(1,.hold .one [I (f)]),(5,.hold .one (aI .own (jq t f i))),(10,.hold .one (d6 .imm t.Entries)),(11,.hold .one [I (t.Entries.length)]),(12,.hold .one [I ((i:Nat):Int)])]) (fun i=>i≤t.Entries.length) (fun i=>t.Entries.length - i) (0) ?_ (Nat.zero_le _) fun i hi=>?_
 ·repeat'(first|exact trivial|rfl|refine And.intro ?_ ?_)
 have hpl:=qb t f i
 by_cases li:i<t.Entries.length
 ·have hx:=au li
  repeat'((conv=>whnf);first|with_reducible (first|refine Lm ?_|refine Wm (by omega) ?_|refine Ix.nat (aa hx) ?_|refine dT (by omega) (fun hq=>?_)|refine Bf.D (fun hq=>?_) (fun hq=>?_)|refine Bf.N (fun hq=>?_) (fun hq=>?_)|refine Bf.E (fun hq=>?_) (fun hq=>?_)|refine Bn ?_|refine Fm rfl ?_)|refine Bt ?_|refine Bu ?_|refine Ap.mk dl (fun r hr=>by rw[List.mem_singleton.1 hr];rfl) (by simp[aQ,dU]) (by simp;omega) (by simp only[List.length_map];exact tO (by simp;omega) (by decide)) rfl ?_)
  all_goals first
   |(have hon:G6 t f i=true:=decide_eq_true (by grind)
     (conv=>whnf)
     refine Nx.mk (i+1) (by omega) (by omega) ?_
     rw[vA hon]
     (repeat'(first|exact trivial|rfl|exact And.intro rfl (And.intro (congrArg (C.s dy.own) (by simp[rI])) trivial)|refine And.intro ?_ ?_)))
   |(have hon:G6 t f i=false:=decide_eq_false (by grind)
     (conv=>whnf)
     refine Nx.mk (i+1) (by omega) (by omega) ?_
     rw[xN hon]
     (repeat'(first|exact trivial|rfl|refine And.intro ?_ ?_)))
 ·repeat'((conv=>whnf);first|with_reducible (first|refine Lm ?_|refine Wm (by omega) ?_|refine dF (by omega) (fun hq=>?_)|refine Bn ?_|refine Fm rfl ?_)|refine Bt ?_|refine Bu ?_)
  obtain rfl:i=t.Entries.length:=by omega
  rfl
theorem jn (t:aB) (p:Int) (hs:aB.sml t):af Tryz.prog 169 false [.val (some 1) (aB.enc .imm t),.val none [I p]] .agg (aE.enc .own (aF t p)):=by
 have hl:=hs.1
 refine fO (n:=18) [] Tryz.func169 (by kernel_rfl) rfl (by kernel_rfl) (by rfl) (.inr (aE.enc_fr _)) ?_
 by_cases hp:0≤p∧p<t.Entries.length
 ·have hx:=au (xs:=t.Entries) (i:=p.toNat) (by omega)
  repeat'((conv=>whnf);first|with_reducible (first|refine Lm ?_|refine Wm (by omega) ?_|refine dT (by omega) (fun hq=>?_)|refine dF (by omega) (fun hq=>?_)|refine Bn ?_|refine Fm rfl ?_)|refine Bt ?_|refine Bu ?_|refine Cl.mk (aP _ 0 _) ?_|refine Ix.mk hp.1 (aa hx) ?_)
  all_goals(unfold aF;rw[if_pos hp];rfl)
 ·repeat'((conv=>whnf);first|with_reducible (first|refine Lm ?_|refine Wm (by omega) ?_|refine dT (by omega) (fun hq=>?_)|refine dF (by omega) (fun hq=>?_)|refine Bn ?_|refine Fm rfl ?_)|refine Bt ?_|refine Bu ?_|refine Cl.mk (aP _ 0 _) ?_)
  all_goals(unfold aF;rw[if_neg hp];rfl)
theorem eQ (t:aB) (p:Int) (hs:aB.sml t):af Tryz.prog 183 false [.val (some 1) (aB.enc .imm t),.val none [I p]] .agg (aE.enc .own (aF t p)):=by
 have hl:=hs.1
 refine fO (n:=18) [] Tryz.func183 (by kernel_rfl) rfl (by kernel_rfl) (by rfl) (.inr (aE.enc_fr _)) ?_
 by_cases hp:0≤p∧p<t.Entries.length
 ·have hx:=au (xs:=t.Entries) (i:=p.toNat) (by omega)
  repeat'((conv=>whnf);first|with_reducible (first|refine Lm ?_|refine Wm (by omega) ?_|refine dT (by omega) (fun hq=>?_)|refine dF (by omega) (fun hq=>?_)|refine Bn ?_|refine Fm rfl ?_)|refine Bt ?_|refine Bu ?_|refine Cl.mk (aH _ 0 _) ?_|refine Ix.mk hp.1 (aa hx) ?_)
  all_goals(unfold aF;rw[if_pos hp];rfl)
 ·repeat'((conv=>whnf);first|with_reducible (first|refine Lm ?_|refine Wm (by omega) ?_|refine dT (by omega) (fun hq=>?_)|refine dF (by omega) (fun hq=>?_)|refine Bn ?_|refine Fm rfl ?_)|refine Bt ?_|refine Bu ?_|refine Cl.mk (aH _ 0 _) ?_)
  all_goals(unfold aF;rw[if_neg hp];rfl)
theorem od (t:aB) (f:Int):(cj t f).length≤t.Entries.length:=qb ..
theorem rZ (m:aA) (hs:aA.sml m):af Tryz.prog 201 false [.val (some 3) (aA.enc .imm m)] .one [B (d3 m)]:=by
 have hu:m.Frames.Used.length≤1048576:=hs.1.2
 have hfc:m.Frames.Cells.length≤1048576:=hs.1.1.1
 have hf:=uw m.Frames hs.1
 have ht:=wR m.Table m.Frames.Cells.length hs.2
 cases h1:dn m.Frames with
 | false=>
  rw[h1]at hf
  refine fO (n:=39) [(6,13,[26,27,28,29,30,31,32,33,34,35,36,37,38])] Tryz.func201 (by kernel_rfl) rfl (by kernel_rfl) (by rfl) (.inr ⟨trivial,trivial⟩) ?_
  repeat'((conv=>whnf);first|with_reducible (first|refine Lm ?_|refine Wm (by omega) ?_|refine Bn ?_|refine Fm rfl ?_)|refine Bt ?_|refine Bu ?_|refine Cl.mk hf ?_)
  exact congrArg (fun z=>[B z]) ((by unfold d3;rw[h1];rfl))
 | true=>
  have hlen:=wV h1
  rw[h1]at hf
  cases h2:fm m.Table m.Frames.Used.length with
  | false=>
   rw[show(m.Frames.Cells.length:Int)=m.Frames.Used.length by omega,h2]at ht
   refine fO (n:=39) [(6,13,[26,27,28,29,30,31,32,33,34,35,36,37,38])] Tryz.func201 (by kernel_rfl) rfl (by kernel_rfl) (by rfl) (.inr ⟨trivial,trivial⟩) ?_
   repeat'((conv=>whnf);first|with_reducible (first|refine Lm ?_|refine Wm (by omega) ?_|refine Bn ?_|refine Fm rfl ?_)|refine Bt ?_|refine Bu ?_|refine Cl.mk hf ?_|refine Cl.mk ((show(m.Frames.Cells.length:Int)=m.Frames.Used.length by omega) ▸ ht) ?_)
   exact congrArg (fun z=>[B z]) ((by unfold d3;rw[h1,h2];rfl))
  | true=>
   rw[show(m.Frames.Cells.length:Int)=m.Frames.Used.length by omega,h2]at ht
   refine fO (n:=39) [(6,13,[26,27,28,29,30,31,32,33,34,35,36,37,38])] Tryz.func201 (by kernel_rfl) rfl (by kernel_rfl) (by rfl) (.inr ⟨trivial,trivial⟩) ?_
   repeat'((conv=>whnf);first|with_reducible (first|refine Lm ?_|refine Wm (by omega) ?_|refine Bn ?_|refine Fm rfl ?_)|refine Bt ?_|refine Bu ?_|refine Cl.mk hf ?_|refine Cl.mk ((show(m.Frames.Cells.length:Int)=m.Frames.Used.length by omega) ▸ ht) ?_)
   (conv=>whnf)
   refine Lp.mk (ι:=Nat) (fun i=>[(1,.hold .box (aA.enc .imm m)),(3,.hold .one [I ((i:Nat):Int)])]) (fun i=>i≤m.Frames.Used.length∧cD i (mf m)=true) (fun i=>m.Frames.Used.length - i) 0 ?_ ⟨Nat.zero_le _,rfl⟩ fun i hi=>?_
   ·repeat'(first|exact trivial|rfl|refine And.intro ?_ ?_)
   obtain⟨hi,ai⟩:=hi
   by_cases li:i<m.Frames.Used.length
   ·have hx:=au li
    have hpl:=od m.Table (i:Nat)
    repeat'((conv=>whnf);first|with_reducible (first|refine Lm ?_|refine Wm (by omega) ?_|refine Ix.nat (aa hx) ?_|refine dT (by omega) (fun hq=>?_)|refine Bf.NB (fun hq=>?_) (fun hq=>?_)|refine Bn ?_|refine Fm rfl ?_)|refine Bt ?_|refine Bu ?_|refine Cl.mk (iQ m.Table (i:Nat) hs.2) ?_)
    all_goals first
     | exact congrArg (fun z=>[B z]) ((by symm;unfold d3;rw[h1,h2,bN li (by unfold mf;grind)];rfl))
     | ((conv=>whnf);refine Nx.mk (i+1) ⟨by omega,b6 ai (by unfold mf;grind)⟩ (by omega) ?_;(repeat'(first|exact trivial|rfl|refine And.intro ?_ ?_)))
   ·repeat'((conv=>whnf);first|with_reducible (first|refine Lm ?_|refine Wm (by omega) ?_|refine dF (by omega) (fun hq=>?_)|refine Bn ?_|refine Fm rfl ?_)|refine Bt ?_|refine Bu ?_)
    obtain rfl:i=m.Frames.Used.length:=by omega
    exact congrArg (fun z=>[B z]) ((by unfold d3;rw[h1,h2,ai];rfl))
end Go.Proofs.YtogajjgmcnjkbaaGreat.Ab
namespace Go.Proofs.YtogajjgmcnjkbaaGreat.Ab
open Go.RowKit
set_option maxRecDepth 20000
set_option maxHeartbeats 4000000
theorem tL (m:aA) (hs:aA.sml m):af Tryz.prog 224 false [.val (some 3) (aA.enc .imm m)] .one [B (d3 m)]:=by
 have hu:m.Frames.Used.length≤1048576:=hs.1.2
 have hf:=uM m.Frames hs.1
 have ht:=wT m.Table m.Frames.Used.length hs.2
 cases h1:dn m.Frames with
 | false=>
  rw[h1]at hf
  refine fO (n:=37) [] Tryz.func224 (by kernel_rfl) rfl (by kernel_rfl) (by rfl) (.inr ⟨trivial,trivial⟩) ?_
  repeat'((conv=>whnf);first|with_reducible (first|refine Lm ?_|refine Wm (by omega) ?_|refine Bn ?_|refine Fm rfl ?_)|refine Bt ?_|refine Bu ?_|refine Cl.mk hf ?_)
  exact congrArg (fun z=>[B z]) ((by unfold d3;rw[h1];rfl))
 | true=>
  rw[h1]at hf
  cases h2:fm m.Table m.Frames.Used.length with
  | false=>
   rw[h2]at ht
   refine fO (n:=37) [] Tryz.func224 (by kernel_rfl) rfl (by kernel_rfl) (by rfl) (.inr ⟨trivial,trivial⟩) ?_
   repeat'((conv=>whnf);first|with_reducible (first|refine Lm ?_|refine Wm (by omega) ?_|refine Bn ?_|refine Fm rfl ?_)|refine Bt ?_|refine Bu ?_|refine Cl.mk hf ?_|refine Cl.mk ht ?_)
   exact congrArg (fun z=>[B z]) ((by unfold d3;rw[h1,h2];rfl))
  | true=>
   rw[h2]at ht
   refine fO (n:=37) [] Tryz.func224 (by kernel_rfl) rfl (by kernel_rfl) (by rfl) (.inr ⟨trivial,trivial⟩) ?_
   repeat'((conv=>whnf);first|with_reducible (first|refine Lm ?_|refine Wm (by omega) ?_|refine Bn ?_|refine Fm rfl ?_)|refine Bt ?_|refine Bu ?_|refine Cl.mk hf ?_|refine Cl.mk ht ?_)
   (conv=>whnf)
   refine Lp.mk (ι:=Nat) (fun i=>[(1,.hold .box (aA.enc .imm m)),(21,.hold .one (fR .imm m.Frames.Used)),(22,.hold .one [I (m.Frames.Used.length)]),(23,.hold .one [I ((i:Nat):Int)])]) (fun i=>i≤m.Frames.Used.length∧cD i (mf m)=true) (fun i=>m.Frames.Used.length - i) 0 ?_ ⟨Nat.zero_le _,rfl⟩ fun i hi=>?_
   ·repeat'(first|exact trivial|rfl|refine And.intro ?_ ?_)
   obtain⟨hi,ai⟩:=hi
   by_cases li:i<m.Frames.Used.length
   ·have hx:=au li
    have hpl:=od m.Table (i:Nat)
    repeat'((conv=>whnf);first|with_reducible (first|refine Lm ?_|refine Wm (by omega) ?_|refine Ix.nat (aa hx) ?_|refine dT (by omega) (fun hq=>?_)|refine Bf.NB (fun hq=>?_) (fun hq=>?_)|refine Bn ?_|refine Fm rfl ?_)|refine Bt ?_|refine Bu ?_|refine Cl.mk (iM m.Table (i:Nat) hs.2) ?_)
    all_goals first
     | exact congrArg (fun z=>[B z]) ((by symm;unfold d3;rw[h1,h2,bN li (by unfold mf;grind)];rfl))
     | ((conv=>whnf);refine Nx.mk (i+1) ⟨by omega,b6 ai (by unfold mf;grind)⟩ (by omega) ?_;(repeat'(first|exact trivial|rfl|refine And.intro ?_ ?_)))
   ·repeat'((conv=>whnf);first|with_reducible (first|refine Lm ?_|refine Wm (by omega) ?_|refine dF (by omega) (fun hq=>?_)|refine Bn ?_|refine Fm rfl ?_)|refine Bt ?_|refine Bu ?_)
    obtain rfl:i=m.Frames.Used.length:=by omega
    exact congrArg (fun z=>[B z]) ((by unfold d3;rw[h1,h2,ai];rfl))
theorem nC (k:ao) (hs:ao.sml k):af Tryz.prog 89 false [.val (some 5) (ao.enc .imm k)] .one [B (bf k)]:=by
 have hr:k.Refuse.length≤1048576:=hs.2
 have hm:=rZ k.Machine hs.1
 refine fO (n:=31) [] Tryz.func89 (by kernel_rfl) rfl (by kernel_rfl) (by rfl) (.inr ⟨trivial,trivial⟩) ?_
 repeat'((conv=>whnf);first|with_reducible (first|refine Lm ?_|refine Wm (by omega) ?_|refine Bn ?_|refine Fm rfl ?_)|refine Bt ?_|refine Bu ?_)
 (conv=>whnf)
 refine Lp.mk (ι:=Nat) (fun i=>[(1,.hold .box (ao.enc .imm k)),(3,.hold .one [I ((i:Nat):Int)])]) (fun i=>i≤k.Refuse.length∧cD i (fun j=>decide (0≤nth k.Refuse j))=true) (fun i=>k.Refuse.length - i) 0 ?_ ⟨Nat.zero_le _,rfl⟩ fun i hi=>?_
 ·repeat'(first|exact trivial|rfl|refine And.intro ?_ ?_)
 obtain⟨hi,ai⟩:=hi
 by_cases li:i<k.Refuse.length
 ·have hx:=au li
  repeat'((conv=>whnf);first|with_reducible (first|refine Lm ?_|refine Wm (by omega) ?_|refine Ix.nat (aa hx) ?_|refine dT (by omega) (fun hq=>?_)|refine Bf.D (fun hq=>?_) (fun hq=>?_)|refine Bn ?_|refine Fm rfl ?_)|refine Bt ?_|refine Bu ?_)
  all_goals first
   | exact congrArg (fun z=>[B z]) ((by symm;unfold bf;rw[bN li (decide_eq_false (by omega))];rfl))
   | ((conv=>whnf);refine Nx.mk (i+1) ⟨by omega,b6 ai (decide_eq_true (by omega))⟩ (by omega) ?_;(repeat'(first|exact trivial|rfl|refine And.intro ?_ ?_)))
 ·obtain rfl:i=k.Refuse.length:=by omega
  cases h1:d3 k.Machine with
  | false=>
   rw[h1]at hm
   repeat'((conv=>whnf);first|with_reducible (first|refine Lm ?_|refine Wm (by omega) ?_|refine dF (by omega) (fun hq=>?_)|refine Bn ?_|refine Fm rfl ?_)|refine Bt ?_|refine Bu ?_|refine Cl.mk hm ?_)
   all_goals exact congrArg (fun z=>[B z]) ((by unfold bf;rw[h1];simp))
  | true=>
   rw[h1]at hm
   repeat'((conv=>whnf);first|with_reducible (first|refine Lm ?_|refine Wm (by omega) ?_|refine dF (by omega) (fun hq=>?_)|refine Bf.D (fun hq=>?_) (fun hq=>?_)|refine Bn ?_|refine Fm rfl ?_)|refine Bt ?_|refine Bu ?_|refine Cl.mk hm ?_|refine Cl.mk (aP _ 0 100000) ?_)
   all_goals exact congrArg (fun z=>[B z]) ((by unfold bf;rw[h1,ai];simp only[Bool.true_and];first|exact decide_eq_decide.2 (by omega)|(symm;exact decide_eq_false (by omega))|(symm;exact decide_eq_true (by omega))))
theorem nI (k:ao) (hs:ao.sml k):af Tryz.prog 119 false [.val (some 5) (ao.enc .imm k)] .one [B (bf k)]:=by
 have hr:k.Refuse.length≤1048576:=hs.2
 have hm:=tL k.Machine hs.1
 refine fO (n:=29) [] Tryz.func119 (by kernel_rfl) rfl (by kernel_rfl) (by rfl) (.inr ⟨trivial,trivial⟩) ?_
 repeat'((conv=>whnf);first|with_reducible (first|refine Lm ?_|refine Wm (by omega) ?_|refine Bn ?_|refine Fm rfl ?_)|refine Bt ?_|refine Bu ?_)
 (conv=>whnf)
 refine Lp.mk (ι:=Nat) (fun i=>[(1,.hold .box (ao.enc .imm k)),(6,.hold .one (aI .imm k.Refuse)),(7,.hold .one [I (k.Refuse.length)]),(8,.hold .one [I ((i:Nat):Int)])]) (fun i=>i≤k.Refuse.length∧cD i (fun j=>decide (0≤nth k.Refuse j))=true) (fun i=>k.Refuse.length - i) 0 ?_ ⟨Nat.zero_le _,rfl⟩ fun i hi=>?_
 ·repeat'(first|exact trivial|rfl|refine And.intro ?_ ?_)
 obtain⟨hi,ai⟩:=hi
 by_cases li:i<k.Refuse.length
 ·have hx:=au li
  repeat'((conv=>whnf);first|with_reducible (first|refine Lm ?_|refine Wm (by omega) ?_|refine Ix.nat (aa hx) ?_|refine dT (by omega) (fun hq=>?_)|refine Bf.D (fun hq=>?_) (fun hq=>?_)|refine Bn ?_|refine Fm rfl ?_)|refine Bt ?_|refine Bu ?_)
  all_goals first
   | exact congrArg (fun z=>[B z]) ((by symm;unfold bf;rw[bN li (decide_eq_false (by omega))];rfl))
   | ((conv=>whnf);refine Nx.mk (i+1) ⟨by omega,b6 ai (decide_eq_true (by omega))⟩ (by omega) ?_;(repeat'(first|exact trivial|rfl|refine And.intro ?_ ?_)))
 ·obtain rfl:i=k.Refuse.length:=by omega
  repeat'((conv=>whnf);first|with_reducible (first|refine Lm ?_|refine Wm (by omega) ?_|refine dF (by omega) (fun hq=>?_)|refine Bf.D (fun hq=>?_) (fun hq=>?_)|refine Bn ?_|refine Fm rfl ?_)|refine Bt ?_|refine Bu ?_|refine Cl.mk hm ?_|refine Cl.mk (aH _ 0 100000) ?_)
  all_goals exact congrArg (fun z=>[B z]) ((by unfold bf;rw[ai];cases d3 k.Machine<;>simp only[Bool.true_and,Bool.false_and]<;>first|rfl|exact decide_eq_decide.2 (by omega)|(symm;exact decide_eq_false (by omega))|(symm;exact decide_eq_true (by omega))))
theorem sr (pages:Int) (r:al) (hp:0≤pages∧pages≤1048576):af Tryz.prog 202 false [.val none [I pages],.val (some 2) (al.enc .imm r)] .one [B (rangeIn pages r)]:=by
 refine fO (n:=18) [] Tryz.func202 (by kernel_rfl) rfl (by kernel_rfl) (by rfl) (.inr ⟨trivial,trivial⟩) ?_
 repeat'((conv=>whnf);first|with_reducible (first|refine Lm ?_|refine Wm (by omega) ?_|refine Bf.D (fun hq=>?_) (fun hq=>?_)|refine Bn ?_|refine Fm rfl ?_)|refine Bt ?_|refine Bu ?_|refine Cl.mk (aP _ 1 _) ?_|refine Cl.mk (aP _ 0 _) ?_)
 all_goals exact congrArg (fun z=>[B z]) ((by unfold rangeIn;first|(symm;exact decide_eq_false (by omega))|exact decide_eq_decide.2 (by omega)))
theorem rQ (pages:Int) (r:al) (hp:0≤pages∧pages≤1048576):af Tryz.prog 225 false [.val none [I pages],.val (some 2) (al.enc .imm r)] .one [B (rangeIn pages r)]:=by
 refine fO (n:=18) [] Tryz.func225 (by kernel_rfl) rfl (by kernel_rfl) (by rfl) (.inr ⟨trivial,trivial⟩) ?_
 repeat'((conv=>whnf);first|with_reducible (first|refine Lm ?_|refine Wm (by omega) ?_|refine Bf.D (fun hq=>?_) (fun hq=>?_)|refine Bn ?_|refine Fm rfl ?_)|refine Bt ?_|refine Bu ?_|refine Cl.mk (aH _ 1 _) ?_|refine Cl.mk (aH _ 0 _) ?_)
 all_goals exact congrArg (fun z=>[B z]) ((by unfold rangeIn;first|(symm;exact decide_eq_false (by omega))|exact decide_eq_decide.2 (by omega)))
theorem wG (k:Int):af Tryz.prog 292 false [.val none [I k]] .one [I (slots k)]:=by
 by_cases hk:0≤k∧k≤3
 ·obtain rfl|rfl|rfl|rfl:k=0∨k=1∨k=2∨k=3:=by omega
  all_goals
   refine fO (n:=9) [] Tryz.func292 (by kernel_rfl) rfl (by kernel_rfl) (by rfl) (.inr ⟨trivial,trivial⟩) ?_
   repeat'((conv=>whnf);first|with_reducible (first|refine Lm ?_|refine Wm (by omega) ?_|refine dT (by omega) (fun hq=>?_)|refine dF (by omega) (fun hq=>?_)|refine Bf.D (fun hq=>?_) (fun hq=>?_)|refine Bn ?_|refine Fm rfl ?_)|refine Bt ?_|refine Bu ?_|refine Cl.mk (aP _ 0 3) ?_|refine Cd.mk (by decide) ?_|refine Wr.mk rfl ?_|refine Ev.mk rfl ?_)
   exact congrArg (fun z=>[I z]) (by decide)
 ·refine fO (n:=9) [] Tryz.func292 (by kernel_rfl) rfl (by kernel_rfl) (by rfl) (.inr ⟨trivial,trivial⟩) ?_
  repeat'((conv=>whnf);first|with_reducible (first|refine Lm ?_|refine Wm (by omega) ?_|refine dT (by omega) (fun hq=>?_)|refine dF (by omega) (fun hq=>?_)|refine Bf.D (fun hq=>?_) (fun hq=>?_)|refine Bn ?_|refine Fm rfl ?_)|refine Bt ?_|refine Bu ?_|refine Cl.mk (aP _ 0 3) ?_)
  exact congrArg (fun z=>[I z]) (by unfold slots;rw[if_neg (by omega),if_neg (by omega),if_neg (by omega),if_neg (by omega)])
theorem gp (k:Int):af Tryz.prog 306 false [.val none [I k]] .one [I (slots k)]:=by
 by_cases hk:0≤k∧k≤3
 ·obtain rfl|rfl|rfl|rfl:k=0∨k=1∨k=2∨k=3:=by omega
  all_goals
   refine fO (n:=9) [] Tryz.func306 (by kernel_rfl) rfl (by kernel_rfl) (by rfl) (.inr ⟨trivial,trivial⟩) ?_
   repeat'((conv=>whnf);first|with_reducible (first|refine Lm ?_|refine Wm (by omega) ?_|refine dT (by omega) (fun hq=>?_)|refine dF (by omega) (fun hq=>?_)|refine Bf.D (fun hq=>?_) (fun hq=>?_)|refine Bn ?_|refine Fm rfl ?_)|refine Bt ?_|refine Bu ?_|refine Cl.mk (dO _) ?_|refine Cl.mk (dH _) ?_|refine Cd.mk (by decide) ?_|refine Wr.mk rfl ?_|refine Ev.mk rfl ?_)
   exact congrArg (fun z=>[I z]) (by decide)
 ·refine fO (n:=9) [] Tryz.func306 (by kernel_rfl) rfl (by kernel_rfl) (by rfl) (.inr ⟨trivial,trivial⟩) ?_
  repeat'((conv=>whnf);first|with_reducible (first|refine Lm ?_|refine Wm (by omega) ?_|refine dT (by omega) (fun hq=>?_)|refine dF (by omega) (fun hq=>?_)|refine Bf.D (fun hq=>?_) (fun hq=>?_)|refine Bn ?_|refine Fm rfl ?_)|refine Bt ?_|refine Bu ?_|refine Cl.mk (dO _) ?_)
  exact congrArg (fun z=>[I z]) (by unfold slots;rw[if_neg (by omega),if_neg (by omega),if_neg (by omega),if_neg (by omega)])
def Jm (k b:Int):Bool:=decide (0≤k∧k≤3∧0≤b∧b≤lim k)
theorem ug (k b:Int):af Tryz.prog 291 false [.val none [I (slots k)],.val none [I b]] .one [B (Jm k b)]:=by
 by_cases hk:0≤k∧k≤3
 ·obtain rfl|rfl|rfl|rfl:k=0∨k=1∨k=2∨k=3:=by omega
  all_goals
   first|rw[show slots 0=16 from rfl]|rw[show slots 1=8 from rfl]|rw[show slots 2=4 from rfl]|rw[show slots 3=2 from rfl]
   refine fO (n:=15) [] Tryz.func291 (by kernel_rfl) rfl (by kernel_rfl) (by rfl) (.inr ⟨trivial,trivial⟩) ?_
   repeat'((conv=>whnf);first|with_reducible (first|refine Lm ?_|refine Wm (by omega) ?_|refine dT (by omega) (fun hq=>?_)|refine dF (by omega) (fun hq=>?_)|refine Bf.D (fun hq=>?_) (fun hq=>?_)|refine Bn ?_|refine Fm rfl ?_)|refine Bt ?_|refine Bu ?_|refine Cl.mk (aP _ 1 16) ?_|refine Cl.mk (aP _ 0 _) ?_|refine Cd.mk (by decide) ?_|refine Wr.mk (show _=(65536:Int) by decide) ?_|refine Wr.mk (show _=(65535:Int) by decide) ?_|refine Wr.mk (show _=(256:Int) by decide) ?_|refine Wr.mk (show _=(255:Int) by decide) ?_|refine Wr.mk (show _=(16:Int) by decide) ?_|refine Wr.mk (show _=(15:Int) by decide) ?_|refine Wr.mk (show _=(4:Int) by decide) ?_|refine Wr.mk (show _=(8:Int) by decide) ?_|refine Wr.mk (show _=(2:Int) by decide) ?_|refine Wr.mk (show _=(3:Int) by decide) ?_)
   all_goals exact congrArg (fun z=>[B z]) ((decide_eq_decide.2 (by simp[lim])))
 ·have hz:slots k=0:=by unfold slots;rw[if_neg (by omega),if_neg (by omega),if_neg (by omega),if_neg (by omega)]
  rw[hz]
  refine fO (n:=15) [] Tryz.func291 (by kernel_rfl) rfl (by kernel_rfl) (by rfl) (.inr ⟨trivial,trivial⟩) ?_
  repeat'((conv=>whnf);first|with_reducible (first|refine Lm ?_|refine Wm (by omega) ?_|refine dT (by omega) (fun hq=>?_)|refine dF (by omega) (fun hq=>?_)|refine Bf.D (fun hq=>?_) (fun hq=>?_)|refine Bn ?_|refine Fm rfl ?_)|refine Bt ?_|refine Bu ?_|refine Cl.mk (aP _ 1 16) ?_)
  exact congrArg (fun z=>[B z]) ((by symm;exact decide_eq_false (by omega)))
theorem uI (k b:Int):af Tryz.prog 305 false [.val none [I (slots k)],.val none [I b]] .one [B (Jm k b)]:=by
 by_cases hk:0≤k∧k≤3
 ·obtain rfl|rfl|rfl|rfl:k=0∨k=1∨k=2∨k=3:=by omega
  all_goals
   first|rw[show slots 0=16 from rfl]|rw[show slots 1=8 from rfl]|rw[show slots 2=4 from rfl]|rw[show slots 3=2 from rfl]
   refine fO (n:=14) [] Tryz.func305 (by kernel_rfl) rfl (by kernel_rfl) (by rfl) (.inr ⟨trivial,trivial⟩) ?_
   repeat'((conv=>whnf);first|with_reducible (first|refine Lm ?_|refine Wm (by omega) ?_|refine dT (by omega) (fun hq=>?_)|refine dF (by omega) (fun hq=>?_)|refine Bf.D (fun hq=>?_) (fun hq=>?_)|refine Bn ?_|refine Fm rfl ?_)|refine Bt ?_|refine Bu ?_|refine Cl.mk (aH _ 1 16) ?_|refine Cl.mk (aH _ 0 _) ?_|refine Cd.mk (by decide) ?_|refine Wr.mk (fV (by decide) (by decide)) ?_)
   all_goals exact congrArg (fun z=>[B z]) ((decide_eq_decide.2 (by simp[lim,IntKind.bits])))
 ·have hz:slots k=0:=by unfold slots;rw[if_neg (by omega),if_neg (by omega),if_neg (by omega),if_neg (by omega)]
  rw[hz]
  refine fO (n:=14) [] Tryz.func305 (by kernel_rfl) rfl (by kernel_rfl) (by rfl) (.inr ⟨trivial,trivial⟩) ?_
  repeat'((conv=>whnf);first|with_reducible (first|refine Lm ?_|refine Wm (by omega) ?_|refine dT (by omega) (fun hq=>?_)|refine dF (by omega) (fun hq=>?_)|refine Bf.D (fun hq=>?_) (fun hq=>?_)|refine Bn ?_|refine Fm rfl ?_)|refine Bt ?_|refine Bu ?_|refine Cl.mk (aH _ 1 16) ?_)
  exact congrArg (fun z=>[B z]) ((by symm;exact decide_eq_false (by omega)))
theorem gZ (s:am):af Tryz.prog 203 false [.val (some 3) (am.enc .imm s)] .one [B (b8 s)]:=by
 refine fO (n:=14) [(1,12,[3,4,5,6,7,8,9,10,11,12,13,2])] Tryz.func203 (by kernel_rfl) rfl (by kernel_rfl) (by rfl) (.inr ⟨trivial,trivial⟩) ?_
 repeat'((conv=>whnf);first|with_reducible (first|refine Lm ?_|refine Wm (by omega) ?_|refine Bf.D (fun hq=>?_) (fun hq=>?_)|refine Bn ?_|refine Fm rfl ?_)|refine Bt ?_|refine Bu ?_|refine Cl.mk (aP _ 0 31) ?_|refine Cl.mk (wG _) ?_|refine Cl.mk (ug _ _) ?_)
 all_goals exact congrArg (fun z=>[B z]) ((by unfold b8;first|(symm;exact decide_eq_false (by omega))|exact decide_eq_decide.2 (by omega)))
theorem fW (s:am):af Tryz.prog 227 false [.val (some 3) (am.enc .imm s)] .one [B (b8 s)]:=by
 refine fO (n:=19) [(1,17,[3,4,5,6,7,8,9,10,11,12,13,14,15,16,17,18,2])] Tryz.func227 (by kernel_rfl) rfl (by kernel_rfl) (by rfl) (.inr ⟨trivial,trivial⟩) ?_
 repeat'((conv=>whnf);first|with_reducible (first|refine Lm ?_|refine Wm (by omega) ?_|refine Bf.D (fun hq=>?_) (fun hq=>?_)|refine Bn ?_|refine Fm rfl ?_)|refine Bt ?_|refine Bu ?_|refine Cl.mk (aH _ 0 31) ?_|refine Cl.mk (dO _) ?_|refine Cl.mk (gp _) ?_|refine Cl.mk (uI _ _) ?_)
 all_goals exact congrArg (fun z=>[B z]) ((by unfold b8;first|(symm;exact decide_eq_false (by omega))|exact decide_eq_decide.2 (by omega)))
end Go.Proofs.YtogajjgmcnjkbaaGreat.Ab
namespace Go.Proofs.YtogajjgmcnjkbaaGreat.Ab
open Go.RowKit
set_option maxRecDepth 20000
set_option maxHeartbeats 4000000
section
variable {α:Type} {xs:List α} {p:α→Bool} {i:Nat} {y:α}
theorem xl (h:xs[i]? = some y) (hp:p y=true):xs.any p=true:=List.any_eq_true.2 ⟨y,List.mem_of_getElem? h,hp⟩
theorem sM (h:xs[i]? = some y) (ha:(xs.take i).any p=false) (hp:p y=false):(xs.take (i+1)).any p=false:=by
 rw[List.take_add_one,h,List.any_append,ha];simp[hp]
theorem Do (hi:xs.length≤i) (ha:(xs.take i).any p=false):xs.any p=false:=by
 rwa [List.take_of_length_le hi]at ha
theorem eL [Inhabited α] (h0:0<i) (hi:i<xs.length):xs[((i:Int) - 1).toNat]? = some (nth xs (i - 1)):=by
 rw[show((i:Int) - 1).toNat=i - 1 by omega];exact au (by omega)
end
theorem tE {pages:Int} {xs:List al} {i n:Nat} (ha:cD n (eM pages xs)=true) (hi:i<n):1≤(nth xs i).Len∧(nth xs i).Len≤pages∧0≤(nth xs i).At∧(nth xs i).At≤pages - (nth xs i).Len:=by
 have:=eK ha hi
 unfold eM rangeIn at this
 simp only[Bool.and_eq_true,decide_eq_true_eq]at this
 exact this.1
theorem nH (pages:Int) (xs:List al) (hp:0≤pages∧pages≤1048576) (hs:dr xs):af Tryz.prog 90 false [.val none [I pages],.val none (aT .imm xs)] .one [B (b7 pages xs)]:=by
 have hl:=hs.1
 refine fO (n:=46) [(4,32,[12,13,14,15,16,17,18,19,20,21,22,23,24,25,26,27,28,29,30,31,32,33,34,35,36,37,38,39,40,41,42,43])] Tryz.func90 (by kernel_rfl) rfl (by kernel_rfl) (by rfl) (.inr ⟨trivial,trivial⟩) ?_
 repeat'((conv=>whnf);first|with_reducible (first|refine Lm ?_|refine Wm (by omega) ?_|refine Bn ?_|refine Fm rfl ?_)|refine Bt ?_|refine Bu ?_)
 (conv=>whnf)
 refine Lp.mk (ι:=Nat) (fun i=>[(0,.hold .one [I (pages)]),(1,.hold .one (aT .imm xs)),(5,.hold .one [I ((i:Nat):Int)])]) (fun i=>i≤xs.length∧cD i (eM pages xs)=true) (fun i=>xs.length - i) 0 ?_ ⟨Nat.zero_le _,rfl⟩ fun i hi=>?_
 ·repeat'(first|exact trivial|rfl|refine And.intro ?_ ?_)
 obtain⟨hi,ai⟩:=hi
 by_cases li:i<xs.length
 ·have hx:=au li
  have hb:0<i→1≤(nth xs (i - 1)).Len∧(nth xs (i - 1)).Len≤pages∧0≤(nth xs (i - 1)).At∧(nth xs (i - 1)).At≤pages - (nth xs (i - 1)).Len:=fun h=>tE ai (by omega)
  cases h1:rangeIn pages (nth xs i) with
  | false=>
   have h2:=sr pages (nth xs i) hp
   rw[h1]at h2
   repeat'((conv=>whnf);first|with_reducible (first|refine Lm ?_|refine Wm (by omega) ?_|refine Ix.nat (aa hx) ?_|refine dT (by omega) (fun hq=>?_)|refine Bn ?_|refine Fm rfl ?_)|refine Bt ?_|refine Bu ?_|refine Cl.mk h2 ?_)
   exact congrArg (fun z=>[B z]) ((by symm;unfold b7;rw[bN li (by unfold eM;rw[h1];rfl)];rfl))
  | true=>
   have h2:=sr pages (nth xs i) hp
   rw[h1]at h2
   repeat'((conv=>whnf);first|with_reducible (first|refine Lm ?_|refine Wm (by omega) ?_|refine Ix.nat (aa hx) ?_|refine dT (by omega) (fun hq=>?_)|refine Bf.D (fun hq=>?_) (fun hq=>?_)|refine Bn ?_|refine Fm rfl ?_)|refine Bt ?_|refine Bu ?_|refine Cl.mk h2 ?_|refine Ix.mk (by omega) (aa (eL (by omega) li)) ?_)
   all_goals first
    | exact congrArg (fun z=>[B z]) ((by symm;unfold b7;rw[bN li (by unfold eM;rw[h1,decide_eq_false (by omega)];rfl)];rfl))
    | ((conv=>whnf);refine Nx.mk (i+1) ⟨by omega,b6 ai (by unfold eM;rw[h1,decide_eq_true (by omega)];rfl)⟩ (by omega) ?_;(repeat'(first|exact trivial|rfl|refine And.intro ?_ ?_)))
 ·repeat'((conv=>whnf);first|with_reducible (first|refine Lm ?_|refine Wm (by omega) ?_|refine dF (by omega) (fun hq=>?_)|refine Bn ?_|refine Fm rfl ?_)|refine Bt ?_|refine Bu ?_|refine Cl.mk (aP pages 1 32) ?_)
  obtain rfl:i=xs.length:=by omega
  exact congrArg (fun z=>[B z]) ((by unfold b7;rw[ai];rfl))
theorem n8 (pages:Int) (xs:List al) (hp:0≤pages∧pages≤1048576) (hs:dr xs):af Tryz.prog 120 false [.val none [I pages],.val none (aT .imm xs)] .one [B (b7 pages xs)]:=by
 have hl:=hs.1
 refine fO (n:=43) [(4,26,[14,15,16,17,18,19,20,21,22,23,24,25,26,27,28,29,30,31,32,33,34,35,36,37,38,39])] Tryz.func120 (by kernel_rfl) rfl (by kernel_rfl) (by rfl) (.inr ⟨trivial,trivial⟩) ?_
 repeat'((conv=>whnf);first|with_reducible (first|refine Lm ?_|refine Wm (by omega) ?_|refine Bn ?_|refine Fm rfl ?_)|refine Bt ?_|refine Bu ?_)
 (conv=>whnf)
 refine Lp.mk (ι:=Nat) (fun i=>[(0,.hold .one [I (pages)]),(1,.hold .one (aT .imm xs)),(7,.hold .one (aT .imm xs)),(8,.hold .one [I (xs.length)]),(9,.hold .one [I ((i:Nat):Int)])]) (fun i=>i≤xs.length∧cD i (eM pages xs)=true) (fun i=>xs.length - i) 0 ?_ ⟨Nat.zero_le _,rfl⟩ fun i hi=>?_
 ·repeat'(first|exact trivial|rfl|refine And.intro ?_ ?_)
 obtain⟨hi,ai⟩:=hi
 by_cases li:i<xs.length
 ·have hx:=au li
  have hb:0<i→1≤(nth xs (i - 1)).Len∧(nth xs (i - 1)).Len≤pages∧0≤(nth xs (i - 1)).At∧(nth xs (i - 1)).At≤pages - (nth xs (i - 1)).Len:=fun h=>tE ai (by omega)
  have h2:=rQ pages (nth xs i) hp
  cases h1:rangeIn pages (nth xs i) with
  | false=>
   rw[h1]at h2
   repeat'((conv=>whnf);first|with_reducible (first|refine Lm ?_|refine Wm (by omega) ?_|refine Ix.nat (aa hx) ?_|refine dT (by omega) (fun hq=>?_)|refine Bn ?_|refine Fm rfl ?_)|refine Bt ?_|refine Bu ?_|refine Cl.mk h2 ?_)
   exact congrArg (fun z=>[B z]) ((by symm;unfold b7;rw[bN li (by unfold eM;rw[h1];rfl)];rfl))
  | true=>
   rw[h1]at h2
   repeat'((conv=>whnf);first|with_reducible (first|refine Lm ?_|refine Wm (by omega) ?_|refine Ix.nat (aa hx) ?_|refine dT (by omega) (fun hq=>?_)|refine Bf.D (fun hq=>?_) (fun hq=>?_)|refine Bn ?_|refine Fm rfl ?_)|refine Bt ?_|refine Bu ?_|refine Cl.mk h2 ?_|refine Ix.mk (by omega) (aa (eL (by omega) li)) ?_)
   all_goals first
    | exact congrArg (fun z=>[B z]) ((by symm;unfold b7;rw[bN li (by unfold eM;rw[h1,decide_eq_false (by omega)];rfl)];rfl))
    | ((conv=>whnf);refine Nx.mk (i+1) ⟨by omega,b6 ai (by unfold eM;rw[h1,decide_eq_true (by omega)];rfl)⟩ (by omega) ?_;(repeat'(first|exact trivial|rfl|refine And.intro ?_ ?_)))
 ·repeat'((conv=>whnf);first|with_reducible (first|refine Lm ?_|refine Wm (by omega) ?_|refine dF (by omega) (fun hq=>?_)|refine Bn ?_|refine Fm rfl ?_)|refine Bt ?_|refine Bu ?_|refine Cl.mk (aH pages 1 32) ?_)
  obtain rfl:i=xs.length:=by omega
  exact congrArg (fun z=>[B z]) ((by unfold b7;rw[ai];rfl))
theorem ui (xs:List al) (page:Int) (hl:xs.length≤9223372036854775807):af Tryz.prog 207 false [.val none (aT .imm xs),.val none [I page]] .one [B (xs.any (ov page))]:=by
 refine fO (n:=34) [(4,22,[12,13,14,15,16,17,18,19,20,21,22,23,24,25,26,27,28,29,30,31,32,33])] Tryz.func207 (by kernel_rfl) rfl (by kernel_rfl) (by rfl) (.inr ⟨trivial,trivial⟩) ?_
 repeat'((conv=>whnf);first|with_reducible (first|refine Lm ?_|refine Wm (by omega) ?_|refine Bn ?_|refine Fm rfl ?_)|refine Bt ?_|refine Bu ?_)
 (conv=>whnf)
 refine Lp.mk (ι:=Nat) (fun i=>[(0,.hold .one (aT .imm xs)),(1,.hold .one [I (page)]),(5,.hold .one [I ((i:Nat):Int)])]) (fun i=>i≤xs.length∧(xs.take i).any (ov page)=false) (fun i=>xs.length - i) (0) ?_ (⟨Nat.zero_le _,rfl⟩) fun i hi=>?_
 ·repeat'(first|exact trivial|rfl|refine And.intro ?_ ?_)
 obtain⟨hi,ha⟩:=hi
 by_cases li:i<xs.length
 ·have hx:=au li
  repeat'((conv=>whnf);first|with_reducible (first|refine Lm ?_|refine Wm (by omega) ?_|refine Ix.nat (aa hx) ?_|refine dT (by omega) (fun hq=>?_)|refine Bf.D (fun hq=>?_) (fun hq=>?_)|refine Bn ?_|refine Fm rfl ?_)|refine Bt ?_|refine Bu ?_|refine Wr.mk rfl ?_)
  all_goals first
   | exact congrArg (fun z=>[B z]) ((xl hx (by unfold ov;rw[decide_eq_true (by assumption),decide_eq_true (by assumption)];rfl)).symm)
   | ((conv=>whnf);refine Nx.mk (i+1) ⟨by omega,sM hx ha (by unfold ov;first|(rw[decide_eq_false (by assumption:¬(nth xs i).At≤page)];rfl)|(rw[decide_eq_false (by assumption:¬page<_)];simp))⟩ (by omega) ?_;(repeat'(first|exact trivial|rfl|refine And.intro ?_ ?_)))
 ·repeat'((conv=>whnf);first|with_reducible (first|refine Lm ?_|refine Wm (by omega) ?_|refine dF (by omega) (fun hq=>?_)|refine Bn ?_|refine Fm rfl ?_)|refine Bt ?_|refine Bu ?_)
  exact congrArg (fun z=>[B z]) ((Do (by omega) ha).symm)
theorem tdiv16 {z:Int} (h:0≤z):z.tdiv 16=z / 16:=Int.tdiv_eq_ediv_of_nonneg h
theorem tU (z:Int):af Tryz.prog 293 false [.val none [I z]] .one [I (gl z)]:=by
 refine fO (n:=10) [] Tryz.func293 (by kernel_rfl) rfl (by kernel_rfl) (by rfl) (.inr ⟨trivial,trivial⟩) ?_
 by_cases hz:9≤z∧z≤1000
 ·repeat'((conv=>whnf);first|with_reducible (first|refine Lm ?_|refine Wm (by omega) ?_|refine dT (by omega) (fun hq=>?_)|refine dF (by omega) (fun hq=>?_)|refine Bf.D (fun hq=>?_) (fun hq=>?_)|refine Bn ?_|refine Fm rfl ?_)|refine Bt ?_|refine Bu ?_|refine Cl.mk (aP z 9 1000) ?_|refine Cd.mk (by decide) ?_|refine Wr.mk ((congrArg _ (tdiv16 (by omega))).trans (fV (by omega) (by omega))) ?_)
  all_goals exact congrArg (fun z=>[I z]) (by unfold gl;rw[if_pos hz];omega)
 ·repeat'((conv=>whnf);first|with_reducible (first|refine Lm ?_|refine Wm (by omega) ?_|refine dT (by omega) (fun hq=>?_)|refine dF (by omega) (fun hq=>?_)|refine Bf.D (fun hq=>?_) (fun hq=>?_)|refine Bn ?_|refine Fm rfl ?_)|refine Bt ?_|refine Bu ?_|refine Cl.mk (aP z 9 1000) ?_)
  all_goals exact congrArg (fun z=>[I z]) (by unfold gl;rw[if_neg hz])
theorem uc (z:Int):af Tryz.prog 307 false [.val none [I z]] .one [I (gl z)]:=by
 refine fO (n:=10) [] Tryz.func307 (by kernel_rfl) rfl (by kernel_rfl) (by rfl) (.inr ⟨trivial,trivial⟩) ?_
 by_cases hz:9≤z∧z≤1000
 ·repeat'((conv=>whnf);first|with_reducible (first|refine Lm ?_|refine Wm (by omega) ?_|refine dT (by omega) (fun hq=>?_)|refine dF (by omega) (fun hq=>?_)|refine Bf.D (fun hq=>?_) (fun hq=>?_)|refine Bn ?_|refine Fm rfl ?_)|refine Bt ?_|refine Bu ?_|refine Cl.mk (aH z 9 1000) ?_|refine Cd.mk (by decide) ?_|refine Wr.mk ((congrArg _ (tdiv16 (by omega))).trans (fV (by omega) (by omega))) ?_)
  all_goals exact congrArg (fun z=>[I z]) (by unfold gl;rw[if_pos hz];omega)
 ·repeat'((conv=>whnf);first|with_reducible (first|refine Lm ?_|refine Wm (by omega) ?_|refine dT (by omega) (fun hq=>?_)|refine dF (by omega) (fun hq=>?_)|refine Bf.D (fun hq=>?_) (fun hq=>?_)|refine Bn ?_|refine Fm rfl ?_)|refine Bt ?_|refine Bu ?_|refine Cl.mk (aH z 9 1000) ?_)
  all_goals exact congrArg (fun z=>[I z]) (by unfold gl;rw[if_neg hz])
theorem pk (l:ah):af Tryz.prog 205 false [.val (some 3) (ah.enc .imm l)] .one [B (cS l)]:=by
 have h1:=tU l.Size
 by_cases hz:9≤l.Size∧l.Size≤1000
 ·rw[show gl l.Size=(l.Size+15) / 16 from if_pos hz]at h1
  refine fO (n:=22) [] Tryz.func205 (by kernel_rfl) rfl (by kernel_rfl) (by rfl) (.inr ⟨trivial,trivial⟩) ?_
  repeat'((conv=>whnf);first|with_reducible (first|refine Lm ?_|refine Wm (by omega) ?_|refine Bf.D (fun hq=>?_) (fun hq=>?_)|refine Bf.E (fun hq=>?_) (fun hq=>?_)|refine Bn ?_|refine Fm rfl ?_)|refine Bt ?_|refine Bu ?_|refine Cl.mk h1 ?_|refine Cl.mk (aP _ 0 _) ?_)
  all_goals exact congrArg (fun z=>[B z]) ((by unfold cS;first|(symm;exact decide_eq_false (by omega))|exact decide_eq_decide.2 (by omega)))
 ·rw[show gl l.Size=0 from if_neg hz]at h1
  refine fO (n:=22) [] Tryz.func205 (by kernel_rfl) rfl (by kernel_rfl) (by rfl) (.inr ⟨trivial,trivial⟩) ?_
  repeat'((conv=>whnf);first|with_reducible (first|refine Lm ?_|refine Wm (by omega) ?_|refine dT (by omega) (fun hq=>?_)|refine dF (by omega) (fun hq=>?_)|refine Bf.D (fun hq=>?_) (fun hq=>?_)|refine Bn ?_|refine Fm rfl ?_)|refine Bt ?_|refine Bu ?_|refine Cl.mk h1 ?_)
  all_goals exact congrArg (fun z=>[B z]) ((by unfold cS;symm;exact decide_eq_false (by omega)))
theorem p8 (l:ah):af Tryz.prog 228 false [.val (some 3) (ah.enc .imm l)] .one [B (cS l)]:=by
 have h1:=uc l.Size
 by_cases hz:9≤l.Size∧l.Size≤1000
 ·rw[show gl l.Size=(l.Size+15) / 16 from if_pos hz]at h1
  refine fO (n:=22) [(1,20,[3,4,5,6,7,8,9,10,11,12,13,14,15,16,17,18,19,20,21,2])] Tryz.func228 (by kernel_rfl) rfl (by kernel_rfl) (by rfl) (.inr ⟨trivial,trivial⟩) ?_
  repeat'((conv=>whnf);first|with_reducible (first|refine Lm ?_|refine Wm (by omega) ?_|refine dT (by omega) (fun hq=>?_)|refine dF (by omega) (fun hq=>?_)|refine Bf.D (fun hq=>?_) (fun hq=>?_)|refine Bf.E (fun hq=>?_) (fun hq=>?_)|refine Bn ?_|refine Fm rfl ?_)|refine Bt ?_|refine Bu ?_|refine Cl.mk h1 ?_|refine Cl.mk (aH _ 9 1000) ?_|refine Cl.mk (aH _ 0 _) ?_)
  all_goals exact congrArg (fun z=>[B z]) ((by unfold cS;first|(symm;exact decide_eq_false (by omega))|exact decide_eq_decide.2 (by omega)))
 ·refine fO (n:=22) [(1,20,[3,4,5,6,7,8,9,10,11,12,13,14,15,16,17,18,19,20,21,2])] Tryz.func228 (by kernel_rfl) rfl (by kernel_rfl) (by rfl) (.inr ⟨trivial,trivial⟩) ?_
  repeat'((conv=>whnf);first|with_reducible (first|refine Lm ?_|refine Wm (by omega) ?_|refine dT (by omega) (fun hq=>?_)|refine dF (by omega) (fun hq=>?_)|refine Bf.D (fun hq=>?_) (fun hq=>?_)|refine Bn ?_|refine Fm rfl ?_)|refine Bt ?_|refine Bu ?_|refine Cl.mk (aH _ 9 1000) ?_)
  all_goals exact congrArg (fun z=>[B z]) ((by unfold cS;symm;exact decide_eq_false (by omega)))
theorem oM {z:Int} (h:0≤z∧z≤9223372036854775807):(BitVec.ofInt IntKind.i64.bits z).toNat=z.toNat:=by
 show(BitVec.ofInt 64 z).toNat=z.toNat
 rw[BitVec.toNat_ofInt]
 congr 1
 exact Int.emod_eq_of_lt h.1 (by show z<((2 ^ 64:Nat):Int);have:=h.2;norm_cast;omega)
theorem and64 {z1 z2:Int} (h1:0≤z1∧z1≤9223372036854775807) (h2:0≤z2∧z2≤9223372036854775807):IntKind.i64.wrap ((BitVec.ofInt IntKind.i64.bits z1 &&& BitVec.ofInt IntKind.i64.bits z2).toNat:Nat)=((z1.toNat &&& z2.toNat:Nat):Int):=by
 rw[BitVec.toNat_and,oM h1,oM h2]
 have:z1.toNat &&& z2.toNat≤z1.toNat:=Nat.and_le_left
 exact fV (by omega) (by omega)
theorem FO (k:Int):lim k≤65535:=by
 unfold lim
 (repeat' split)<;>decide
theorem eU {s:am} (h:b8 s=true):0≤s.Bits∧s.Bits≤9223372036854775807:=by
 unfold b8 at h
 simp only[decide_eq_true_eq]at h
 have:=FO s.Class
 omega
theorem uf (x1 x2:am):af Tryz.prog 208 false [.val (some 3) (am.enc .imm x1),.val (some 3) (am.enc .imm x2)] .one [B (meshable x1 x2)]:=by
 have h1:=gZ x1
 have h2:=gZ x2
 cases e1:b8 x1<;>rw[e1]at h1<;>cases e2:b8 x2<;>rw[e2]at h2
 all_goals
  refine fO (n:=33) [] Tryz.func208 (by kernel_rfl) rfl (by kernel_rfl) (by rfl) (.inr ⟨trivial,trivial⟩) ?_
  repeat'((conv=>whnf);first|with_reducible (first|refine Lm ?_|refine Wm (by omega) ?_|refine Bf.D (fun hq=>?_) (fun hq=>?_)|refine Bf.N (fun hq=>?_) (fun hq=>?_)|refine Bf.E (fun hq=>?_) (fun hq=>?_)|refine Bn ?_|refine Fm rfl ?_)|refine Bt ?_|refine Bu ?_|refine Cl.mk h1 ?_|refine Cl.mk h2 ?_|refine Wr.mk (and64 (eU e1) (eU e2)) ?_)
  all_goals exact congrArg (fun z=>[B z]) ((by unfold meshable;rw[e1,e2];first|rfl|(symm;exact decide_eq_false (by omega))|(rw[Bool.eq_iff_iff];simp;omega)))
theorem uJ (x1 x2:am):af Tryz.prog 232 false [.val (some 3) (am.enc .imm x1),.val (some 3) (am.enc .imm x2)] .one [B (meshable x1 x2)]:=by
 have h1:=fW x1
 have h2:=fW x2
 cases e1:b8 x1<;>rw[e1]at h1<;>cases e2:b8 x2<;>rw[e2]at h2
 all_goals
  refine fO (n:=33) [] Tryz.func232 (by kernel_rfl) rfl (by kernel_rfl) (by rfl) (.inr ⟨trivial,trivial⟩) ?_
  repeat'((conv=>whnf);first|with_reducible (first|refine Lm ?_|refine Wm (by omega) ?_|refine Bf.D (fun hq=>?_) (fun hq=>?_)|refine Bf.N (fun hq=>?_) (fun hq=>?_)|refine Bf.E (fun hq=>?_) (fun hq=>?_)|refine Bn ?_|refine Fm rfl ?_)|refine Bt ?_|refine Bu ?_|refine Cl.mk h1 ?_|refine Cl.mk h2 ?_|refine Wr.mk (and64 (eU e1) (eU e2)) ?_)
  all_goals exact congrArg (fun z=>[B z]) ((by unfold meshable;rw[e1,e2];first|rfl|(symm;exact decide_eq_false (by omega))|(rw[Bool.eq_iff_iff];simp;omega)))
theorem Ep (k:Int):af Tryz.prog 317 false [.val none [I k]] .one [B (decide (0≤k∧k≤15))]:=by
 refine fO (n:=5) [] Tryz.func317 (by kernel_rfl) rfl (by kernel_rfl) (by rfl) (.inr ⟨trivial,trivial⟩) ?_
 repeat'((conv=>whnf);first|with_reducible (first|refine Lm ?_|refine Wm (by omega) ?_|refine Bn ?_|refine Fm rfl ?_)|refine Bt ?_|refine Bu ?_|refine Cl.mk (aH k 0 15) ?_)
 rfl
theorem yZ (p:aV) (hs:aV.sml p):af Tryz.prog 216 false [.val (some 3) (aV.enc .imm p)] .one [B (lg p)]:=by
 have hl:p.Cells.length≤1048576:=hs
 refine fO (n:=51) [(4,25,[11,12,13,14,15,16,17,18,19,20,21,22,23,24,25,26,27,28,29,30,31,32,33,34,35])] Tryz.func216 (by kernel_rfl) rfl (by kernel_rfl) (by rfl) (.inr ⟨trivial,trivial⟩) ?_
 repeat'((conv=>whnf);first|with_reducible (first|refine Lm ?_|refine Wm (by omega) ?_|refine Bn ?_|refine Fm rfl ?_)|refine Bt ?_|refine Bu ?_)
 (conv=>whnf)
 refine Lp.mk (ι:=Nat) (fun i=>[(1,.hold .box (aV.enc .imm p)),(3,.hold .one [I ((i:Nat):Int)])]) (fun i=>i≤p.Cells.length∧cD i (AU p.Cells)=true) (fun i=>p.Cells.length - i) 0 ?_ ⟨Nat.zero_le _,rfl⟩ fun i hi=>?_
 ·repeat'(first|exact trivial|rfl|refine And.intro ?_ ?_)
 obtain⟨hi,ai⟩:=hi
 by_cases li:i<p.Cells.length
 ·have hx:=au li
  repeat'((conv=>whnf);first|with_reducible (first|refine Lm ?_|refine Wm (by omega) ?_|refine Ix.nat (aa hx) ?_|refine dT (by omega) (fun hq=>?_)|refine Bf.D (fun hq=>?_) (fun hq=>?_)|refine Bn ?_|refine Fm rfl ?_)|refine Bt ?_|refine Bu ?_|refine Cl.mk (aP _ 0 15) ?_|refine Ix.mk (by omega) (aa (eL (by omega) li)) ?_)
  all_goals first
   | exact congrArg (fun z=>[B z]) ((by symm;unfold lg;rw[bN li (decide_eq_false (by omega))];rfl))
   | ((conv=>whnf);refine Nx.mk (i+1) ⟨by omega,b6 ai (decide_eq_true (by omega))⟩ (by omega) ?_;(repeat'(first|exact trivial|rfl|refine And.intro ?_ ?_)))
 ·obtain rfl:i=p.Cells.length:=by omega
  repeat'((conv=>whnf);first|with_reducible (first|refine Lm ?_|refine Wm (by omega) ?_|refine dF (by omega) (fun hq=>?_)|refine Bf.D (fun hq=>?_) (fun hq=>?_)|refine Bf.NB (fun hq=>?_) (fun hq=>?_)|refine Bf.N (fun hq=>?_) (fun hq=>?_)|refine Bn ?_|refine Fm rfl ?_)|refine Bt ?_|refine Bu ?_|refine Cl.mk (aP _ 0 31) ?_)
  all_goals exact congrArg (fun z=>[B z]) ((by unfold lg;rw[ai];simp only[Bool.true_and];first|(symm;exact decide_eq_false (by omega))|exact decide_eq_decide.2 (by omega)|(rw[Bool.eq_iff_iff];simp;omega)))
theorem zP (p:aV) (hs:aV.sml p):af Tryz.prog 242 false [.val (some 3) (aV.enc .imm p)] .one [B (lg p)]:=by
 have hl:p.Cells.length≤1048576:=hs
 refine fO (n:=46) [] Tryz.func242 (by kernel_rfl) rfl (by kernel_rfl) (by rfl) (.inr ⟨trivial,trivial⟩) ?_
 repeat'((conv=>whnf);first|with_reducible (first|refine Lm ?_|refine Wm (by omega) ?_|refine Bn ?_|refine Fm rfl ?_)|refine Bt ?_|refine Bu ?_)
 (conv=>whnf)
 refine Lp.mk (ι:=Nat) (fun i=>[(1,.hold .box (aV.enc .imm p)),(6,.hold .one (aI .imm p.Cells)),(7,.hold .one [I (p.Cells.length)]),(8,.hold .one [I ((i:Nat):Int)])]) (fun i=>i≤p.Cells.length∧cD i (AU p.Cells)=true) (fun i=>p.Cells.length - i) 0 ?_ ⟨Nat.zero_le _,rfl⟩ fun i hi=>?_
 ·repeat'(first|exact trivial|rfl|refine And.intro ?_ ?_)
 obtain⟨hi,ai⟩:=hi
 by_cases li:i<p.Cells.length
 ·have hx:=au li
  repeat'((conv=>whnf);first|with_reducible (first|refine Lm ?_|refine Wm (by omega) ?_|refine Ix.nat (aa hx) ?_|refine dT (by omega) (fun hq=>?_)|refine Bf.D (fun hq=>?_) (fun hq=>?_)|refine Bn ?_|refine Fm rfl ?_)|refine Bt ?_|refine Bu ?_|refine Cl.mk (Ep _) ?_|refine Ix.mk (by omega) (aa (eL (by omega) li)) ?_)
  all_goals first
   | exact congrArg (fun z=>[B z]) ((by symm;unfold lg;rw[bN li (decide_eq_false (by omega))];rfl))
   | ((conv=>whnf);refine Nx.mk (i+1) ⟨by omega,b6 ai (decide_eq_true (by omega))⟩ (by omega) ?_;(repeat'(first|exact trivial|rfl|refine And.intro ?_ ?_)))
 ·obtain rfl:i=p.Cells.length:=by omega
  repeat'((conv=>whnf);first|with_reducible (first|refine Lm ?_|refine Wm (by omega) ?_|refine dF (by omega) (fun hq=>?_)|refine Bf.D (fun hq=>?_) (fun hq=>?_)|refine Bf.NB (fun hq=>?_) (fun hq=>?_)|refine Bf.N (fun hq=>?_) (fun hq=>?_)|refine Bn ?_|refine Fm rfl ?_)|refine Bt ?_|refine Bu ?_|refine Cl.mk (aH _ 0 31) ?_)
  all_goals exact congrArg (fun z=>[B z]) ((by unfold lg;rw[ai];simp only[Bool.true_and];first|(symm;exact decide_eq_false (by omega))|exact decide_eq_decide.2 (by omega)|(rw[Bool.eq_iff_iff];simp;omega)))
end Go.Proofs.YtogajjgmcnjkbaaGreat.Ab
namespace Go.Proofs.YtogajjgmcnjkbaaGreat.Ab
open Go.RowKit
set_option maxRecDepth 20000
set_option maxHeartbeats 4000000
theorem B5 (j:bq) (hs:bq.sml j):af Tryz.prog 100 false [.val (some 5) (bq.enc .imm j)] .one [B (qL j)]:=by
 have hl:j.Plan.Cells.length≤1048576:=hs
 have h1:=yZ j.Plan hs
 cases e1:lg j.Plan<;>rw[e1]at h1
 all_goals
  refine fO (n:=20) [] Tryz.func100 (by kernel_rfl) rfl (by kernel_rfl) (by rfl) (.inr ⟨trivial,trivial⟩) ?_
  repeat'((conv=>whnf);first|with_reducible (first|refine Lm ?_|refine Wm (by omega) ?_|refine Bf.D (fun hq=>?_) (fun hq=>?_)|refine Bn ?_|refine Fm rfl ?_)|refine Bt ?_|refine Bu ?_|refine Cl.mk h1 ?_|refine Cl.mk (aP _ 0 5) ?_|refine Cl.mk (aP _ 0 _) ?_)
  all_goals exact congrArg (fun z=>[B z]) ((by unfold qL;rw[e1];first|rfl|(symm;exact decide_eq_false (by omega))|(rw[Bool.eq_iff_iff];simp;omega)))
theorem A6 (j:bq) (hs:bq.sml j):af Tryz.prog 129 false [.val (some 5) (bq.enc .imm j)] .one [B (qL j)]:=by
 have hl:j.Plan.Cells.length≤1048576:=hs
 have h1:=zP j.Plan hs
 cases e1:lg j.Plan<;>rw[e1]at h1
 all_goals
  refine fO (n:=20) [] Tryz.func129 (by kernel_rfl) rfl (by kernel_rfl) (by rfl) (.inr ⟨trivial,trivial⟩) ?_
  repeat'((conv=>whnf);first|with_reducible (first|refine Lm ?_|refine Wm (by omega) ?_|refine Bf.D (fun hq=>?_) (fun hq=>?_)|refine Bn ?_|refine Fm rfl ?_)|refine Bt ?_|refine Bu ?_|refine Cl.mk h1 ?_|refine Cl.mk (aH _ 0 5) ?_|refine Cl.mk (aH _ 0 _) ?_)
  all_goals exact congrArg (fun z=>[B z]) ((by unfold qL;rw[e1];first|rfl|(symm;exact decide_eq_false (by omega))|(rw[Bool.eq_iff_iff];simp;omega)))
theorem jd (l:ah) (k:Nat):lpgs l (k+1)=lpgs l k++[l.Page+(k:Nat)]:=by
 unfold lpgs;rw[List.range_succ,List.map_append];rfl
theorem y2 (l:ah) (k:Nat):(lpgs l k).length=k:=by unfold lpgs;simp
theorem FE (l:ah) {k n:Nat} (h:k≤n):lpgs l k <+: lpgs l n:=by
 induction n with
 | zero=>
  obtain rfl:k=0:=by omega
  exact List.prefix_refl _
 | succ n ih=>
  rcases Nat.lt_or_ge n k with h1|h1
  ·obtain rfl:k=n+1:=by omega
   exact List.prefix_refl _
  ·rw[jd];exact(ih h1).trans (List.prefix_append ..)
theorem m8 (sp:List am) {la:List ah} {i:Nat} {l:ah} (h:la[i]? = some l):pgs sp (la.take (i+1))=pgs sp (la.take i)++lpgs l l.Pages.toNat:=by
 unfold pgs;rw[List.take_add_one,h,List.flatMap_append];simp
theorem Ha (sp:List am) (la:List ah) (i:Nat):pgs sp (la.take i) <+: pgs sp la:=by
 unfold pgs
 refine(List.prefix_append_right_inj _).2 ?_
 conv=>rhs;rw[←List.take_append_drop i la,List.flatMap_append]
 exact List.prefix_append ..
theorem EX {S all:List Int} {p:Int} (h:(S++[p]) <+: all) (hp:p∈S):decide all.Nodup=false:=by
 refine decide_eq_false fun hn=>?_
 have h1:=hn.sublist h.sublist
 rw[List.nodup_append]at h1
 exact h1.2.2 p hp p (by simp) rfl
theorem jC {S:List Int} {p:Int} (h:S.Nodup) (hp:p∉S):(S++[p]).Nodup:=by
 rw[List.nodup_append]
 exact⟨h,by simp,fun x hx y hy e=>by simp at hy;subst hy;subst e;exact hp hx⟩
theorem zG {sp:List am} {la:List ah} {i:Nat} {s:am} (h:sp[i]? = some s):((sp.take i).map (·.Page)++[s.Page]) <+: pgs sp la:=by
 have h1:(sp.take i).map (·.Page)++[s.Page]=(sp.take (i+1)).map (·.Page):=by rw[List.take_add_one,h];simp
 rw[h1]
 refine List.IsPrefix.trans ?_ (List.prefix_append ..)
 rw[List.map_take]
 exact List.take_prefix ..
theorem vQ {sp:List am} {la:List ah} {i k:Nat} {l:ah} (h:la[i]? = some l) (hk:k<l.Pages.toNat):(pgs sp (la.take i)++lpgs l k++[l.Page+(k:Nat)]) <+: pgs sp la:=by
 refine List.IsPrefix.trans ?_ (Ha sp la (i+1))
 rw[m8 sp h,List.append_assoc,←jd]
 exact(List.prefix_append_right_inj _).2 (FE l hk)
theorem n9 {sp:List am} {la:List ah} {i:Nat} {s:am} (h:sp[i]? = some s) (hs:b8 s=false):bj sp la=false:=by
 unfold bj;rw[dI h hs];rfl
theorem mG {sp:List am} {la:List ah} {i:Nat} {l:ah} (h:la[i]? = some l) (hs:cS l=false):bj sp la=false:=by
 unfold bj;rw[dI h hs];simp
theorem iL {sp:List am} {la:List ah} {S:List Int} {p:Int} (h:(S++[p]) <+: pgs sp la) (hp:p∈S):bj sp la=false:=by
 unfold bj;rw[EX h hp];simp
theorem oI {sp:List am} {la:List ah} (h1:sp.all b8=true) (h2:la.all cS=true) (h3:(pgs sp la).Nodup):bj sp la=true:=by
 unfold bj;rw[h1,h2,decide_eq_true h3];rfl
theorem bn {l:ah} (h:cS l=true):1≤l.Pages∧l.Pages≤63∧0≤l.Page∧l.Page≤31:=by
 unfold cS at h;simp only[decide_eq_true_eq]at h;omega
theorem kr (sp:List am) (la:List ah) (hs1:cf sp) (hs2:bO la):af Tryz.prog 91 false [.val none (bt .imm sp),.val none (aW .imm la)] .one [B (bj sp la)]:=by
 have hl1:=hs1.1
 have hl2:=hs2.1
 refine fO (n:=79) [] Tryz.func91 (by kernel_rfl) rfl (by kernel_rfl) (by rfl) (.inr ⟨trivial,trivial⟩) ?_
 repeat'((conv=>whnf);first|with_reducible (first|refine Lm ?_|refine Wm (by omega) ?_|refine Bn ?_|refine Fm rfl ?_)|refine Bt ?_|refine Bu ?_)
 (conv=>whnf)
 refine Lp.mk (ι:=Nat × List Int) (fun i=>[(0,.hold .one (bt .imm sp)),(1,.hold .one (aW .imm la)),(5,.hold .one (aI .own i.2)),(6,.hold .one [I ((i.1:Nat):Int)])]) (fun i=>i.1≤sp.length∧i.2=(sp.take i.1).map (·.Page)∧(sp.take i.1).all b8=true∧i.2.Nodup) (fun i=>sp.length - i.1) ((0,[])) ?_ (⟨Nat.zero_le _,rfl,rfl,List.nodup_nil⟩) fun i hi=>?_
 ·repeat'(first|exact trivial|rfl|refine And.intro ?_ ?_)
 obtain⟨i,S⟩:=i
 obtain⟨hi,hS,hok,hnd⟩:=hi
 simp only at hi hS hok hnd ⊢
 have hSl:S.length=i:=by rw[hS,List.length_map,List.length_take];omega
 by_cases li:i<sp.length
 ·have hx:=au li
  have h1:=gZ (nth sp i)
  cases e1:b8 (nth sp i)<;>rw[e1]at h1
  ·repeat'((conv=>whnf);first|with_reducible (first|refine Lm ?_|refine Wm (by omega) ?_|refine Ix.nat (aa hx) ?_|refine dT (by omega) (fun hq=>?_)|refine Bn ?_|refine Fm rfl ?_)|refine Bt ?_|refine Bu ?_|refine Cl.mk h1 ?_)
   exact congrArg (fun z=>[B z]) ((n9 hx e1).symm)
  ·repeat'((conv=>whnf);first|with_reducible (first|refine Lm ?_|refine Wm (by omega) ?_|refine Ix.nat (aa hx) ?_|refine dT (by omega) (fun hq=>?_)|refine Bf.D (fun hq=>?_) (fun hq=>?_)|refine Bn ?_|refine Fm rfl ?_)|refine Bt ?_|refine Bu ?_|refine Cl.mk h1 ?_|refine Cl.eq (kD S _ (by omega)) ⟨⟨rfl,eC _⟩,⟨rfl,rfl⟩,trivial⟩ ?_|refine Ap.mk dl (fun r hr=>by rw[List.mem_singleton.1 hr];rfl) (by simp[aQ,dU]) (by simp;omega) (by simp only[List.length_map];exact tO (by simp;omega) (by decide)) rfl ?_)
   all_goals first
    | exact congrArg (fun z=>[B z]) ((iL (S:=S) (by rw[hS];exact zG hx) (by assumption)).symm)
    | ((conv=>whnf)
       refine Nx.mk (i+1,S++[(nth sp i).Page]) ⟨(by simp only;omega),(by simp only;rw[hS,List.take_add_one,hx];simp),(ce hx hok e1),jC hnd (by assumption)⟩ (by simp only;omega) ?_
       (repeat'(first|exact trivial|rfl|exact And.intro rfl (And.intro (congrArg (C.s dy.own) (by simp[rI])) trivial)|refine And.intro ?_ ?_)))
 ·obtain rfl:i=sp.length:=by omega
  rw[List.take_length]at hok hS
  repeat'((conv=>whnf);first|with_reducible (first|refine Lm ?_|refine Wm (by omega) ?_|refine dF (by omega) (fun hq=>?_)|refine Bn ?_|refine Fm rfl ?_)|refine Bt ?_|refine Bu ?_)
  (conv=>whnf)
  refine Lp.mk (ι:=Nat × List Int) (fun i=>[(1,.hold .one (aW .imm la)),(5,.hold .one (aI .own i.2)),(7,.hold .one [I ((i.1:Nat):Int)])]) (fun i=>i.1≤la.length∧i.2=pgs sp (la.take i.1)∧(la.take i.1).all cS=true∧i.2.Nodup∧i.2.length≤1048576+64*i.1) (fun i=>la.length - i.1) ((0,S)) ?_ (⟨Nat.zero_le _,by rw[hS];unfold pgs;simp,rfl,hnd,by simp only;omega⟩) fun i hi=>?_
  ·repeat'(first|exact trivial|rfl|refine And.intro ?_ ?_)
  obtain⟨i,S2⟩:=i
  obtain⟨hi2,hS2,hok2,hnd2,hb2⟩:=hi
  simp only at hi2 hS2 hok2 hnd2 hb2 ⊢
  by_cases li:i<la.length
  ·have hx:=au li
   have h1:=pk (nth la i)
   cases e1:cS (nth la i)<;>rw[e1]at h1
   ·repeat'((conv=>whnf);first|with_reducible (first|refine Lm ?_|refine Wm (by omega) ?_|refine Ix.nat (aa hx) ?_|refine dT (by omega) (fun hq=>?_)|refine Bn ?_|refine Fm rfl ?_)|refine Bt ?_|refine Bu ?_|refine Cl.mk h1 ?_)
    exact congrArg (fun z=>[B z]) ((mG hx e1).symm)
   ·have hpg:=bn e1
    repeat'((conv=>whnf);first|with_reducible (first|refine Lm ?_|refine Wm (by omega) ?_|refine Ix.nat (aa hx) ?_|refine dT (by omega) (fun hq=>?_)|refine Bn ?_|refine Fm rfl ?_)|refine Bt ?_|refine Bu ?_|refine Cl.mk h1 ?_)
    (conv=>whnf)
    refine Lp.mk (ι:=Nat × List Int) (fun k=>[(1,.hold .one (aW .imm la)),(5,.hold .one (aI .own k.2)),(7,.hold .one [I ((i:Nat):Int)]),(8,.hold .one [I ((k.1:Nat):Int)])]) (fun k=>k.1≤(nth la i).Pages.toNat∧k.2=S2++lpgs (nth la i) k.1∧k.2.Nodup) (fun k=>(nth la i).Pages.toNat - k.1) ((0,S2)) ?_ (⟨Nat.zero_le _,by simp[lpgs],hnd2⟩) fun k hk=>?_
    ·repeat'(first|exact trivial|rfl|refine And.intro ?_ ?_)
    obtain⟨k,S3⟩:=k
    obtain⟨hk,hS3,hnd3⟩:=hk
    simp only at hk hS3 hnd3 ⊢
    have hl3:S3.length=S2.length+k:=by rw[hS3,List.length_append,y2]
    by_cases lk:k<(nth la i).Pages.toNat
    ·repeat'((conv=>whnf);first|with_reducible (first|refine Lm ?_|refine Wm (by omega) ?_|refine Ix.nat (aa hx) ?_|refine dT (by omega) (fun hq=>?_)|refine Bf.D (fun hq=>?_) (fun hq=>?_)|refine Bn ?_|refine Fm rfl ?_)|refine Bt ?_|refine Bu ?_|refine Cl.eq (kD S3 _ (by omega)) ⟨⟨rfl,eC _⟩,⟨rfl,rfl⟩,trivial⟩ ?_|refine Ap.mk dl (fun r hr=>by rw[List.mem_singleton.1 hr];rfl) (by simp[aQ,dU]) (by simp;omega) (by show _*8≤_;simp;omega) rfl ?_)
     all_goals first
      | exact congrArg (fun z=>[B z]) ((iL (S:=S3) (by rw[hS3,hS2];exact vQ hx lk) (by assumption)).symm)
      | ((conv=>whnf)
         refine Nx.mk (k+1,S3++[(nth la i).Page+(k:Nat)]) ⟨(by simp only;omega),(by simp only;rw[hS3,jd,List.append_assoc]),jC hnd3 (by assumption)⟩ (by simp only;omega) ?_
         (repeat'(first|exact trivial|rfl|exact And.intro rfl (And.intro (congrArg (C.s dy.own) (by simp[rI])) trivial)|refine And.intro ?_ ?_)))
    ·obtain rfl:k=(nth la i).Pages.toNat:=by omega
     repeat'((conv=>whnf);first|with_reducible (first|refine Lm ?_|refine Wm (by omega) ?_|refine Ix.nat (aa hx) ?_|refine dF (by omega) (fun hq=>?_)|refine Bn ?_|refine Fm rfl ?_)|refine Bt ?_|refine Bu ?_)
     ((conv=>whnf);refine Nx.mk (i+1,S3) ⟨(by simp only;omega),(by simp only;rw[hS3,hS2,←m8 sp hx]),(ce hx hok2 e1),hnd3,(by simp only;omega)⟩ (by simp only;omega) ?_;(repeat'(first|exact trivial|rfl|refine And.intro ?_ ?_)))
  ·obtain rfl:i=la.length:=by omega
   rw[List.take_length]at hok2 hS2
   repeat'((conv=>whnf);first|with_reducible (first|refine Lm ?_|refine Wm (by omega) ?_|refine dF (by omega) (fun hq=>?_)|refine Bn ?_|refine Fm rfl ?_)|refine Bt ?_|refine Bu ?_)
   exact congrArg (fun z=>[B z]) ((oI hok hok2 (by rw[←hS2];exact hnd2)).symm)
def ins (S:List Int) (p:Int):List Int:=if p∈S then S else S++[p]
theorem BV {p:Int} : ∀ {S:List Int},p∈S→mput (ec S) p (.bool true)=ec S
 | x::S,h=>by
  simp only[ec,List.map_cons,mput]
  by_cases hx:x=p
  ·rw[if_pos hx,hx]
  ·rw[if_neg hx]
   have:=BV (S:=S) ((List.mem_cons.1 h).resolve_left fun e=>hx e.symm)
   simp only[ec]at this
   rw[this]
theorem sB (S:List Int) (p:Int):ec (ins S p)=mput (ec S) p (.bool true):=by
 unfold ins
 split
 ·rw[BV (by assumption)]
 ·rw[qs (by assumption)]
theorem Gk (S:List Int) (p:Int):bm Tryz.prog 226 false [.val none [I p],.ptr [.m (ec S)]] [.val none [I p],.ptr [.m (ec (ins S p))]] .one [B (decide (p∉S))]:=by
 refine bL (n:=12) (mo:=[]) (tb:=[]) [(0,0),(0,0)] Tryz.func226 (by kernel_rfl) rfl (by kernel_rfl) (by rfl) (by rfl) (.inr ⟨trivial,trivial⟩) fun u q=>?_
 repeat'((conv=>whnf);first|with_reducible (first|refine Lm ?_|refine Wm (by omega) ?_|refine Bn ?_|refine Fm rfl ?_)|refine Bt ?_|refine Bu ?_|refine Ml.mk (lL p S) ?_|refine Mu.mk (sB S p) ?_)
 refine cY.mk rfl ?_ ?_
 ·exact congrArg (fun z=>[B z]) (by simp)
 ·repeat'(first|exact trivial|rfl|refine And.intro ?_ ?_)
theorem nM (sp:List am) (la:List ah) (hs1:cf sp) (hs2:bO la):af Tryz.prog 121 false [.val none (bt .imm sp),.val none (aW .imm la)] .one [B (bj sp la)]:=by
 have hl1:=hs1.1
 have hl2:=hs2.1
 refine nn (n:=54) (mo:=[(226,[0,2])]) (tb:=[]) Tryz.func121 (by kernel_rfl) rfl (by kernel_rfl) (by rfl) (.inr ⟨trivial,trivial⟩) ?_
 repeat'((conv=>whnf);first|with_reducible (first|refine Lm ?_|refine Wm (by omega) ?_|refine Bn ?_|refine Fm rfl ?_)|refine Bt ?_|refine Bu ?_)
 (conv=>whnf)
 refine Lp.mk (ι:=Nat × List Int) (fun i=>[(1,.hold .one (aW .imm la)),(5,.hold .box [.m (ec i.2)]),(6,.fn 226 [5]),(14,.hold .one (bt .imm sp)),(15,.hold .one [I (sp.length)]),(16,.hold .one [I ((i.1:Nat):Int)])]) (fun i=>i.1≤sp.length∧i.2=(sp.take i.1).map (·.Page)∧(sp.take i.1).all b8=true∧i.2.Nodup) (fun i=>sp.length - i.1) ((0,[])) ?_ (⟨Nat.zero_le _,rfl,rfl,List.nodup_nil⟩) fun i hi=>?_
 ·repeat'(first|exact trivial|rfl|refine And.intro ?_ ?_)
 obtain⟨i,S⟩:=i
 obtain⟨hi,hS,hok,hnd⟩:=hi
 simp only at hi hS hok hnd ⊢
 by_cases li:i<sp.length
 ·have hx:=au li
  have h1:=fW (nth sp i)
  cases e1:b8 (nth sp i)<;>rw[e1]at h1
  ·repeat'((conv=>whnf);first|with_reducible (first|refine Lm ?_|refine Wm (by omega) ?_|refine Ix.nat (aa hx) ?_|refine dT (by omega) (fun hq=>?_)|refine Bn ?_|refine Fm rfl ?_)|refine Bt ?_|refine Bu ?_|refine Cl.mk h1 ?_)
   exact congrArg (fun z=>[B z]) ((n9 hx e1).symm)
  ·repeat'((conv=>whnf);first|with_reducible (first|refine Lm ?_|refine Wm (by omega) ?_|refine Ix.nat (aa hx) ?_|refine dT (by omega) (fun hq=>?_)|refine Bf.D (fun hq=>?_) (fun hq=>?_)|refine Bn ?_|refine Fm rfl ?_)|refine Bt ?_|refine Bu ?_|refine Cl.mk h1 ?_|refine dZ.mk (Gk S _) (.inl rfl) ?_)
   all_goals first
    | exact congrArg (fun z=>[B z]) ((iL (S:=S) (by rw[hS];exact zG hx) (by grind)).symm)
    |(have hnin:(nth sp i).Page∉S:=by assumption
      (conv=>whnf)
      refine Nx.mk (i+1,ins S (nth sp i).Page) ⟨(by simp only;omega),(by simp only;unfold ins;rw[if_neg hnin,hS,List.take_add_one,hx];simp),(ce hx hok e1),(by simp only;unfold ins;rw[if_neg hnin];exact jC hnd hnin)⟩ (by simp only;omega) ?_
      (repeat'(first|exact trivial|rfl|refine And.intro ?_ ?_)))
 ·obtain rfl:i=sp.length:=by omega
  rw[List.take_length]at hok hS
  repeat'((conv=>whnf);first|with_reducible (first|refine Lm ?_|refine Wm (by omega) ?_|refine dF (by omega) (fun hq=>?_)|refine Bn ?_|refine Fm rfl ?_)|refine Bt ?_|refine Bu ?_)
  (conv=>whnf)
  refine Lp.mk (ι:=Nat × List Int) (fun i=>[(5,.hold .box [.m (ec i.2)]),(6,.fn 226 [5]),(31,.hold .one (aW .imm la)),(32,.hold .one [I (la.length)]),(33,.hold .one [I ((i.1:Nat):Int)])]) (fun i=>i.1≤la.length∧i.2=pgs sp (la.take i.1)∧(la.take i.1).all cS=true∧i.2.Nodup) (fun i=>la.length - i.1) ((0,S)) ?_ (⟨Nat.zero_le _,by rw[hS];unfold pgs;simp,rfl,hnd⟩) fun i hi=>?_
  ·repeat'(first|exact trivial|rfl|refine And.intro ?_ ?_)
  obtain⟨i,S2⟩:=i
  obtain⟨hi2,hS2,hok2,hnd2⟩:=hi
  simp only at hi2 hS2 hok2 hnd2 ⊢
  by_cases li:i<la.length
  ·have hx:=au li
   have h1:=p8 (nth la i)
   cases e1:cS (nth la i)<;>rw[e1]at h1
   ·repeat'((conv=>whnf);first|with_reducible (first|refine Lm ?_|refine Wm (by omega) ?_|refine Ix.nat (aa hx) ?_|refine dT (by omega) (fun hq=>?_)|refine Bn ?_|refine Fm rfl ?_)|refine Bt ?_|refine Bu ?_|refine Cl.mk h1 ?_)
    exact congrArg (fun z=>[B z]) ((mG hx e1).symm)
   ·have hpg:=bn e1
    repeat'((conv=>whnf);first|with_reducible (first|refine Lm ?_|refine Wm (by omega) ?_|refine Ix.nat (aa hx) ?_|refine dT (by omega) (fun hq=>?_)|refine Bn ?_|refine Fm rfl ?_)|refine Bt ?_|refine Bu ?_|refine Cl.mk h1 ?_)
    (conv=>whnf)
    refine Lp.mk (ι:=Nat × List Int) (fun k=>[(5,.hold .box [.m (ec k.2)]),(6,.fn 226 [5]),(10,.hold .box (ah.enc .imm (nth la i))),(11,.hold .one [I ((k.1:Nat):Int)]),(31,.hold .one (aW .imm la)),(32,.hold .one [I (la.length)]),(33,.hold .one [I ((i:Nat):Int)])]) (fun k=>k.1≤(nth la i).Pages.toNat∧k.2=S2++lpgs (nth la i) k.1∧k.2.Nodup) (fun k=>(nth la i).Pages.toNat - k.1) ((0,S2)) ?_ (⟨Nat.zero_le _,by simp[lpgs],hnd2⟩) fun k hk=>?_
    ·repeat'(first|exact trivial|rfl|refine And.intro ?_ ?_)
    obtain⟨k,S3⟩:=k
    obtain⟨hk,hS3,hnd3⟩:=hk
    simp only at hk hS3 hnd3 ⊢
    by_cases lk:k<(nth la i).Pages.toNat
    ·repeat'((conv=>whnf);first|with_reducible (first|refine Lm ?_|refine Wm (by omega) ?_|refine dT (by omega) (fun hq=>?_)|refine Bf.D (fun hq=>?_) (fun hq=>?_)|refine Bn ?_|refine Fm rfl ?_)|refine Bt ?_|refine Bu ?_|refine dZ.mk (Gk S3 _) (.inl rfl) ?_)
     all_goals first
      | exact congrArg (fun z=>[B z]) ((iL (S:=S3) (by rw[hS3,hS2];exact vQ hx lk) (by grind)).symm)
      |(have hnin:(nth la i).Page+(k:Nat)∉S3:=by assumption
        (conv=>whnf)
        refine Nx.mk (k+1,ins S3 ((nth la i).Page+(k:Nat))) ⟨(by simp only;omega),(by simp only;unfold ins;rw[if_neg hnin,hS3,jd,List.append_assoc]),(by simp only;unfold ins;rw[if_neg hnin];exact jC hnd3 hnin)⟩ (by simp only;omega) ?_
        (repeat'(first|exact trivial|rfl|refine And.intro ?_ ?_)))
    ·obtain rfl:k=(nth la i).Pages.toNat:=by omega
     repeat'((conv=>whnf);first|with_reducible (first|refine Lm ?_|refine Wm (by omega) ?_|refine dF (by omega) (fun hq=>?_)|refine Bn ?_|refine Fm rfl ?_)|refine Bt ?_|refine Bu ?_)
     ((conv=>whnf);refine Nx.mk (i+1,S3) ⟨(by simp only;omega),(by simp only;rw[hS3,hS2,←m8 sp hx]),(ce hx hok2 e1),hnd3⟩ (by simp only;omega) ?_;(repeat'(first|exact trivial|rfl|refine And.intro ?_ ?_)))
  ·obtain rfl:i=la.length:=by omega
   rw[List.take_length]at hok2 hS2
   repeat'((conv=>whnf);first|with_reducible (first|refine Lm ?_|refine Wm (by omega) ?_|refine dF (by omega) (fun hq=>?_)|refine Bn ?_|refine Fm rfl ?_)|refine Bt ?_|refine Bu ?_)
   exact congrArg (fun z=>[B z]) ((oI hok hok2 (by rw[←hS2];exact hnd2)).symm)
end Go.Proofs.YtogajjgmcnjkbaaGreat.Ab
