/- Used frames, pages of a frame, spans on a page, addresses on their way and in use: contracts, the reference's and the program's. No condition. -/
import Derived.Test.YtplcalfnngkffaaGreatMg
import Derived.Test.YtplcalfnngkffaaGreatMh
import Derived.Test.YtplcalfnngkffaaGreatShelf
set_option linter.unusedVariables false

namespace Go.Proofs.YtplcalfnngkffaaGreat.Ab
open Go.RowKit
set_option maxRecDepth 20000
set_option maxHeartbeats 4000000
def gJ (us:List Bool):Nat→Int
 | 0=>0
 | i+1=>gJ us i+(if nth us i then 1 else 0)
def du (f:aD):Int:=if cI f then gJ f.Used f.Used.length else 0
theorem yS {us:List Bool} {i:Nat} (h:nth us i=true):gJ us (i+1)=gJ us i+1:=by show gJ us i+(if nth us i then 1 else 0)=_;rw[h];rfl
theorem Bx {us:List Bool} {i:Nat} (h:nth us i=false):gJ us (i+1)=gJ us i:=by show gJ us i+(if nth us i then 1 else 0)=_;rw[h];simp
theorem nq (f:aD) (hs:aD.sml f):ah Tryz.prog 19 false [.val (some 2) (aD.enc .imm f)] .one [I (du f)]:=by
 have hu:f.Used.length≤1048576:=hs.2
 have hf:=p9 f hs
 cases h1:cI f<;>rw[h1]at hf
 ·refine fO 24 [] Tryz.func19 rfl ?_
  repeat'(first|refine gO ?_|fail)
  (conv=>whnf)
  refine Lp.mk (ι:=Nat) (fun i=>[(1,.hold .box (aD.enc .imm f)),(3,.hold .one [I ((0:Int))]),(4,.hold .one [I ((i:Nat):Int)])]) (fun i=>i=0) (fun i=>i) (0) ?_ (rfl) fun i hi=>?_
  ·exact wA
  subst hi
  repeat'(first|refine gO ?_|(conv=>whnf);first|with_reducible refine Bf.D (fun hq=>?_) (fun hq=>?_)|refine Cl.mk hf ?_)
  all_goals exact congrArg (fun z=>[I z]) (by unfold du;rw[h1];rfl)
 ·refine fO 24 [] Tryz.func19 rfl ?_
  repeat'(first|refine gO ?_|fail)
  (conv=>whnf)
  refine Lp.mk (ι:=Nat) (fun i=>[(1,.hold .box (aD.enc .imm f)),(3,.hold .one [I (gJ f.Used i)]),(4,.hold .one [I ((i:Nat):Int)])]) (fun i=>i≤f.Used.length∧0≤gJ f.Used i∧gJ f.Used i≤i) (fun i=>f.Used.length - i) (0) ?_ (⟨Nat.zero_le _,by simp[gJ],by simp[gJ]⟩) fun i hi=>?_
  ·exact wA
  obtain⟨hi,s0,s1⟩:=hi
  by_cases li:i<f.Used.length
  ·have hx:=ao li
   cases hb:nth f.Used i<;>rw[hb]at hx
   ·have hst:=Bx hb
    repeat'(first|refine gD ?_|(conv=>whnf);first|with_reducible refine Ix.nat (aa hx) ?_|refine Cl.mk hf ?_)
    ((conv=>whnf);refine Nx.mk (i+1) ⟨by omega,by omega,by omega⟩ (by omega) ?_)
    rw[hst]
    exact wA
   ·have hst:=yS hb
    repeat'(first|refine gD ?_|(conv=>whnf);first|with_reducible refine Ix.nat (aa hx) ?_|refine Cl.mk hf ?_)
    ((conv=>whnf);refine Nx.mk (i+1) ⟨by omega,by omega,by omega⟩ (by omega) ?_)
    rw[hst]
    exact wA
  ·obtain rfl:i=f.Used.length:=by omega
   repeat'(first|refine gD ?_|(conv=>whnf);first|refine Cl.mk hf ?_)
   exact congrArg (fun z=>[I z]) (by unfold du;rw[h1];rfl)
theorem nw (f:aD) (hs:aD.sml f):ah Tryz.prog 62 false [.val (some 2) (aD.enc .imm f)] .one [I (du f)]:=by
 have hu:f.Used.length≤1048576:=hs.2
 have hf:=pI f hs
 cases h1:cI f<;>rw[h1]at hf
 ·refine fO 21 [] Tryz.func62 rfl ?_
  repeat'(first|refine gO ?_|(conv=>whnf);first|refine Cl.mk hf ?_)
  all_goals exact congrArg (fun z=>[I z]) (by unfold du;rw[h1];rfl)
 ·refine fO 21 [] Tryz.func62 rfl ?_
  repeat'(first|refine gO ?_|(conv=>whnf);first|refine Cl.mk hf ?_)
  (conv=>whnf)
  refine Lp.mk (ι:=Nat) (fun i=>[(3,.hold .one [I (gJ f.Used i)]),(10,.hold .one (fu .imm f.Used)),(11,.hold .one [I (f.Used.length)]),(12,.hold .one [I ((i:Nat):Int)])]) (fun i=>i≤f.Used.length∧0≤gJ f.Used i∧gJ f.Used i≤i) (fun i=>f.Used.length - i) (0) ?_ (⟨Nat.zero_le _,by simp[gJ],by simp[gJ]⟩) fun i hi=>?_
  ·exact wA
  obtain⟨hi,s0,s1⟩:=hi
  by_cases li:i<f.Used.length
  ·have hx:=ao li
   cases hb:nth f.Used i<;>rw[hb]at hx
   ·have hst:=Bx hb
    repeat'(first|refine gD ?_|(conv=>whnf);first|with_reducible refine Ix.nat (aa hx) ?_)
    ((conv=>whnf);refine Nx.mk (i+1) ⟨by omega,by omega,by omega⟩ (by omega) ?_)
    rw[hst]
    exact wA
   ·have hst:=yS hb
    repeat'(first|refine gD ?_|(conv=>whnf);first|with_reducible refine Ix.nat (aa hx) ?_)
    ((conv=>whnf);refine Nx.mk (i+1) ⟨by omega,by omega,by omega⟩ (by omega) ?_)
    rw[hst]
    exact wA
  ·obtain rfl:i=f.Used.length:=by omega
   repeat'(first|refine gD ?_|fail)
   exact congrArg (fun z=>[I z]) (by unfold du;rw[h1];rfl)
def xN (h:ac):Prop:=aB.sml h.Kernel.Machine.Table
theorem jn (h:ac) (p:Int) (hs:xN h):ah Tryz.prog 263 false [.val (some 24) (ac.enc .imm h),.val none [I p]] .one (aI .own (bi h p)):=by
 refine fO 23 [] Tryz.func263 rfl ?_ (.inr (bN _))
 repeat'((conv=>whnf);first|with_reducible (first|refine Lm ?_|refine Wm (by omega) ?_|refine Bf.E (fun hq=>?_) (fun hq=>?_)|refine Bn ?_|refine pe.wk rfl ?_)|refine Bt ?_|refine Bu ?_|refine Cl.mk (fh h.Kernel.Machine.Table p hs) ?_|refine Cl.mk (gv h.Kernel.Machine.Table _ hs) ?_)
 all_goals(unfold bi;first|rw[if_pos (by assumption)]|rw[if_neg (by assumption)])
 all_goals exact⟨rfl,trivial⟩
theorem ns (h:ac) (p:Int) (hs:xN h):ah Tryz.prog 10 false [.val (some 24) (ac.enc .imm h),.val none [I p]] .one (aI .own (bi h p)):=by
 refine fO 22 [] Tryz.func10 rfl ?_ (.inr (bN _))
 repeat'((conv=>whnf);first|with_reducible (first|refine Lm ?_|refine Wm (by omega) ?_|refine Bf.E (fun hq=>?_) (fun hq=>?_)|refine Bn ?_|refine pe.wk rfl ?_)|refine Bt ?_|refine Bu ?_|refine Cl.mk (dQ h.Kernel.Machine.Table p hs) ?_|refine Cl.mk (jM h.Kernel.Machine.Table _ hs) ?_)
 all_goals(unfold bi;first|rw[if_pos (by assumption)]|rw[if_neg (by assumption)])
 all_goals exact⟨rfl,trivial⟩
theorem eM (k:af) (p:Int) (hs:aB.sml k.Machine.Table):ah Tryz.prog 135 false [.val (some 5) (af.enc .imm k),.val none [I p]] .one [B (decide ((ax k.Machine.Table p).Mode≠0))]:=by
 refine fO 12 [] Tryz.func135 rfl ?_
 repeat'(first|refine gO ?_|(conv=>whnf);first|refine Cl.mk (dQ k.Machine.Table p hs) ?_)
 exact congrArg (fun z=>[B z]) ((by rw[Bool.eq_iff_iff];simp))
theorem oB (z:Int):ah Tryz.prog 52 false [.val none [I z]] .one [B (decide (0≤z∧z≤1073741823))]:=by
 refine fO 5 [] Tryz.func52 rfl ?_
 repeat'(first|refine gO ?_|(conv=>whnf);first|refine Cl.mk (aL z 0 1073741823) ?_)
 rfl
theorem kX (h:ac) (p:Int) (hl:h.Spans.length≤1048576):ah Tryz.prog 189 false [.val (some 24) (ac.enc .imm h),.val none [I p]] .one [I (ge h p)]:=by
 refine fO 22 [] Tryz.func189 rfl ?_
 repeat'(first|refine gO ?_|fail)
 (conv=>whnf)
 refine Lp.mk (ι:=Nat) (fun i=>[(1,.hold .one [I (p)]),(2,.hold .box (ac.enc .imm h)),(5,.hold .one [I ((i:Nat):Int)])]) (fun i=>i≤h.Spans.length∧∀ (j:Nat) (z:am),j<i→h.Spans[j]? = some z→jq p z=false) (fun i=>h.Spans.length - i) (0) ?_ (⟨Nat.zero_le _,fun j z hj=>by omega⟩) fun i hi=>?_
 ·exact wA
 obtain⟨hi,ai⟩:=hi
 by_cases li:i<h.Spans.length
 ·have hx:=ao li
  repeat'(first|refine gD ?_|(conv=>whnf);first|with_reducible (first|refine Ix.nat (aa hx) ?_|refine Bf.E (fun hq=>?_) (fun hq=>?_)))
  all_goals first
   | exact congrArg (fun z=>[I z]) (gu hx (decide_eq_true (by assumption)) ai).symm
   | ((conv=>whnf);refine Nx.mk (i+1) ⟨by omega,gE hx (decide_eq_false (by assumption)) ai⟩ (by omega) ?_;(exact wA))
 ·repeat'(first|refine gD ?_|fail)
  exact congrArg (fun z=>[I z]) (k7 (by omega) ai).symm
theorem yx (s:am) (p:Int):ah Tryz.prog 39 false [.val (some 3) (am.enc .imm s),.ptr [I p]] .one [B (jq p s)]:=by
 refine fO 8 [] Tryz.func39 rfl ?_
 repeat'(first|refine gO ?_|fail)
 exact congrArg (fun z=>[B z]) ((by unfold jq;rw[Bool.eq_iff_iff];simp))
theorem tA (h:ac) (p:Int) (hl:h.Spans.length≤1048576):ah Tryz.prog 11 false [.val (some 24) (ac.enc .imm h),.val none [I p]] .one [I (ge h p)]:=by
 refine fO 9 [] Tryz.func11 rfl ?_
 repeat'(first|refine gO ?_|(conv=>whnf);first|refine Cq.mk (yO (some 3) (am.enc .imm) (jq p) h.Spans) (yx default p).has (fun L k rcs hQ=>?_) ?_|refine Cl.mk (vb h.Spans (jq p) (by omega)) ?_)
 ·obtain⟨y,-,rfl,rfl,rfl⟩:=hQ
  exact yx y p
 ·rfl
def flight1 (m:aK) (i:Nat):List Int:=(m.Buffers.take i).flatMap fun l=>l.map (·.Addr)
def flight2 (m:aK) (i:Nat):List Int:=(m.Inbox.take i).flatten
theorem mV {m:aK} {i:Nat} {l:List aM} (h:m.Buffers[i]? = some l):flight1 m (i+1)=flight1 m i++l.map (·.Addr):=by
 unfold flight1;rw[List.take_add_one,h,List.flatMap_append];simp
theorem mT {m:aK} {i:Nat} {l:List Int} (h:m.Inbox[i]? = some l):flight2 m (i+1)=flight2 m i++l:=by
 unfold flight2;rw[List.take_add_one,h,List.flatten_append];simp
theorem nZ {m:aK} (h:dZ m=true):bh m=flight1 m m.Buffers.length++flight2 m m.Inbox.length:=by
 unfold bh flight1 flight2;rw[if_pos h,List.take_length,List.take_length]
theorem tn {m:aK} (h:dZ m=false):bh m=[]:=by
 unfold bh;rw[h];rfl
theorem nb {m:aK} (h:dZ m=true):1≤m.Buffers.length∧m.Buffers.length≤4∧m.Inbox.length=m.Buffers.length:=by
 unfold dZ at h;simp only[Bool.and_eq_true,decide_eq_true_eq]at h;exact h.1.1
theorem BZ {l:List Int} : ∀ r∈l.map (rI .imm),r.length=1:=by
 intro r hr;obtain⟨z,-,rfl⟩:=List.mem_map.1 hr;rfl
theorem GB {l:List Int} : ∀ r∈l.map (rI .imm),aW r=true:=by
 intro r hr;obtain⟨z,-,rfl⟩:=List.mem_map.1 hr;rfl
theorem yj (m:aK) (hs:aK.sml m):ah Tryz.prog 273 false [.val (some 2) (aK.enc .imm m)] .one (aI .own (bh m)):=by
 have h1:=th m hs
 cases e1:dZ m<;>rw[e1]at h1
 ·refine fO 56 [] Tryz.func273 rfl ?_ (.inr (bN _))
  repeat'((conv=>whnf);first|with_reducible (first|refine Lm ?_|refine Wm (by omega) ?_|refine Bn ?_|refine pe.wk rfl ?_)|refine Bt ?_|refine Bu ?_|refine Cl.mk h1 ?_)
  all_goals(rw[tn e1];exact⟨rfl,trivial⟩)
 ·obtain⟨n1,n2,n3⟩:=nb e1
  refine fO 56 [] Tryz.func273 rfl ?_ (.inr (bN _))
  repeat'(first|refine gO ?_|(conv=>whnf);first|refine Cl.mk h1 ?_)
  (conv=>whnf)
  refine Lp.mk (ι:=Nat × List Int) (fun i=>[(1,.hold .box (aK.enc .imm m)),(3,.hold .one (aI .own i.2)),(4,.hold .one [I ((i.1:Nat):Int)])]) (fun i=>i.1≤m.Buffers.length∧i.2=flight1 m i.1∧i.2.length≤1048576*i.1) (fun i=>m.Buffers.length - i.1) ((0,[])) ?_ (⟨Nat.zero_le _,rfl,Nat.zero_le _⟩) fun i hi=>?_
  ·exact wA
  obtain⟨i,S⟩:=i
  obtain⟨hi,hS,hb⟩:=hi
  simp only at hi hS hb ⊢
  by_cases li:i<m.Buffers.length
  ·have hx:=ao li
   have hb1:(nth m.Buffers i).length≤1048576:=(hs.1.2 _ (aC li)).1
   repeat'(first|refine gD ?_|(conv=>whnf);first|with_reducible refine Ix.nat (aa hx) ?_)
   (conv=>whnf)
   refine Lp.mk (ι:=Nat × List Int) (fun k=>[(1,.hold .box (aK.enc .imm m)),(3,.hold .one (aI .own k.2)),(4,.hold .one [I ((i:Nat):Int)]),(5,.hold .one [I ((k.1:Nat):Int)])]) (fun k=>k.1≤(nth m.Buffers i).length∧k.2=S++((nth m.Buffers i).take k.1).map (·.Addr)) (fun k=>(nth m.Buffers i).length - k.1) ((0,S)) ?_ (⟨Nat.zero_le _,by simp⟩) fun k hk=>?_
   ·exact wA
   obtain⟨k,S'⟩:=k
   obtain⟨hk,hS'⟩:=hk
   simp only at hk hS' ⊢
   have hl':S'.length=S.length+k:=by rw[hS',List.length_append,List.length_map,List.length_take];omega
   by_cases lk:k<(nth m.Buffers i).length
   ·have hz:=ao lk
    repeat'(first|refine gD ?_|(conv=>whnf);first|with_reducible (first|refine Ix.nat (aa hx) ?_|refine Ix.nat (aa hz) ?_)|refine Ap.mk di (fun r hr=>by rw[List.mem_singleton.1 hr];rfl) (by simp[aW,eB]) (by simp;omega) (by show _*8≤_;simp;omega) rfl ?_)
    ((conv=>whnf)
     refine Nx.mk (k+1,S'++[(nth (nth m.Buffers i) k).Addr]) ⟨(by simp only;omega),(by simp only;rw[hS',List.take_add_one,hz,List.map_append,List.append_assoc];simp)⟩ (by simp only;omega) ?_
     (repeat'(first|exact trivial|rfl|exact And.intro rfl (And.intro (congrArg (C.s dE.own) (by simp[rI])) trivial)|refine And.intro ?_ ?_)))
   ·obtain rfl:k=(nth m.Buffers i).length:=by omega
    rw[List.take_length]at hS'
    repeat'(first|refine gD ?_|(conv=>whnf);first|with_reducible refine Ix.nat (aa hx) ?_)
    ((conv=>whnf);refine Nx.mk (i+1,S') ⟨(by simp only;omega),(by simp only;rw[mV hx,←hS,hS']),(by simp only;omega)⟩ (by simp only;omega) ?_;(exact wA))
  ·obtain rfl:i=m.Buffers.length:=by omega
   repeat'(first|refine gD ?_|fail)
   (conv=>whnf)
   refine Lp.mk (ι:=Nat × List Int) (fun k=>[(1,.hold .box (aK.enc .imm m)),(3,.hold .one (aI .own k.2)),(6,.hold .one [I ((k.1:Nat):Int)])]) (fun k=>k.1≤m.Inbox.length∧k.2=S++flight2 m k.1∧k.2.length≤S.length+1048576*k.1) (fun k=>m.Inbox.length - k.1) ((0,S)) ?_ (⟨Nat.zero_le _,by simp[flight2],by simp⟩) fun k hk=>?_
   ·exact wA
   obtain⟨k,S'⟩:=k
   obtain⟨hk,hS',hb'⟩:=hk
   simp only at hk hS' hb' ⊢
   by_cases lk:k<m.Inbox.length
   ·have hz:=ao lk
    have hb2:(nth m.Inbox k).length≤1048576:=hs.2.2 _ (aC lk)
    repeat'(first|refine gD ?_|(conv=>whnf);first|with_reducible refine Ix.nat (aa hz) ?_|refine Ap.mk di BZ (fun _=>GB) (by simp;omega) (by show _*8≤_;simp;omega) rfl ?_)
    ((conv=>whnf)
     refine Nx.mk (k+1,S'++nth m.Inbox k) ⟨(by simp only;omega),(by simp only;rw[mT hz,hS',List.append_assoc]),(by simp only;rw[List.length_append];omega)⟩ (by simp only;omega) ?_
     (repeat'(first|exact trivial|rfl|exact And.intro rfl (And.intro (congrArg (C.s dE.own) (by simp[rI])) trivial)|refine And.intro ?_ ?_)))
   ·obtain rfl:k=m.Inbox.length:=by omega
    repeat'(first|refine gD ?_|fail)
    rw[nZ e1,←hS,←hS'];rfl
theorem xm (m:aK) (hs:aK.sml m):ah Tryz.prog 54 false [.val (some 2) (aK.enc .imm m)] .one (aI .own (bh m)):=by
 have h1:=tJ m hs
 cases e1:dZ m<;>rw[e1]at h1
 ·refine fO 46 [] Tryz.func54 rfl ?_ (.inr (bN _))
  repeat'((conv=>whnf);first|with_reducible (first|refine Lm ?_|refine Wm (by omega) ?_|refine Bn ?_|refine pe.wk rfl ?_)|refine Bt ?_|refine Bu ?_|refine Cl.mk h1 ?_)
  all_goals(rw[tn e1];exact⟨rfl,trivial⟩)
 ·obtain⟨n1,n2,n3⟩:=nb e1
  refine fO 46 [] Tryz.func54 rfl ?_ (.inr (bN _))
  repeat'(first|refine gO ?_|(conv=>whnf);first|refine Cl.mk h1 ?_)
  (conv=>whnf)
  refine Lp.mk (ι:=Nat × List Int) (fun i=>[(1,.hold .box (aK.enc .imm m)),(3,.hold .one (aI .own i.2)),(15,.hold .one (dG .imm m.Buffers)),(16,.hold .one [I (m.Buffers.length)]),(17,.hold .one [I ((i.1:Nat):Int)])]) (fun i=>i.1≤m.Buffers.length∧i.2=flight1 m i.1∧i.2.length≤1048576*i.1) (fun i=>m.Buffers.length - i.1) ((0,[])) ?_ (⟨Nat.zero_le _,rfl,Nat.zero_le _⟩) fun i hi=>?_
  ·exact wA
  obtain⟨i,S⟩:=i
  obtain⟨hi,hS,hb⟩:=hi
  simp only at hi hS hb ⊢
  by_cases li:i<m.Buffers.length
  ·have hx:=ao li
   have hb1:(nth m.Buffers i).length≤1048576:=(hs.1.2 _ (aC li)).1
   repeat'(first|refine gD ?_|(conv=>whnf);first|with_reducible refine Ix.nat (aa hx) ?_)
   (conv=>whnf)
   refine Lp.mk (ι:=Nat × List Int) (fun k=>[(1,.hold .box (aK.enc .imm m)),(3,.hold .one (aI .own k.2)),(15,.hold .one (dG .imm m.Buffers)),(16,.hold .one [I (m.Buffers.length)]),(17,.hold .one [I ((i:Nat):Int)]),(21,.hold .one (b6 .imm (nth m.Buffers i))),(22,.hold .one [I ((nth m.Buffers i).length)]),(23,.hold .one [I ((k.1:Nat):Int)])]) (fun k=>k.1≤(nth m.Buffers i).length∧k.2=S++((nth m.Buffers i).take k.1).map (·.Addr)) (fun k=>(nth m.Buffers i).length - k.1) ((0,S)) ?_ (⟨Nat.zero_le _,by simp⟩) fun k hk=>?_
   ·exact wA
   obtain⟨k,S'⟩:=k
   obtain⟨hk,hS'⟩:=hk
   simp only at hk hS' ⊢
   have hl':S'.length=S.length+k:=by rw[hS',List.length_append,List.length_map,List.length_take];omega
   by_cases lk:k<(nth m.Buffers i).length
   ·have hz:=ao lk
    repeat'(first|refine gD ?_|(conv=>whnf);first|with_reducible refine Ix.nat (aa hz) ?_|refine Ap.mk di (fun r hr=>by rw[List.mem_singleton.1 hr];rfl) (by simp[aW,eB]) (by simp;omega) (by show _*8≤_;simp;omega) rfl ?_)
    ((conv=>whnf)
     refine Nx.mk (k+1,S'++[(nth (nth m.Buffers i) k).Addr]) ⟨(by simp only;omega),(by simp only;rw[hS',List.take_add_one,hz,List.map_append,List.append_assoc];simp)⟩ (by simp only;omega) ?_
     (repeat'(first|exact trivial|rfl|exact And.intro rfl (And.intro (congrArg (C.s dE.own) (by simp[rI])) trivial)|refine And.intro ?_ ?_)))
   ·obtain rfl:k=(nth m.Buffers i).length:=by omega
    rw[List.take_length]at hS'
    repeat'(first|refine gD ?_|fail)
    ((conv=>whnf);refine Nx.mk (i+1,S') ⟨(by simp only;omega),(by simp only;rw[mV hx,←hS,hS']),(by simp only;omega)⟩ (by simp only;omega) ?_;(exact wA))
  ·obtain rfl:i=m.Buffers.length:=by omega
   repeat'(first|refine gD ?_|fail)
   (conv=>whnf)
   refine Lp.mk (ι:=Nat × List Int) (fun k=>[(3,.hold .one (aI .own k.2)),(35,.hold .one (ed .imm m.Inbox)),(36,.hold .one [I (m.Inbox.length)]),(37,.hold .one [I ((k.1:Nat):Int)])]) (fun k=>k.1≤m.Inbox.length∧k.2=S++flight2 m k.1∧k.2.length≤S.length+1048576*k.1) (fun k=>m.Inbox.length - k.1) ((0,S)) ?_ (⟨Nat.zero_le _,by simp[flight2],by simp⟩) fun k hk=>?_
   ·exact wA
   obtain⟨k,S'⟩:=k
   obtain⟨hk,hS',hb'⟩:=hk
   simp only at hk hS' hb' ⊢
   by_cases lk:k<m.Inbox.length
   ·have hz:=ao lk
    have hb2:(nth m.Inbox k).length≤1048576:=hs.2.2 _ (aC lk)
    repeat'(first|refine gD ?_|(conv=>whnf);first|with_reducible refine Ix.nat (aa hz) ?_|refine Ap.mk di BZ (fun _=>GB) (by simp;omega) (by show _*8≤_;simp;omega) rfl ?_)
    ((conv=>whnf)
     refine Nx.mk (k+1,S'++nth m.Inbox k) ⟨(by simp only;omega),(by simp only;rw[mT hz,hS',List.append_assoc]),(by simp only;rw[List.length_append];omega)⟩ (by simp only;omega) ?_
     (repeat'(first|exact trivial|rfl|exact And.intro rfl (And.intro (congrArg (C.s dE.own) (by simp[rI])) trivial)|refine And.intro ?_ ?_)))
   ·obtain rfl:k=m.Inbox.length:=by omega
    repeat'(first|refine gD ?_|fail)
    rw[nZ e1,←hS,←hS'];rfl
end Go.Proofs.YtplcalfnngkffaaGreat.Ab
/- When a heap is valid, as plain functions over its data: as the reference asks it, and as the program does. No condition. -/
namespace Go.Proofs.YtplcalfnngkffaaGreat.Ab
def tbl (h:ac):aB:=h.Kernel.Machine.Table
def gi (h:ac):Nat:=h.Kernel.Machine.Table.Entries.length
def wW (xs:List am) (i:Nat):Bool:=decide (i=0∨(nth xs (i - 1)).Page<(nth xs i).Page)
def we (xs:List au) (i:Nat):Bool:=decide (i=0∨(nth xs (i - 1)).Page<(nth xs i).Page)
def wK (h:ac) (l:au) (k:Nat):Bool:=decide ((bi h (l.Page+(k:Nat))).length=1)
def rF (h:ac) (i:Nat):Bool:=we h.Larges i&&cM (nth h.Larges i).Pages.toNat (wK h (nth h.Larges i))
def tU (h:ac) (p:Nat):Bool:=decide ((nth (tbl h).Entries p).Mode≠0↔(p:Int)∈pgs h.Spans h.Larges)&&(decide ((nth (tbl h).Entries p).Mode≠0) != h.Free.any (qq (p:Nat)))
def pages0 (h:ac):Bool:=((cM h.Spans.length (wW h.Spans)&&cM h.Larges.length (rF h))&&(pgs h.Spans h.Larges).all fun p=>decide (p<gi h))&&cM (gi h) (tU h)
def lX (h:ac) (i:Nat) (q:Int):Bool:=decide (ge h q=(i:Nat)) || (decide (0≤ge h q)&&meshable (nth h.Spans i) (nth h.Spans (ge h q).toNat))
def tE (h:ac):Bool:=cM h.Spans.length fun i=>(bi h (nth h.Spans i).Page).all (lX h i)
def kG (h:ac) (i j:Nat):Bool:=decide ((ax (tbl h) (nth h.Spans i).Page).Frame≠(ax (tbl h) (nth h.Spans j).Page).Frame) || meshable (nth h.Spans i) (nth h.Spans j)
def nk (h:ac):Bool:=cM h.Spans.length fun i=>cM i (kG h i)
def kO (z:Int) (o:aX):Bool:=decide (o.Id=z)
def jT (h:ac) (o:aX):Bool:=
 let w:=denotes h.Spans h.Larges o.Addr
 decide (w.Offset=0)&&((decide (w.Kind=1)&&decide ((nth h.Spans w.Index.toNat).Class=cq o.Size)) || (decide (w.Kind=3)&&decide ((nth h.Larges w.Index.toNat).Size=o.Size)))
def gS (nx:Int) (h:ac) (i:Nat):Bool:=decide ((i=0∨(nth h.Objs (i - 1)).Addr<(nth h.Objs i).Addr)∧1≤(nth h.Objs i).Id∧(nth h.Objs i).Id≤nx∧0≤(nth h.Objs i).Thread∧(nth h.Objs i).Thread≤h.Caches.length - 1)
def objAt (nx:Int) (h:ac) (i:Nat):Bool:=(gS nx h i&&!(h.Objs.take i).any (kO (nth h.Objs i).Id))&&jT h (nth h.Objs i)
def fw (h:ac):Bool:=cM h.Objs.length (objAt (IntKind.i64.wrap (h.Next - 1)) h)
def de (h:ac) (a c:Int):Bool:=
 let w:=denotes h.Spans h.Larges a
 (decide (w.Kind=1)&&decide (w.Offset=0))&&(decide (c<0) || decide ((nth h.Spans w.Index.toNat).Class=c))
def qJ (h:ac) (c:ay) (k:Nat):Bool:=(nth c.Lists k).all fun a=>de h a (k:Nat)
def eH (h:ac) (c:ay):Bool:=cM c.Lists.length (qJ h c)
def gB (h:ac) (x:aE):Bool:=de h x.Addr x.Class
def jL (h:ac) (a:Int):Bool:=de h a (-1)
def f9 (h:ac):List Int:=h.Caches.flatMap fun c=>c.Lists.flatten
def gR (h:ac):Bool:=((h.Caches.all (eH h))&&h.Quar.Lst.all (gB h))&&(bh h.Mail).all (jL h)
def holders (h:ac):List Int:=((h.Objs.map (·.Addr)++f9 h)++h.Quar.Lst.map (·.Addr))++bh h.Mail
def jj (sp:List am) (la:List au) (a:Nat):Bool:=
 let w:=denotes sp la (a:Nat)
 decide (w.Offset=0)&&(decide (w.Kind=1) || decide (w.Kind=3))
def lr (sp:List am) (la:List au) (n:Nat):List Int:=((List.range n).filter (jj sp la)).map fun(i:Nat)=>(i:Int)
def iu (sp:List am) (la:List au):List Int:=lr sp la 512
def i9 (h:ac):Bool:=(gR h&&decide (holders h).Nodup)&&decide ((holders h).length=(iu h.Spans h.Larges).length)
def jQ (h:ac):Bool:=h.Quar.Lst.all fun x=>decide (x.Since≤h.Clock)
def eP (h:ac):Bool:=decide (0≤h.Seed∧h.Seed≤1073741823∧0≤h.Clock∧h.Clock≤1000000∧0≤h.Limit∧h.Limit≤1000∧1≤h.Next∧h.Next≤1000000)
def pE (h:ac):Bool:=if h.Meshing then(jb h.Job&&decide (0≤ge h h.Job.Plan.Keep))&&decide (0≤ge h h.Job.Plan.Move) else q7 h.Job
def lE (h:ac):Bool:=((aH h.Kernel&&bC (gi h) h.Free)&&bu h.Spans h.Larges)&&pages0 h
end Go.Proofs.YtplcalfnngkffaaGreat.Ab
/- The pages of a heap: the contracts of l27Pages, l27Meshed (the reference's) and pagesOk (the program's). No condition. -/
namespace Go.Proofs.YtplcalfnngkffaaGreat.Ab
open Go.RowKit
set_option maxRecDepth 20000
set_option maxHeartbeats 8000000
theorem gk {sp:List am} {la:List au} (h:bu sp la=true):sp.all bq=true∧la.all dl=true∧(pgs sp la).Nodup:=by
 unfold bu at h;simp only[Bool.and_eq_true,decide_eq_true_eq]at h;exact⟨h.1.1,h.1.2,h.2⟩
theorem Mc {α:Type} [Inhabited α] {xs:List α} {p:α→Bool} {i:Nat} (h:xs.all p=true) (hi:i<xs.length):p (nth xs i)=true:=List.all_eq_true.1 h _ (aC hi)
theorem Dv {h:ac} (h1:cM h.Spans.length (wW h.Spans)=false):pages0 h=false:=by unfold pages0;rw[h1];rfl
theorem qT {h:ac} (h1:cM h.Larges.length (rF h)=false):pages0 h=false:=by unfold pages0;rw[h1];simp
theorem DB {h:ac} {p:Int} (h1:p∈pgs h.Spans h.Larges) (h2:¬p<gi h):pages0 h=false:=by
 have:((pgs h.Spans h.Larges).all fun p=>decide (p<gi h))=false:=List.all_eq_false.2 ⟨p,h1,by simpa using h2⟩
 unfold pages0;rw[this];simp
theorem BK {h:ac} (h1:cM (gi h) (tU h)=false):pages0 h=false:=by unfold pages0;rw[h1];simp
theorem wM {h:ac} (h1:cM h.Spans.length (wW h.Spans)=true) (h2:cM h.Larges.length (rF h)=true) (h3:∀ p∈pgs h.Spans h.Larges,p<gi h) (h4:cM (gi h) (tU h)=true):pages0 h=true:=by
 have:((pgs h.Spans h.Larges).all fun p=>decide (p<gi h))=true:=List.all_eq_true.2 fun p hp=>decide_eq_true (h3 p hp)
 unfold pages0;rw[h1,h2,h4,this];rfl
theorem JG {h:ac} {i:Nat} (h1:we h.Larges i=false):rF h i=false:=by unfold rF;rw[h1];rfl
theorem Kf {h:ac} {i k:Nat} (hk:k<(nth h.Larges i).Pages.toNat) (h1:wK h (nth h.Larges i) k=false):rF h i=false:=by unfold rF;rw[cf hk h1];simp
theorem E7 {h:ac} {i:Nat} (h1:we h.Larges i=true) (h2:cM (nth h.Larges i).Pages.toNat (wK h (nth h.Larges i))=true):rF h i=true:=by unfold rF;rw[h1,h2];rfl
theorem gL (h:ac) (p:Int):(bi h p).length≤gi h:=by
 unfold bi;split
 ·simp
 ·exact pW ..
theorem sH {sp:List am} {la:List au} (h:bu sp la=true) {i:Nat} {l:au} (hx:la[i]? = some l):1≤l.Pages∧l.Pages≤63∧0≤l.Page∧l.Page≤31:=
 bB (List.all_eq_true.1 (gk h).2.1 l (List.mem_of_getElem? hx))
theorem B3 (h:ac) (hs1:cC h.Spans) (hs2:cg h.Larges) (hst:xN h) (hsf:dK h.Free) (hlay:bu h.Spans h.Larges=true):ah Tryz.prog 180 false [.val (some 24) (ac.enc .imm h)] .one [B (pages0 h)]:=by
 have hl1:=hs1.1
 have hl2:=hs2.1
 have hl3:gi h≤1048576:=hst.1
 have hl4:=hsf.1
 refine fO 144 [(7,18,[28,29,30,31,32,33,34,35,36,37,38,39,40,41,42,43,44,45]),(13,18,[62,63,64,65,66,67,68,69,70,71,72,73,74,75,76,77,78,79])] Tryz.func180 rfl ?_
 repeat'(first|refine gO ?_|fail)
 (conv=>whnf)
 refine Lp.mk (ι:=Nat × List Int) (fun i=>[(1,.hold .box (ac.enc .imm h)),(3,.hold .box (aB.enc .imm (tbl h))),(4,.hold .one [I (gi h)]),(5,.hold .one (aI .own i.2)),(6,.hold .one [I ((i.1:Nat):Int)])]) (fun i=>i.1≤h.Spans.length∧i.2=(h.Spans.take i.1).map (·.Page)∧cM i.1 (wW h.Spans)=true) (fun i=>h.Spans.length - i.1) ((0,[])) ?_ (⟨Nat.zero_le _,rfl,rfl⟩) fun i hi=>?_
 ·exact wA
 obtain⟨i,S⟩:=i
 obtain⟨hi,hS,ai⟩:=hi
 simp only at hi hS ai ⊢
 have hSl:S.length=i:=by rw[hS,List.length_map,List.length_take];omega
 by_cases li:i<h.Spans.length
 ·have hx:=ao li
  repeat'(first|refine gD ?_|(conv=>whnf);first|with_reducible (first|refine Ix.nat (aa hx) ?_|refine Bf.D (fun hq=>?_) (fun hq=>?_))|refine Ix.mk (by omega) (aa (fZ (by omega) li)) ?_|refine Ap.mk di (fun r hr=>by rw[List.mem_singleton.1 hr];rfl) (by simp[aW,eB]) (by simp;omega) (by simp only[List.length_map];exact ul (by simp;omega) (by decide)) rfl ?_)
  all_goals first
   | exact congrArg (fun z=>[B z]) ((Dv (cf li (decide_eq_false (by omega)))).symm)
   | ((conv=>whnf)
      refine Nx.mk (i+1,S++[(nth h.Spans i).Page]) ⟨(by simp only;omega),(by simp only;rw[hS,List.take_add_one,hx];simp),bD ai (decide_eq_true (by omega))⟩ (by simp only;omega) ?_
      (repeat'(first|exact trivial|rfl|exact And.intro rfl (And.intro (congrArg (C.s dE.own) (by simp[rI])) trivial)|refine And.intro ?_ ?_)))
 ·obtain rfl:i=h.Spans.length:=by omega
  rw[List.take_length]at hS
  repeat'(first|refine gD ?_|fail)
  (conv=>whnf)
  refine Lp.mk (ι:=Nat × List Int) (fun k=>[(1,.hold .box (ac.enc .imm h)),(3,.hold .box (aB.enc .imm (tbl h))),(4,.hold .one [I (gi h)]),(5,.hold .one (aI .own k.2)),(7,.hold .one [I ((k.1:Nat):Int)])]) (fun k=>k.1≤h.Larges.length∧k.2=pgs h.Spans (h.Larges.take k.1)∧cM k.1 (rF h)=true∧k.2.length≤1048576+64*k.1) (fun k=>h.Larges.length - k.1) ((0,S)) ?_ (⟨Nat.zero_le _,by rw[hS];unfold pgs;simp,rfl,by simp only;omega⟩) fun k hk=>?_
  ·exact wA
  obtain⟨k,S2⟩:=k
  obtain⟨hk,hS2,ak,hb2⟩:=hk
  simp only at hk hS2 ak hb2 ⊢
  by_cases lk:k<h.Larges.length
  ·have hx:=ao lk
   have hpg:=sH hlay hx
   repeat'(first|refine gD ?_|(conv=>whnf);first|with_reducible (first|refine Ix.nat (aa hx) ?_|refine Bf.D (fun hq=>?_) (fun hq=>?_))|refine Ix.mk (by omega) (aa (fZ (by omega) lk)) ?_)
   all_goals first
    | exact congrArg (fun z=>[B z]) ((qT (cf lk (JG (decide_eq_false (by omega))))).symm)
    |have hsort:we h.Larges k=true:=decide_eq_true (by omega)
     (conv=>whnf)
     refine Lp.mk (ι:=Nat × List Int) (fun q=>[(1,.hold .box (ac.enc .imm h)),(3,.hold .box (aB.enc .imm (tbl h))),(4,.hold .one [I (gi h)]),(5,.hold .one (aI .own q.2)),(7,.hold .one [I ((k:Nat):Int)]),(8,.hold .one [I ((q.1:Nat):Int)])]) (fun q=>q.1≤(nth h.Larges k).Pages.toNat∧q.2=S2++lpgs (nth h.Larges k) q.1∧cM q.1 (wK h (nth h.Larges k))=true) (fun q=>(nth h.Larges k).Pages.toNat - q.1) ((0,S2)) ?_ (⟨Nat.zero_le _,by simp[lpgs],rfl⟩) fun q hq=>?_
     ·exact wA
     obtain⟨q,S3⟩:=q
     obtain⟨hq1,hS3,aq⟩:=hq
     simp only at hq1 hS3 aq ⊢
     have hl3':S3.length=S2.length+q:=by rw[hS3,List.length_append,Bd]
     by_cases lq:q<(nth h.Larges k).Pages.toNat
     ·have hfl:=gL h ((nth h.Larges k).Page+(q:Nat))
      repeat'(first|refine gD ?_|(conv=>whnf);first|with_reducible (first|refine Ix.nat (aa hx) ?_|refine Bf.N (fun hq=>?_) (fun hq=>?_))|refine Cl.mk (jn h _ hst) ?_|refine Ap.mk di (fun r hr=>by rw[List.mem_singleton.1 hr];rfl) (by simp[aW,eB]) (by simp;omega) (by show _*8≤_;simp;omega) rfl ?_)
      all_goals first
       | exact congrArg (fun z=>[B z]) ((qT (cf lk (Kf lq (decide_eq_false (by omega))))).symm)
       | ((conv=>whnf)
          refine Nx.mk (q+1,S3++[(nth h.Larges k).Page+(q:Nat)]) ⟨(by simp only;omega),(by simp only;rw[hS3,kb,List.append_assoc]),bD aq (decide_eq_true (by omega))⟩ (by simp only;omega) ?_
          (repeat'(first|exact trivial|rfl|exact And.intro rfl (And.intro (congrArg (C.s dE.own) (by simp[rI])) trivial)|refine And.intro ?_ ?_)))
     ·obtain rfl:q=(nth h.Larges k).Pages.toNat:=by omega
      repeat'(first|refine gD ?_|(conv=>whnf);first|with_reducible refine Ix.nat (aa hx) ?_)
      ((conv=>whnf);refine Nx.mk (k+1,S3) ⟨(by simp only;omega),(by simp only;rw[hS3,hS2,←nP _ hx]),bD ak (E7 hsort aq),(by simp only;omega)⟩ (by simp only;omega) ?_;(exact wA))
  ·obtain rfl:k=h.Larges.length:=by omega
   rw[List.take_length]at hS2
   repeat'(first|refine gD ?_|fail)
   (conv=>whnf)
   refine Lp.mk (ι:=Nat) (fun q=>[(1,.hold .box (ac.enc .imm h)),(3,.hold .box (aB.enc .imm (tbl h))),(4,.hold .one [I (gi h)]),(5,.hold .one (aI .own S2)),(10,.hold .one [I ((q:Nat):Int)])]) (fun q=>q≤S2.length∧∀ j,j<q→nth S2 j<gi h) (fun q=>S2.length - q) (0) ?_ (⟨Nat.zero_le _,fun j hj=>by omega⟩) fun q hq=>?_
   ·exact wA
   obtain⟨hq,aq⟩:=hq
   by_cases lq:q<S2.length
   ·have hx:=ao lq
    repeat'(first|refine gD ?_|(conv=>whnf);first|with_reducible (first|refine Ix.nat (aa hx) ?_|refine Bf.D (fun hq=>?_) (fun hq=>?_))|refine Rw.one rfl (aa hx) rfl ?_)
    all_goals first
     | exact congrArg (fun z=>[B z]) ((DB (by rw[←hS2];exact aC lq) (by omega)).symm)
     | ((conv=>whnf);refine Nx.mk (q+1) ⟨by omega,fun j hj=>by rcases Nat.lt_or_ge j q with h1|h1;exact aq j h1;(obtain rfl:j=q:=by omega);omega⟩ (by omega) ?_;(exact wA))
   ·have hall:∀ p∈pgs h.Spans h.Larges,p<gi h:=fun p hp=>by
     rw[←hS2]at hp
     obtain⟨j,hj⟩:=List.mem_iff_getElem?.1 hp
     have h1:=(List.getElem?_eq_some_iff.1 hj).1
     have:=aq j (by omega)
     rwa [bL hj]at this
    repeat'(first|refine gD ?_|fail)
    (conv=>whnf)
    refine Lp.mk (ι:=Nat) (fun p=>[(1,.hold .box (ac.enc .imm h)),(3,.hold .box (aB.enc .imm (tbl h))),(4,.hold .one [I (gi h)]),(5,.hold .one (aI .own S2)),(11,.hold .one [I ((p:Nat):Int)])]) (fun p=>p≤gi h∧cM p (tU h)=true) (fun p=>gi h - p) 0 ?_ ⟨Nat.zero_le _,rfl⟩ fun p hp=>?_
    ·exact wA
    obtain⟨hp,ap⟩:=hp
    by_cases lp:p<gi h
    ·have hx:=ao (xs:=(tbl h).Entries) lp
     have hr:=xo h.Free (p:Nat) (by omega)
     repeat'(first|refine gD ?_|(conv=>whnf);first|with_reducible (first|refine Ix.nat (aa hx) ?_|refine Bf.D (fun hq=>?_) (fun hq=>?_)|refine Bf.NB (fun hq=>?_) (fun hq=>?_))|refine Cl.eq (m0 S2 _ (by omega)) ⟨⟨rfl,dO _⟩,⟨rfl,rfl⟩,trivial⟩ ?_|refine Cl.mk hr ?_|refine Bf.P (fun hq=>?_) (fun hq=>?_))
     all_goals first
      | exact congrArg (fun z=>[B z]) ((BK (cf lp (by unfold tU;rw[←hS2];grind))).symm)
      | ((conv=>whnf);refine Nx.mk (p+1) ⟨by omega,bD ap (by unfold tU;rw[←hS2];grind)⟩ (by omega) ?_;(exact wA))
    ·repeat'(first|refine gD ?_|fail)
     obtain rfl:p=gi h:=by omega
     exact congrArg (fun z=>[B z]) ((wM ai ak hall ap).symm)
end Go.Proofs.YtplcalfnngkffaaGreat.Ab
/- The pages of a heap, as the program asks it: the contract of pagesOk; spans on one frame, as the reference asks it: l27Meshed. No condition. -/
namespace Go.Proofs.YtplcalfnngkffaaGreat.Ab
open Go.RowKit
set_option maxRecDepth 20000
set_option maxHeartbeats 8000000
theorem MU {z1 z2:Int} (h:z1=z2):Me (I z1) (I z2):=by subst h;rfl
theorem G5 {S:List Int} {p z:Int} : z∈ins S p↔z∈S∨z=p:=by
 unfold ins
 split
 ·rename_i hp
  exact⟨.inl,fun h=>h.elim id fun e=>e ▸ hp⟩
 ·simp
theorem wx (S:List Int):(fm S).map (·.1)=S:=by unfold fm;rw[List.map_map];simp[Function.comp_def]
theorem lK {t:aB} {p:Nat} (hp:p<t.Entries.length):ax t (p:Nat)=nth t.Entries p:=by
 unfold ax;rw[if_pos (by omega)];simp
theorem zr (h:ac) (hs1:cC h.Spans) (hs2:cg h.Larges) (hst:xN h) (hsf:dK h.Free) (hlay:bu h.Spans h.Larges=true):ah Tryz.prog 46 false [.val (some 24) (ac.enc .imm h)] .one [B (pages0 h&&nk h)]:=by
 have hl1:=hs1.1
 have hl2:=hs2.1
 have hl3:gi h≤1048576:=hst.1
 have hl4:=hsf.1
 have hno:pages0 h=false→[B false]=[B (pages0 h&&nk h)]:=fun e=>by rw[e];rfl
 refine fO 177 [(4,14,[25,26,27,28,29,30,31,32,33,34,35,36,37,38]),(16,14,[60,61,62,63,64,65,66,67,68,69,70,71,72,73]),(28,18,[102,103,104,105,106,107,108,109,110,111,112,113,114,115,116,117,118,119]),(42,23,[152,153,154,155,156,157,158,159,160,161,162,163,164,165,166,167,168,169,170,171,172,173,174])] Tryz.func46 rfl ?_
 repeat'(first|refine gO ?_|fail)
 (conv=>whnf)
 refine Lp.mk (ι:=Nat) (fun i=>[(1,.hold .box (ac.enc .imm h)),(18,.hold .one (bm .imm h.Spans)),(19,.hold .one [I (h.Spans.length)]),(20,.hold .one [I ((i:Nat):Int)])]) (fun i=>i≤h.Spans.length∧cM i (wW h.Spans)=true) (fun i=>h.Spans.length - i) 0 ?_ ⟨Nat.zero_le _,rfl⟩ fun i hi=>?_
 ·exact wB
 obtain⟨hi,ai⟩:=hi
 by_cases li:i<h.Spans.length
 ·have hx:=ao li
  repeat'(first|refine gD ?_|(conv=>whnf);first|with_reducible (first|refine Ix.nat (aa hx) ?_|refine Bf.D (fun hq=>?_) (fun hq=>?_))|refine Ix.mk (by omega) (aa (fZ (by omega) li)) ?_)
  all_goals first
   |exact hno (Dv (cf li (decide_eq_false (by omega))))
   | ((conv=>whnf);refine Nx.mk (i+1) ⟨by omega,bD ai (decide_eq_true (by omega))⟩ (by omega) ?_;(exact wB))
 obtain rfl:i=h.Spans.length:=by omega
 repeat'(first|refine gD ?_|fail)
 (conv=>whnf)
 refine Lp.mk (ι:=Nat × List Int) (fun i=>[(1,.hold .box (ac.enc .imm h)),(5,.hold .one [.m (fm i.2)]),(42,.hold .one (bm .imm h.Spans)),(43,.hold .one [I (h.Spans.length)]),(44,.hold .one [I ((i.1:Nat):Int)])]) (fun i=>i.1≤h.Spans.length∧∀ z,z∈i.2↔z∈(h.Spans.take i.1).map (·.Page)) (fun i=>h.Spans.length - i.1) ((0,[])) ?_ (⟨Nat.zero_le _,fun z=>Iff.rfl⟩) fun i hi=>?_
 ·exact wB
 obtain⟨i,S⟩:=i
 obtain⟨hi2,hS⟩:=hi
 simp only at hi2 hS ⊢
 by_cases li2:i<h.Spans.length
 ·have hx:=ao li2
  repeat'(first|refine gD ?_|(conv=>whnf);first|with_reducible refine Ix.nat (aa hx) ?_|refine Mu.mk (vn S _) ?_)
  ((conv=>whnf);refine Nx.mk (i+1,ins S (nth h.Spans i).Page) ⟨(by simp only;omega),fun z=>by simp only[G5,hS];rw[List.take_add_one,hx];simp⟩ (by simp only;omega) ?_;(exact wB))
 obtain rfl:i=h.Spans.length:=by omega
 rw[List.take_length]at hS
 repeat'(first|refine gD ?_|fail)
 (conv=>whnf)
 refine Lp.mk (ι:=Nat × List Int) (fun k=>[(1,.hold .box (ac.enc .imm h)),(5,.hold .one [.m (fm k.2)]),(53,.hold .one (bn .imm h.Larges)),(54,.hold .one [I (h.Larges.length)]),(55,.hold .one [I ((k.1:Nat):Int)])]) (fun k=>k.1≤h.Larges.length∧(∀ z,z∈k.2↔z∈pgs h.Spans (h.Larges.take k.1))∧cM k.1 (rF h)=true) (fun k=>h.Larges.length - k.1) ((0,S)) ?_ (⟨Nat.zero_le _,fun z=>by simp only[hS];unfold pgs;simp,rfl⟩) fun k hk=>?_
 ·exact wB
 obtain⟨k,S2⟩:=k
 obtain⟨hk,hS2,ak⟩:=hk
 simp only at hk hS2 ak ⊢
 by_cases lk:k<h.Larges.length
 ·have hx:=ao lk
  have hpg:=sH hlay hx
  repeat'(first|refine gD ?_|(conv=>whnf);first|with_reducible (first|refine Ix.nat (aa hx) ?_|refine Bf.D (fun hq=>?_) (fun hq=>?_))|refine Ix.mk (by omega) (aa (fZ (by omega) lk)) ?_)
  all_goals first
   |exact hno (qT (cf lk (JG (decide_eq_false (by omega)))))
   |have hsort:we h.Larges k=true:=decide_eq_true (by omega)
    (conv=>whnf)
    refine Lp.mk (ι:=Nat × List Int) (fun q=>[(1,.hold .box (ac.enc .imm h)),(5,.hold .one [.m (fm q.2)]),(9,.hold .box (au.enc .imm (nth h.Larges k))),(10,.hold .one [I ((nth h.Larges k).Page+(q.1:Nat))]),(53,.hold .one (bn .imm h.Larges)),(54,.hold .one [I (h.Larges.length)]),(55,.hold .one [I ((k:Nat):Int)])]) (fun q=>q.1≤(nth h.Larges k).Pages.toNat∧(∀ z,z∈q.2↔z∈S2++lpgs (nth h.Larges k) q.1)∧cM q.1 (wK h (nth h.Larges k))=true) (fun q=>(nth h.Larges k).Pages.toNat - q.1) ((0,S2)) ?_ (⟨Nat.zero_le _,fun z=>by simp[lpgs],rfl⟩) fun q hq=>?_
    ·exact wB
    obtain⟨q,S3⟩:=q
    obtain⟨hq1,hS3,aq⟩:=hq
    simp only at hq1 hS3 aq ⊢
    by_cases lq:q<(nth h.Larges k).Pages.toNat
    ·have hfl:=gL h ((nth h.Larges k).Page+(q:Nat))
     repeat'(first|refine gD ?_|(conv=>whnf);first|with_reducible refine Bf.N (fun hq=>?_) (fun hq=>?_)|refine Cl.mk (ns h _ hst) ?_|refine Mu.mk (vn S3 _) ?_)
     all_goals first
      |exact hno (qT (cf lk (Kf lq (decide_eq_false (by omega)))))
      | ((conv=>whnf)
         refine Nx.mk (q+1,ins S3 ((nth h.Larges k).Page+(q:Nat))) ⟨(by simp only;omega),fun z=>by simp only[G5,hS3];rw[kb];simp[or_assoc],bD aq (decide_eq_true (by omega))⟩ (by simp only;omega) ?_
         (repeat'(first|exact trivial|rfl|refine And.intro ?_ ?_|exact MU (by simp;omega))))
    ·obtain rfl:q=(nth h.Larges k).Pages.toNat:=by omega
     repeat'(first|refine gD ?_|fail)
     ((conv=>whnf);refine Nx.mk (k+1,S3) ⟨(by simp only;omega),(fun z=>by simp only[hS3];rw[nP _ hx];simp[hS2]),bD ak (E7 hsort aq)⟩ (by simp only;omega) ?_;(exact wB))
 obtain rfl:k=h.Larges.length:=by omega
 rw[List.take_length]at hS2
 repeat'(first|refine gD ?_|fail)
 (conv=>whnf)
 refine Lp.mk (ι:=Nat) (fun p=>[(1,.hold .box (ac.enc .imm h)),(5,.hold .one [.m (fm S2)]),(98,.hold .one [I (gi h)]),(99,.hold .one [I ((p:Nat):Int)])]) (fun p=>p≤gi h∧cM p (tU h)=true) (fun p=>gi h - p) 0 ?_ ⟨Nat.zero_le _,rfl⟩ fun p hp=>?_
 ·exact wB
 obtain⟨hp,ap⟩:=hp
 by_cases lp:p<gi h
 ·have hr:=xi h.Free (p:Nat) (by omega)
  have hm:=eM h.Kernel (p:Nat) hst
  rw[lK lp]at hm
  repeat'(first|refine gD ?_|(conv=>whnf);first|with_reducible (first|refine Bf.D (fun hq=>?_) (fun hq=>?_)|refine Bf.NB (fun hq=>?_) (fun hq=>?_))|refine Cl.mk hm ?_|refine Ml.mk (ng (p:Nat) S2) ?_|refine Cl.mk hr ?_|refine Bf.P (fun hq=>?_) (fun hq=>?_))
  all_goals first
   |exact hno (BK (cf lp (by unfold tU tbl;have:=hS2 (p:Nat);grind)))
   | ((conv=>whnf);refine Nx.mk (p+1) ⟨by omega,bD ap (by unfold tU tbl;have:=hS2 (p:Nat);grind)⟩ (by omega) ?_;(exact wB))
 obtain rfl:p=gi h:=by omega
 repeat'(first|refine gD ?_|fail)
 have hpn:gi h=h.Kernel.Machine.Table.Entries.length:=rfl
 (conv=>whnf)
 refine Lp.mk (ι:=Option Int × List Int) (fun t=>[(1,.hold .box (ac.enc .imm h)),(122,.hold .one [.it t.1 t.2])]) (fun t=>(∀ z∈S2,z∈t.2∨z<gi h)∧∀ z∈t.2,z∈S2) (fun t=>t.2.length) ((none,(fm S2).map (·.1))) ?_ (⟨fun z hz=>.inl (by rw[wx];exact hz),fun z hz=>by rw[wx]at hz;exact hz⟩) fun t ht=>?_
 ·exact wB
 obtain⟨cur,left⟩:=t
 obtain⟨ht1,ht2⟩:=ht
 simp only at ht1 ht2 ⊢
 repeat'(first|refine gO ?_|(conv=>whnf);first|with_reducible refine Bf.D (fun hq=>?_) (fun hq=>?_)|refine Nt.mk (fun hq=>?_) (fun l1 k l2 hq=>?_))
 rotate_left
 ·exact hno (DB (p:=k) ((hS2 k).1 (ht2 k (by subst left;simp))) (by omega))
 ·((conv=>whnf);refine Nx.mk (some k,l1++l2) ⟨fun z hz=>by have h1:=ht1 z hz;subst left;simp only[List.mem_append,List.mem_cons]at h1 ⊢;rcases h1 with(h1|h1|h1)|h1;exact .inl (.inl h1);(subst h1;exact .inr (by omega));exact .inl (.inr h1);exact .inr h1,fun z hz=>ht2 z (by subst left;simp only[List.mem_append,List.mem_cons]at hz ⊢;grind)⟩ (by subst left;simp) ?_;(exact wB))
 have hall:∀ p∈pgs h.Spans h.Larges,p<gi h:=fun p hp=>by
  have h1:=ht1 p ((hS2 p).2 hp)
  subst left
  simpa using h1
 have h0:pages0 h=true:=wM ai ak hall ap
 rw[h0,Bool.true_and]
 (conv=>whnf)
 refine Lp.mk (ι:=Nat) (fun i=>[(1,.hold .box (ac.enc .imm h)),(136,.hold .one (bm .imm h.Spans)),(137,.hold .one [I (h.Spans.length)]),(138,.hold .one [I ((i:Nat):Int)])]) (fun i=>i≤h.Spans.length∧cM i (fun i=>cM i (kG h i))=true) (fun i=>h.Spans.length - i) 0 ?_ ⟨Nat.zero_le _,rfl⟩ fun i hi=>?_
 ·exact wB
 obtain⟨hi,ai⟩:=hi
 by_cases li:i<h.Spans.length
 ·have hx:=ao li
  have htl:(h.Spans.take i).length=i:=by rw[List.length_take];omega
  repeat'(first|refine gD ?_|(conv=>whnf);first|with_reducible refine Ix.nat (aa hx) ?_|refine Sl.pre i rfl (by simp;omega) (fun r hr=>by obtain⟨z,-,rfl⟩:=List.mem_map.1 hr;rfl) (List.map_take ..) ?_)
  (conv=>whnf)
  refine Lp.mk (ι:=Nat) (fun j=>[(1,.hold .box (ac.enc .imm h)),(14,.hold .box (am.enc .imm (nth h.Spans i))),(136,.hold .one (bm .imm h.Spans)),(137,.hold .one [I (h.Spans.length)]),(138,.hold .one [I ((i:Nat):Int)]),(146,.hold .one (bm .imm (h.Spans.take i))),(147,.hold .one [I ((h.Spans.take i).length)]),(148,.hold .one [I ((j:Nat):Int)])]) (fun j=>j≤(h.Spans.take i).length∧cM j (kG h i)=true) (fun j=>(h.Spans.take i).length - j) 0 ?_ ⟨Nat.zero_le _,rfl⟩ fun j hj=>?_
  ·exact wB
  obtain⟨hj,aj⟩:=hj
  by_cases lj:j<(h.Spans.take i).length
  ·have hy:=ao lj
   have he:nth (h.Spans.take i) j=nth h.Spans j:=bL (by rw[List.getElem?_take_of_lt (by omega)];exact ao (by omega))
   rw[he]at hy
   have hm:=lQ (nth h.Spans i) (nth h.Spans j)
   cases em:meshable (nth h.Spans i) (nth h.Spans j)<;>rw[em]at hm
   all_goals
    repeat'(first|refine gD ?_|(conv=>whnf);first|with_reducible (first|refine Ix.nat (aa hy) ?_|refine Bf.E (fun hq=>?_) (fun hq=>?_))|refine Cl.mk (dQ (tbl h) _ hst) ?_|refine Cl.mk hm ?_)
    all_goals first
     | exact congrArg (fun z=>[B z]) ((by symm;exact cf li (cf (i:=j) (by omega) (by unfold kG;rw[em];grind))))
     | ((conv=>whnf);refine Nx.mk (j+1) ⟨by omega,bD aj (by unfold kG;rw[em];grind)⟩ (by omega) ?_;(exact wB))
  ·obtain rfl:j=(h.Spans.take i).length:=by omega
   rw[htl]at aj
   repeat'(first|refine gD ?_|fail)
   ((conv=>whnf);refine Nx.mk (i+1) ⟨by omega,bD ai aj⟩ (by omega) ?_;(exact wB))
 obtain rfl:i=h.Spans.length:=by omega
 repeat'(first|refine gD ?_|fail)
 exact congrArg (fun z=>[B z]) ((by unfold nk;rw[ai]))
end Go.Proofs.YtplcalfnngkffaaGreat.Ab
/- Spans on one frame, objects, slots that are held: the contracts of l27Meshed, l27Job, l27Slot, l27Objs (the reference's) and objsOk (the program's). No condition. -/
namespace Go.Proofs.YtplcalfnngkffaaGreat.Ab
open Go.RowKit
set_option maxRecDepth 20000
set_option maxHeartbeats 8000000
theorem Df {α:Type} [Inhabited α] (pr:α→Bool) (xs:List α):gF pr xs = -1∨∃ n,n<xs.length∧gF pr xs=(n:Nat)∧pr (nth xs n)=true:=by
 unfold gF
 cases h:xs.findIdx? pr with
 | none=>exact .inl rfl
 | some i=>
  obtain⟨hi,hp,-⟩:=List.findIdx?_eq_some_iff_getElem.1 h
  exact .inr ⟨i,hi,rfl,by rw[bL (List.getElem?_eq_getElem hi)];exact hp⟩
theorem E1 {h:ac} {i k:Nat} (hi:i<h.Spans.length) (hk:k<(bi h (nth h.Spans i).Page).length) (hm:lX h i (nth (bi h (nth h.Spans i).Page) k)=false):tE h=false:=by
 unfold tE;exact cf hi (eE (ao hk) hm)
theorem A4 (h:ac) (hs1:cC h.Spans) (hst:xN h):ah Tryz.prog 181 false [.val (some 24) (ac.enc .imm h)] .one [B (tE h)]:=by
 have hl1:=hs1.1
 have hl3:gi h≤1048576:=hst.1
 refine fO 55 [(4,8,[14,15,16,17,18,19,20,21]),(8,6,[28,29,30,31,32,33]),(9,21,[34,35,36,37,38,39,40,41,42,43,44,45,46,47,48,49,50,51,52,53,54])] Tryz.func181 rfl ?_
 repeat'(first|refine gO ?_|fail)
 (conv=>whnf)
 refine Lp.mk (ι:=Nat) (fun i=>[(1,.hold .box (ac.enc .imm h)),(3,.hold .one [I ((i:Nat):Int)])]) (fun i=>i≤h.Spans.length∧cM i (fun i=>(bi h (nth h.Spans i).Page).all (lX h i))=true) (fun i=>h.Spans.length - i) 0 ?_ ⟨Nat.zero_le _,rfl⟩ fun i hi=>?_
 ·exact wB
 obtain⟨hi,ai⟩:=hi
 by_cases li:i<h.Spans.length
 ·have hx:=ao li
  have hfl:=gL h (nth h.Spans i).Page
  repeat'(first|refine gD ?_|(conv=>whnf);first|with_reducible refine Ix.nat (aa hx) ?_|refine Cl.mk (jn h _ hst) ?_)
  (conv=>whnf)
  refine Lp.mk (ι:=Nat) (fun k=>[(1,.hold .box (ac.enc .imm h)),(3,.hold .one [I ((i:Nat):Int)]),(4,.hold .one (aI .own (bi h (nth h.Spans i).Page))),(5,.hold .one [I ((k:Nat):Int)])]) (fun k=>k≤(bi h (nth h.Spans i).Page).length∧((bi h (nth h.Spans i).Page).take k).all (lX h i)=true) (fun k=>(bi h (nth h.Spans i).Page).length - k) (0) ?_ (⟨Nat.zero_le _,rfl⟩) fun k hk=>?_
  ·exact wB
  obtain⟨hk,ak⟩:=hk
  by_cases lk:k<(bi h (nth h.Spans i).Page).length
  ·have hy:=ao lk
   have hso:=kX h (nth (bi h (nth h.Spans i).Page) k) hl1
   rcases Df (jq (nth (bi h (nth h.Spans i).Page) k)) h.Spans with hc|⟨n,hn,hc,-⟩
   ·rw[show ge h (nth (bi h (nth h.Spans i).Page) k) = -1 from hc]at hso
    have hmz:lX h i (nth (bi h (nth h.Spans i).Page) k)=false:=by
     unfold lX;rw[show ge h (nth (bi h (nth h.Spans i).Page) k) = -1 from hc,decide_eq_false (by omega),decide_eq_false (by omega)];rfl
    repeat'(first|refine gD ?_|(conv=>whnf);first|with_reducible (first|refine Ix.nat (aa hx) ?_|refine Ix.nat (aa hy) ?_|refine Bf.D (fun hq=>?_) (fun hq=>?_)|refine Bf.N (fun hq=>?_) (fun hq=>?_))|refine Rw.one rfl (aa hy) rfl ?_|refine Cl.mk hso ?_)
    all_goals first
     | exact congrArg (fun z=>[B z]) ((E1 li lk hmz).symm)
     |(exfalso;omega)
   ·rw[show ge h (nth (bi h (nth h.Spans i).Page) k)=(n:Nat) from hc]at hso
    have hz:=ao hn
    have hm:=ly (nth h.Spans i) (nth h.Spans n)
    have hma:lX h i (nth (bi h (nth h.Spans i).Page) k)=(decide ((n:Int)=(i:Nat)) || meshable (nth h.Spans i) (nth h.Spans n)):=by
     unfold lX;rw[show ge h (nth (bi h (nth h.Spans i).Page) k)=(n:Nat) from hc,decide_eq_true (p:=(0:Int)≤(n:Nat)) (by omega)];simp
    cases em:meshable (nth h.Spans i) (nth h.Spans n)<;>rw[em]at hm
    all_goals
     repeat'(first|refine gD ?_|(conv=>whnf);first|with_reducible (first|refine Ix.nat (aa hx) ?_|refine Ix.nat (aa hz) ?_|refine Ix.nat (aa hy) ?_|refine Bf.D (fun hq=>?_) (fun hq=>?_)|refine Bf.N (fun hq=>?_) (fun hq=>?_))|refine Rw.one rfl (aa hy) rfl ?_|refine Cl.mk hso ?_|refine Cl.mk hm ?_)
     all_goals first
      | exact congrArg (fun z=>[B z]) ((E1 li lk (by rw[hma,em];grind)).symm)
      | ((conv=>whnf);refine Nx.mk (k+1) ⟨by omega,cD hy ak (by rw[hma,em];grind)⟩ (by omega) ?_;(exact wB))
      |(exfalso;omega)
  ·repeat'(first|refine gD ?_|fail)
   ((conv=>whnf);refine Nx.mk (i+1) ⟨by omega,bD ai (gt (by omega) ak)⟩ (by omega) ?_;(exact wB))
 ·obtain rfl:i=h.Spans.length:=by omega
  repeat'(first|refine gD ?_|fail)
  exact congrArg (fun z=>[B z]) ((by unfold tE;rw[ai]))
theorem HQ (j:aZ) (hs:aZ.sml j):ah Tryz.prog 187 false [.val (some 5) (aZ.enc .imm j)] .one [B (q7 j)]:=by
 have hl:j.Plan.Cells.length≤1048576:=hs
 refine fO 30 [] Tryz.func187 rfl ?_
 repeat'(first|refine gO ?_|(conv=>whnf);first|with_reducible (first|refine Bf.E (fun hq=>?_) (fun hq=>?_)|refine Bf.D (fun hq=>?_) (fun hq=>?_)))
 all_goals exact congrArg (fun z=>[B z]) ((by unfold q7;first|(symm;exact decide_eq_false (by omega))|(rw[Bool.eq_iff_iff,beq_iff_eq,decide_eq_true_eq];omega)))
theorem mZ (sp:List am) (la:List au) (a:Int):((denotes sp la a).Kind=1→0≤(denotes sp la a).Index∧(denotes sp la a).Index.toNat<sp.length)∧((denotes sp la a).Kind=3→0≤(denotes sp la a).Index∧(denotes sp la a).Index.toNat<la.length):=by
 unfold denotes
 cases h1:sp.findIdx? (cF · a) with
 | some i=>
  obtain⟨hi,-⟩:=List.findIdx?_eq_some_iff_getElem.1 h1
  simp only[nE]
  refine⟨fun _=>⟨by omega,by simpa using hi⟩,fun e=>?_⟩
  split at e<;>cases e
 | none=>
  cases h2:la.findIdx? (bt · a) with
  | some i=>
   obtain⟨hi,-⟩:=List.findIdx?_eq_some_iff_getElem.1 h2
   exact⟨fun e=>(by cases e),fun _=>⟨by simp,by simpa using hi⟩⟩
  | none=>exact⟨fun e=>(by cases e),fun e=>(by cases e)⟩
theorem Fi (h:ac) (a c:Int) (hs1:cC h.Spans) (hs2:cg h.Larges) (hlay:bu h.Spans h.Larges=true) (hw:iD a):ah Tryz.prog 272 false [.val (some 24) (ac.enc .imm h),.val none [I a],.val none [I c]] .one [B (de h a c)]:=by
 have hd:=mJ h.Spans h.Larges a hs1 hs2 hlay hw
 obtain⟨i1,-⟩:=mZ h.Spans h.Larges a
 unfold de
 generalize denotes h.Spans h.Larges a=w at hd i1 ⊢
 refine fO 37 [] Tryz.func272 rfl ?_
 repeat'(first|refine gO ?_|(conv=>whnf);first|with_reducible (first|refine Bf.D (fun hq=>?_) (fun hq=>?_)|refine Bf.E (fun hq=>?_) (fun hq=>?_))|refine Cl.mk hd ?_|refine Ix.mk (i1 (by assumption)).1 (aa (ao (i1 (by assumption)).2)) ?_)
 all_goals exact congrArg (fun z=>[B z]) ((by grind))
theorem zj (h:ac) (o:aX) (w:cJ) (hw:denotes h.Spans h.Larges o.Addr=w):jT h o=(decide (w.Offset=0)&&((decide (w.Kind=1)&&decide ((nth h.Spans w.Index.toNat).Class=cq o.Size)) || (decide (w.Kind=3)&&decide ((nth h.Larges w.Index.toNat).Size=o.Size)))):=by
 unfold jT;rw[hw]
theorem iE {h:ac} {i:Nat} (hi:i<h.Objs.length) (ho:objAt (IntKind.i64.wrap (h.Next - 1)) h i=false):fw h=false:=cf hi ho
theorem GZ {nx:Int} {h:ac} {i:Nat} (h1:gS nx h i=false):objAt nx h i=false:=by unfold objAt;rw[h1];rfl
theorem Gz {nx:Int} {h:ac} {i:Nat} (h1:(h.Objs.take i).any (kO (nth h.Objs i).Id)=true):objAt nx h i=false:=by unfold objAt;rw[h1];simp
theorem GA {nx:Int} {h:ac} {i:Nat} (h1:jT h (nth h.Objs i)=false):objAt nx h i=false:=by unfold objAt;rw[h1];simp
theorem yV {nx:Int} {h:ac} {i:Nat} (h1:gS nx h i=true) (h2:(h.Objs.take i).any (kO (nth h.Objs i).Id)=false) (h3:jT h (nth h.Objs i)=true):objAt nx h i=true:=by unfold objAt;rw[h1,h2,h3];rfl
theorem FE (h:ac) (hs1:cC h.Spans) (hs2:cg h.Larges) (hlay:bu h.Spans h.Larges=true) (hl:h.Objs.length≤1048576) (hc:h.Caches.length≤1048576) (hw:∀ o∈h.Objs,iD o.Addr):ah Tryz.prog 185 false [.val (some 24) (ac.enc .imm h)] .one [B (fw h)]:=by
 refine fO 117 [(5,33,[21,22,23,24,25,26,27,28,29,30,31,32,33,34,35,36,37,38,39,40,41,42,43,44,45,46,47,48,49,50,51,52,53]),(10,9,[59,60,61,62,63,64,65,66,67]),(13,16,[75,76,77,78,79,80,81,82,83,84,85,86,87,88,89,90]),(14,15,[91,92,93,94,95,96,97,98,99,100,101,102,103,104,105])] Tryz.func185 rfl ?_
 repeat'(first|refine gO ?_|fail)
 (conv=>whnf)
 refine Lp.mk (ι:=Nat) (fun i=>[(1,.hold .box (ac.enc .imm h)),(3,.hold .one [I ((i:Nat):Int)])]) (fun i=>i≤h.Objs.length∧cM i (objAt (IntKind.i64.wrap (h.Next - 1)) h)=true) (fun i=>h.Objs.length - i) 0 ?_ ⟨Nat.zero_le _,rfl⟩ fun i hi=>?_
 ·exact wB
 obtain⟨hi,ai⟩:=hi
 by_cases li:i<h.Objs.length
 ·have hx:=ao li
  have hd:=mJ h.Spans h.Larges (nth h.Objs i).Addr hs1 hs2 hlay (hw _ (aC li))
  obtain⟨i1,i3⟩:=mZ h.Spans h.Larges (nth h.Objs i).Addr
  have hown:=zj h (nth h.Objs i) _ rfl
  generalize denotes h.Spans h.Larges (nth h.Objs i).Addr=w at hd i1 i3 hown
  by_cases hnum:gS (IntKind.i64.wrap (h.Next - 1)) h i=true
  ·have hnum':=hnum
   unfold gS at hnum'
   rw[decide_eq_true_eq]at hnum'
   repeat'(first|refine gD ?_|(conv=>whnf);first|with_reducible (first|refine Ix.nat (aa hx) ?_|refine Bf.D (fun hq=>?_) (fun hq=>?_))|refine Ix.mk (by omega) (aa (fZ (by omega) li)) ?_|refine Cl.mk (aO _ _ _) ?_|refine Wr.mk rfl ?_)
   all_goals
    (conv=>whnf)
    refine Lp.mk (ι:=Nat) (fun k=>[(1,.hold .box (ac.enc .imm h)),(3,.hold .one [I ((i:Nat):Int)]),(4,.hold .box (aX.enc .imm (nth h.Objs i))),(5,.hold .one [I ((k:Nat):Int)])]) (fun k=>k≤i∧(h.Objs.take k).any (kO (nth h.Objs i).Id)=false) (fun k=>i - k) (0) ?_ (⟨Nat.zero_le _,rfl⟩) fun k hk=>?_
    ·exact wB
    obtain⟨hk,ak⟩:=hk
    by_cases lk:k<i
    ·have hy:=ao (xs:=h.Objs) (i:=k) (by omega)
     repeat'(first|refine gD ?_|(conv=>whnf);first|with_reducible (first|refine Ix.nat (aa hy) ?_|refine Bf.E (fun hq=>?_) (fun hq=>?_)))
     all_goals first
      | exact congrArg (fun z=>[B z]) ((iE li (Gz (Al (i:=k) (by rw[List.getElem?_take_of_lt lk];exact hy) (decide_eq_true (by assumption))))).symm)
      | ((conv=>whnf);refine Nx.mk (k+1) ⟨by omega,wn hy ak (decide_eq_false (by assumption))⟩ (by omega) ?_;(exact wB))
    ·obtain rfl:k=i:=by omega
     repeat'(first|refine gD ?_|(conv=>whnf);first|with_reducible (first|refine Bf.D (fun hq=>?_) (fun hq=>?_)|refine Bf.E (fun hq=>?_) (fun hq=>?_)|refine Bf.N (fun hq=>?_) (fun hq=>?_))|refine Cl.mk hd ?_|refine Ix.mk (i1 (by assumption)).1 (aa (ao (i1 (by assumption)).2)) ?_|refine Ix.mk (i3 (by assumption)).1 (aa (ao (i3 (by assumption)).2)) ?_|refine Cl.mk (Ag _) ?_)
     all_goals first
      | exact congrArg (fun z=>[B z]) ((iE li (GA (by rw[hown];grind))).symm)
      | ((conv=>whnf);refine Nx.mk (k+1) ⟨by omega,bD ai (yV hnum ak (by rw[hown];grind))⟩ (by omega) ?_;(exact wB))
      |(exfalso;omega)
  ·have hn2:gS (IntKind.i64.wrap (h.Next - 1)) h i=false:=by simpa using hnum
   have hnum':=hn2
   unfold gS at hnum'
   rw[decide_eq_false_iff_not]at hnum'
   repeat'(first|refine gD ?_|(conv=>whnf);first|with_reducible (first|refine Ix.nat (aa hx) ?_|refine Bf.D (fun hq=>?_) (fun hq=>?_))|refine Ix.mk (by omega) (aa (fZ (by omega) li)) ?_|refine Cl.mk (aO _ _ _) ?_|refine Wr.mk rfl ?_)
   all_goals first
    | exact congrArg (fun z=>[B z]) ((iE li (GZ hn2)).symm)
    |(exfalso;omega)
 ·obtain rfl:i=h.Objs.length:=by omega
  repeat'(first|refine gD ?_|fail)
  exact congrArg (fun z=>[B z]) ((show true=fw h from ai.symm))
theorem oT (o o0:aX):ah Tryz.prog 141 false [.val (some 4) (aX.enc .imm o),.ptr (aX.enc .imm o0)] .one [B (kO o0.Id o)]:=by
 refine fO 9 [] Tryz.func141 rfl ?_
 repeat'(first|refine gO ?_|fail)
 exact congrArg (fun z=>[B z]) ((by unfold kO;rw[Bool.eq_iff_iff];simp))
theorem Ey (h:ac) (hs1:cC h.Spans) (hs2:cg h.Larges) (hl:h.Objs.length≤1048576) (hc:h.Caches.length≤1048576):ah Tryz.prog 50 false [.val (some 24) (ac.enc .imm h)] .one [B (fw h)]:=by
 refine fO 105 [(4,33,[16,17,18,19,20,21,22,23,24,25,26,27,28,29,30,31,32,33,34,35,36,37,38,39,40,41,42,43,44,45,46,47,48]),(9,16,[62,63,64,65,66,67,68,69,70,71,72,73,74,75,76,77]),(10,15,[78,79,80,81,82,83,84,85,86,87,88,89,90,91,92])] Tryz.func50 rfl ?_
 repeat'(first|refine gO ?_|fail)
 (conv=>whnf)
 refine Lp.mk (ι:=Nat) (fun i=>[(1,.hold .box (ac.enc .imm h)),(9,.hold .one (eD .imm h.Objs)),(10,.hold .one [I (h.Objs.length)]),(11,.hold .one [I ((i:Nat):Int)])]) (fun i=>i≤h.Objs.length∧cM i (objAt (IntKind.i64.wrap (h.Next - 1)) h)=true) (fun i=>h.Objs.length - i) 0 ?_ ⟨Nat.zero_le _,rfl⟩ fun i hi=>?_
 ·exact wB
 obtain⟨hi,ai⟩:=hi
 by_cases li:i<h.Objs.length
 ·have hx:=ao li
  have hd:=mI h.Spans h.Larges (nth h.Objs i).Addr hs1 hs2
  obtain⟨i1,i3⟩:=mZ h.Spans h.Larges (nth h.Objs i).Addr
  have hown:=zj h (nth h.Objs i) _ rfl
  generalize denotes h.Spans h.Larges (nth h.Objs i).Addr=w at hd i1 i3 hown
  have hcf:=sf (h.Objs.take i) (kO (nth h.Objs i).Id) (by rw[List.length_take];omega)
  by_cases hnum:gS (IntKind.i64.wrap (h.Next - 1)) h i=true
  ·have hnum':=hnum
   unfold gS at hnum'
   rw[decide_eq_true_eq]at hnum'
   cases hany:(h.Objs.take i).any (kO (nth h.Objs i).Id)<;>rw[hany]at hcf
   ·repeat'(first|refine gD ?_|(conv=>whnf);first|with_reducible (first|refine Ix.nat (aa hx) ?_|refine Bf.D (fun hq=>?_) (fun hq=>?_)|refine Bf.E (fun hq=>?_) (fun hq=>?_)|refine Bf.N (fun hq=>?_) (fun hq=>?_))|refine Ix.mk (by omega) (aa (fZ (by omega) li)) ?_|refine Cl.mk (aL _ _ _) ?_|refine Sl.pre i rfl (by simp;omega) (fun r hr=>by obtain⟨z,-,rfl⟩:=List.mem_map.1 hr;rfl) (List.map_take ..) ?_|refine Cq.mk (yO (some 4) (aX.enc .imm) (kO (nth h.Objs i).Id) (h.Objs.take i)) (oT default (nth h.Objs i)).has (fun L k rcs hQ=>by obtain⟨y,-,rfl,rfl,rfl⟩:=hQ;exact oT y (nth h.Objs i)) ?_|refine Cl.mk hcf ?_|refine Cl.mk hd ?_|refine Ix.mk (i1 (by assumption)).1 (aa (ao (i1 (by assumption)).2)) ?_|refine Ix.mk (i3 (by assumption)).1 (aa (ao (i3 (by assumption)).2)) ?_|refine Cl.mk (zH _) ?_|refine Wr.mk rfl ?_)
    all_goals first
     | exact congrArg (fun z=>[B z]) ((iE li (GA (by rw[hown];grind))).symm)
     | ((conv=>whnf);refine Nx.mk (i+1) ⟨by omega,bD ai (yV hnum hany (by rw[hown];grind))⟩ (by omega) ?_;(exact wB))
     |(exfalso;omega)
   ·repeat'(first|refine gD ?_|(conv=>whnf);first|with_reducible (first|refine Ix.nat (aa hx) ?_|refine Bf.D (fun hq=>?_) (fun hq=>?_))|refine Ix.mk (by omega) (aa (fZ (by omega) li)) ?_|refine Cl.mk (aL _ _ _) ?_|refine Sl.pre i rfl (by simp;omega) (fun r hr=>by obtain⟨z,-,rfl⟩:=List.mem_map.1 hr;rfl) (List.map_take ..) ?_|refine Cq.mk (yO (some 4) (aX.enc .imm) (kO (nth h.Objs i).Id) (h.Objs.take i)) (oT default (nth h.Objs i)).has (fun L k rcs hQ=>by obtain⟨y,-,rfl,rfl,rfl⟩:=hQ;exact oT y (nth h.Objs i)) ?_|refine Cl.mk hcf ?_|refine Wr.mk rfl ?_)
    all_goals first
     | exact congrArg (fun z=>[B z]) ((iE li (Gz hany)).symm)
     |(exfalso;omega)
  ·have hn2:gS (IntKind.i64.wrap (h.Next - 1)) h i=false:=by simpa using hnum
   have hnum':=hn2
   unfold gS at hnum'
   rw[decide_eq_false_iff_not]at hnum'
   repeat'(first|refine gD ?_|(conv=>whnf);first|with_reducible (first|refine Ix.nat (aa hx) ?_|refine Bf.D (fun hq=>?_) (fun hq=>?_))|refine Ix.mk (by omega) (aa (fZ (by omega) li)) ?_|refine Cl.mk (aL _ _ _) ?_|refine Wr.mk rfl ?_)
   all_goals first
    | exact congrArg (fun z=>[B z]) ((iE li (GZ hn2)).symm)
    |(exfalso;omega)
 ·obtain rfl:i=h.Objs.length:=by omega
  repeat'(first|refine gD ?_|fail)
  exact congrArg (fun z=>[B z]) ((show true=fw h from ai.symm))
end Go.Proofs.YtplcalfnngkffaaGreat.Ab
/- Addresses in use, and that each has one holder: the contracts of LiveAddrs and l27Once, the reference's. No condition. -/
namespace Go.Proofs.YtplcalfnngkffaaGreat.Ab
open Go.RowKit
set_option maxRecDepth 20000
set_option maxHeartbeats 8000000
theorem HK {sp:List am} {la:List au} {n:Nat} (h:jj sp la n=true):lr sp la (n+1)=lr sp la n++[(n:Int)]:=by
 unfold lr;rw[List.range_succ,List.filter_append,List.map_append];simp[h]
theorem K7 {sp:List am} {la:List au} {n:Nat} (h:jj sp la n=false):lr sp la (n+1)=lr sp la n:=by
 unfold lr;rw[List.range_succ,List.filter_append,List.map_append];simp[h]
theorem yU (sp:List am) (la:List au) (n:Nat):(lr sp la n).length≤n:=by
 unfold lr;rw[List.length_map];exact Nat.le_trans (List.length_filter_le ..) (by simp)
theorem qy {sp:List am} {la:List au} {n:Nat} {w:cJ} (hw:denotes sp la (n:Nat)=w):jj sp la n=(decide (w.Offset=0)&&(decide (w.Kind=1) || decide (w.Kind=3))):=by
 unfold jj;rw[hw]
theorem Mw {n:Nat} (h:n≤1048576):iD (n:Nat):=⟨by omega,by omega⟩
theorem uO (sp:List am) (la:List au) (hs1:cC sp) (hs2:cg la) (hlay:bu sp la=true):ah Tryz.prog 274 false [.val none (bm .imm sp),.val none (bn .imm la)] .one (aI .own (iu sp la)):=by
 have h0:=lz sp la hs1 hs2
 rw[hlay]at h0
 refine fO 40 [] Tryz.func274 rfl ?_ (.inr (bN _))
 repeat'(first|refine gO ?_|fail)
 (conv=>whnf)
 refine Lp.mk (ι:=Nat) (fun n=>[(0,.hold .one (bm .imm sp)),(1,.hold .one (bn .imm la)),(5,.hold .one (aI .own (lr sp la n))),(6,.hold .one [I ((n:Nat):Int)])]) (fun n=>n≤512) (fun n=>512 - n) (0) ?_ (Nat.zero_le _) fun n hn=>?_
 ·exact wB
 have hll:=yU sp la n
 by_cases ln:n<512
 ·have hd:=mJ sp la (n:Nat) hs1 hs2 hlay (Mw (by omega))
  generalize hw:denotes sp la (n:Nat)=w at hd
  have hlw:=qy hw
  repeat'(first|refine gD ?_|(conv=>whnf);first|with_reducible refine Bf.E (fun hq=>?_) (fun hq=>?_)|refine Cl.mk h0 ?_|refine Cl.mk hd ?_|refine Ap.mk di (fun r hr=>by rw[List.mem_singleton.1 hr];rfl) (by simp[aW,eB]) (by simp;omega) (by simp only[List.length_map];exact ul (by simp;omega) (by decide)) rfl ?_)
  all_goals first
   |(have hon:jj sp la n=true:=by rw[hlw];grind
     (conv=>whnf)
     refine Nx.mk (n+1) (by omega) (by omega) ?_
     rw[HK hon]
     (repeat'(first|exact trivial|rfl|exact And.intro rfl (And.intro (congrArg (C.s dE.own) (by simp[rI])) trivial)|refine And.intro ?_ ?_)))
   |(have hon:jj sp la n=false:=by rw[hlw];grind
     (conv=>whnf)
     refine Nx.mk (n+1) (by omega) (by omega) ?_
     rw[K7 hon]
     (exact wA))
 ·obtain rfl:n=512:=by omega
  repeat'(first|refine gD ?_|(conv=>whnf);first|refine Cl.mk h0 ?_)
  rfl
theorem vY (m:aK) (hi:m.Inbox.length=m.Buffers.length):∀ i,i≤m.Buffers.length→(((flight1 m i).length+(flight2 m i).length:Nat):Int)=bP m i
 | 0,_=>rfl
 | i+1,h=>by
  have ih:=vY m hi i (by omega)
  have h1:=ao (xs:=m.Buffers) (i:=i) (by omega)
  have h2:=ao (xs:=m.Inbox) (i:=i) (by omega)
  rw[mV h1,mT h2]
  simp only[List.length_append,List.length_map]
  show _=bP m i+((nth m.Buffers i).length+(nth m.Inbox i).length)
  omega
theorem qQ {m:aK} (h:dZ m=true):(bh m).length≤30:=by
 have hf:=nb h
 have h1:=vY m hf.2.2 m.Buffers.length (Nat.le_refl _)
 have h2:bP m m.Buffers.length≤30:=by
  unfold dZ at h;simp only[Bool.and_eq_true,decide_eq_true_eq]at h;exact h.2
 rw[nZ h,List.length_append,hf.2.2]
 omega
theorem Dq {m:aK} (hw:aK.wf m):∀ a∈bh m,iD a:=by
 intro a ha
 unfold bh at ha
 split at ha
 ·rcases List.mem_append.1 ha with h|h
  ·obtain⟨l,hl,h⟩:=List.mem_flatMap.1 h
   obtain⟨p,hp,rfl⟩:=List.mem_map.1 h
   exact((hw.1.2 l hl).2 p hp).2
  ·obtain⟨l,hl,h⟩:=List.mem_flatten.1 h
   exact(hw.2.2 l hl).2 a h
 ·cases ha
theorem Jk {h:ac} (h1:h.Caches.all (eH h)=false):i9 h=false:=by unfold i9 gR;rw[h1];rfl
theorem H5 {h:ac} (h1:h.Quar.Lst.all (gB h)=false):i9 h=false:=by unfold i9 gR;rw[h1];simp
theorem Hv {h:ac} (h1:(bh h.Mail).all (jL h)=false):i9 h=false:=by unfold i9 gR;rw[h1];simp
theorem Jw {h:ac} {i:Nat} (hi:i<(holders h).length) (hd:nth (holders h) i∈(holders h).take i):i9 h=false:=by
 have h1:decide (holders h).Nodup=false:=Lk (S:=(holders h).take i) (p:=nth (holders h) i) (by
   have:=ao hi
   have e:(holders h).take i++[nth (holders h) i]=(holders h).take (i+1):=by rw[List.take_add_one,this];rfl
   rw[e];exact List.take_prefix ..) hd
 unfold i9;rw[h1];simp
theorem t6 {h:ac} {i:Nat} {c:ay} (hx:h.Caches[i]? = some c):((h.Caches.take (i+1)).flatMap fun c=>c.Lists.flatten)=((h.Caches.take i).flatMap fun c=>c.Lists.flatten)++c.Lists.flatten:=by
 rw[List.take_add_one,hx,List.flatMap_append];simp
theorem vz {c:ay} {k:Nat} {l:List Int} (hx:c.Lists[k]? = some l):(c.Lists.take (k+1)).flatten=(c.Lists.take k).flatten++l:=by
 rw[List.take_add_one,hx,List.flatten_append];simp
theorem Ff (h:ac) (hs:ac.sml h) (hw:ac.wf h) (hlay:bu h.Spans h.Larges=true) (hmail:dZ h.Mail=true) (hco:∀ c∈h.Caches,b9 c=true):ah Tryz.prog 186 false [.val (some 24) (ac.enc .imm h)] .one [B (i9 h)]:=by
 obtain⟨-,-,hs1,hs2,hso,hsc,hsm,hsq,-⟩:=hs
 obtain⟨-,-,-,-,-,hwc,hwm,hwq,-⟩:=hw
 have hlo:h.Objs.length≤1048576:=hso.1
 have hlc:h.Caches.length≤1048576:=hsc.1
 have hlq:h.Quar.Lst.length≤1048576:=hsq.1
 have hfl:=qQ hmail
 have hfw:=Dq hwm
 have hsl:∀ a c,iD a→ah Tryz.prog 272 false [.val (some 24) (ac.enc .imm h),.val none [I a],.val none [I c]] .one [B (de h a c)]:=fun a c ha=>Fi h a c hs1 hs2 hlay ha
 refine fO 159 [(16,8,[63,64,65,66,67,68,69,70]),(22,17,[86,87,88,89,90,91,92,93,94,95,96,97,98,99,100,101,102]),(29,7,[122,123,124,125,126,127,128]),(35,8,[142,143,144,145,146,147,148,149])] Tryz.func186 rfl ?_
 repeat'(first|refine gO ?_|fail)
 (conv=>whnf)
 refine Lp.mk (ι:=Nat × List Int) (fun i=>[(1,.hold .box (ac.enc .imm h)),(3,.hold .one (aI .own i.2)),(4,.hold .one [I ((i.1:Nat):Int)])]) (fun i=>i.1≤h.Objs.length∧i.2=(h.Objs.take i.1).map (·.Addr)) (fun i=>h.Objs.length - i.1) ((0,[])) ?_ (⟨Nat.zero_le _,rfl⟩) fun i hi=>?_
 ·exact wB
 obtain⟨i,S⟩:=i
 obtain⟨hi,hS⟩:=hi
 simp only at hi hS ⊢
 have hSl:S.length=i:=by rw[hS,List.length_map,List.length_take];omega
 by_cases li:i<h.Objs.length
 ·have hx:=ao li
  repeat'(first|refine gD ?_|(conv=>whnf);first|with_reducible refine Ix.nat (aa hx) ?_|refine Ap.mk di (fun r hr=>by rw[List.mem_singleton.1 hr];rfl) (by simp[aW,eB]) (by simp;omega) (by simp only[List.length_map];exact ul (by simp;omega) (by decide)) rfl ?_)
  ((conv=>whnf)
   refine Nx.mk (i+1,S++[(nth h.Objs i).Addr]) ⟨(by simp only;omega),(by simp only;rw[hS,List.take_add_one,hx];simp)⟩ (by simp only;omega) ?_
   (repeat'(first|exact trivial|rfl|exact And.intro rfl (And.intro (congrArg (C.s dE.own) (by simp[rI])) trivial)|refine And.intro ?_ ?_)))
 obtain rfl:i=h.Objs.length:=by omega
 rw[List.take_length]at hS
 repeat'(first|refine gD ?_|fail)
 (conv=>whnf)
 refine Lp.mk (ι:=Nat × List Int) (fun i=>[(1,.hold .box (ac.enc .imm h)),(3,.hold .one (aI .own i.2)),(5,.hold .one [I ((i.1:Nat):Int)])]) (fun i=>i.1≤h.Caches.length∧i.2=S++((h.Caches.take i.1).flatMap fun c=>c.Lists.flatten)∧(h.Caches.take i.1).all (eH h)=true∧i.2.length≤1048576+32*i.1) (fun i=>h.Caches.length - i.1) ((0,S)) ?_ (⟨Nat.zero_le _,by simp,rfl,by simp only;omega⟩) fun i hi=>?_
 ·exact wB
 obtain⟨i,S2⟩:=i
 obtain⟨hi2,hS2,ai,hb2⟩:=hi
 simp only at hi2 hS2 ai hb2 ⊢
 by_cases li2:i<h.Caches.length
 ·have hx:=ao li2
  obtain⟨h4,h8⟩:=tt (hco _ (aC li2))
  have hwl:=hwc.2 _ (aC li2)
  repeat'(first|refine gD ?_|(conv=>whnf);first|with_reducible refine Ix.nat (aa hx) ?_)
  (conv=>whnf)
  refine Lp.mk (ι:=Nat × List Int) (fun k=>[(1,.hold .box (ac.enc .imm h)),(3,.hold .one (aI .own k.2)),(5,.hold .one [I ((i:Nat):Int)]),(6,.hold .one [I ((k.1:Nat):Int)])]) (fun k=>k.1≤(nth h.Caches i).Lists.length∧k.2=S2++((nth h.Caches i).Lists.take k.1).flatten∧cM k.1 (qJ h (nth h.Caches i))=true∧k.2.length≤S2.length+8*k.1) (fun k=>(nth h.Caches i).Lists.length - k.1) ((0,S2)) ?_ (⟨Nat.zero_le _,by simp,rfl,by simp⟩) fun k hk=>?_
  ·exact wB
  obtain⟨k,S3⟩:=k
  obtain⟨hk,hS3,ak,hb3⟩:=hk
  simp only at hk hS3 ak hb3 ⊢
  by_cases lk:k<(nth h.Caches i).Lists.length
  ·have hy:=ao lk
   have hl8:=h8 _ (aC lk)
   have hwa:=(hwl.2 _ (aC lk)).2
   repeat'(first|refine gD ?_|(conv=>whnf);first|with_reducible (first|refine Ix.nat (aa hx) ?_|refine Ix.nat (aa hy) ?_))
   (conv=>whnf)
   refine Lp.mk (ι:=Nat × List Int) (fun j=>[(1,.hold .box (ac.enc .imm h)),(3,.hold .one (aI .own j.2)),(5,.hold .one [I ((i:Nat):Int)]),(6,.hold .one [I ((k:Nat):Int)]),(7,.hold .one (aI .imm (nth (nth h.Caches i).Lists k))),(8,.hold .one [I ((j.1:Nat):Int)])]) (fun j=>j.1≤(nth (nth h.Caches i).Lists k).length∧j.2=S3++(nth (nth h.Caches i).Lists k).take j.1∧((nth (nth h.Caches i).Lists k).take j.1).all (fun a=>de h a (k:Nat))=true) (fun j=>(nth (nth h.Caches i).Lists k).length - j.1) ((0,S3)) ?_ (⟨Nat.zero_le _,by simp,rfl⟩) fun j hj=>?_
   ·exact wB
   obtain⟨j,S4⟩:=j
   obtain⟨hj,hS4,aj⟩:=hj
   simp only at hj hS4 aj ⊢
   have hl4:S4.length=S3.length+j:=by rw[hS4,List.length_append,List.length_take];omega
   by_cases lj:j<(nth (nth h.Caches i).Lists k).length
   ·have hz:=ao lj
    have hsj:=hsl (nth (nth (nth h.Caches i).Lists k) j) (k:Nat) (hwa _ (aC lj))
    cases eh:de h (nth (nth (nth h.Caches i).Lists k) j) (k:Nat)<;>rw[eh]at hsj
    ·repeat'(first|refine gD ?_|(conv=>whnf);first|with_reducible refine Ix.nat (aa hz) ?_|refine Cl.mk hsj ?_)
     exact congrArg (fun z=>[B z]) ((Jk (eE hx (by unfold eH;exact cf lk (eE hz eh)))).symm)
    ·repeat'(first|refine gD ?_|(conv=>whnf);first|with_reducible refine Ix.nat (aa hz) ?_|refine Cl.mk hsj ?_|refine Ap.mk di (fun r hr=>by rw[List.mem_singleton.1 hr];rfl) (by simp[aW,eB]) (by simp;omega) (by show _*8≤_;simp;omega) rfl ?_)
     ((conv=>whnf)
      refine Nx.mk (j+1,S4++[nth (nth (nth h.Caches i).Lists k) j]) ⟨(by simp only;omega),(by simp only;rw[hS4,List.take_add_one,hz,List.append_assoc];rfl),cD hz aj eh⟩ (by simp only;omega) ?_
      (repeat'(first|exact trivial|rfl|exact And.intro rfl (And.intro (congrArg (C.s dE.own) (by simp[rI])) trivial)|refine And.intro ?_ ?_)))
   ·obtain rfl:j=(nth (nth h.Caches i).Lists k).length:=by omega
    rw[List.take_length]at hS4 aj
    repeat'(first|refine gD ?_|fail)
    ((conv=>whnf);refine Nx.mk (k+1,S4) ⟨(by simp only;omega),(by simp only;rw[hS4,hS3,vz hy,List.append_assoc]),bD ak aj,(by simp only;omega)⟩ (by simp only;omega) ?_;(exact wB))
  ·obtain rfl:k=(nth h.Caches i).Lists.length:=by omega
   rw[List.take_length]at hS3
   repeat'(first|refine gD ?_|(conv=>whnf);first|with_reducible refine Ix.nat (aa hx) ?_)
   ((conv=>whnf);refine Nx.mk (i+1,S3) ⟨(by simp only;omega),(by simp only;rw[hS3,hS2,t6 hx,List.append_assoc]),cD hx ai ak,(by simp only;omega)⟩ (by simp only;omega) ?_;(exact wB))
 obtain rfl:i=h.Caches.length:=by omega
 rw[List.take_length]at hS2 ai
 repeat'(first|refine gD ?_|fail)
 (conv=>whnf)
 refine Lp.mk (ι:=Nat × List Int) (fun q=>[(1,.hold .box (ac.enc .imm h)),(3,.hold .one (aI .own q.2)),(9,.hold .one [I ((q.1:Nat):Int)])]) (fun q=>q.1≤h.Quar.Lst.length∧q.2=S2++(h.Quar.Lst.take q.1).map (·.Addr)∧(h.Quar.Lst.take q.1).all (gB h)=true) (fun q=>h.Quar.Lst.length - q.1) ((0,S2)) ?_ (⟨Nat.zero_le _,by simp,rfl⟩) fun q hq=>?_
 ·exact wB
 obtain⟨q,S5⟩:=q
 obtain⟨hq1,hS5,aq⟩:=hq
 simp only at hq1 hS5 aq ⊢
 have hl5:S5.length=S2.length+q:=by rw[hS5,List.length_append,List.length_map,List.length_take];omega
 by_cases lq:q<h.Quar.Lst.length
 ·have hz:=ao lq
  have hsj:=hsl (nth h.Quar.Lst q).Addr (nth h.Quar.Lst q).Class (hwq.2.2 _ (aC lq)).1
  cases eh:de h (nth h.Quar.Lst q).Addr (nth h.Quar.Lst q).Class<;>rw[eh]at hsj
  ·repeat'(first|refine gD ?_|(conv=>whnf);first|with_reducible refine Ix.nat (aa hz) ?_|refine Cl.mk hsj ?_)
   exact congrArg (fun z=>[B z]) ((H5 (eE hz eh)).symm)
  ·repeat'(first|refine gD ?_|(conv=>whnf);first|with_reducible refine Ix.nat (aa hz) ?_|refine Cl.mk hsj ?_|refine Ap.mk di (fun r hr=>by rw[List.mem_singleton.1 hr];rfl) (by simp[aW,eB]) (by simp;omega) (by show _*8≤_;simp;omega) rfl ?_)
   ((conv=>whnf)
    refine Nx.mk (q+1,S5++[(nth h.Quar.Lst q).Addr]) ⟨(by simp only;omega),(by simp only;rw[hS5,List.take_add_one,hz,List.map_append,List.append_assoc];rfl),cD hz aq eh⟩ (by simp only;omega) ?_
    (repeat'(first|exact trivial|rfl|exact And.intro rfl (And.intro (congrArg (C.s dE.own) (by simp[rI])) trivial)|refine And.intro ?_ ?_)))
 obtain rfl:q=h.Quar.Lst.length:=by omega
 rw[List.take_length]at hS5 aq
 repeat'(first|refine gD ?_|(conv=>whnf);first|refine Cl.mk (yj h.Mail hsm) ?_)
 (conv=>whnf)
 refine Lp.mk (ι:=Nat × List Int) (fun q=>[(1,.hold .box (ac.enc .imm h)),(3,.hold .one (aI .own q.2)),(10,.hold .one (aI .own (bh h.Mail))),(11,.hold .one [I ((q.1:Nat):Int)])]) (fun q=>q.1≤(bh h.Mail).length∧q.2=S5++(bh h.Mail).take q.1∧((bh h.Mail).take q.1).all (jL h)=true) (fun q=>(bh h.Mail).length - q.1) ((0,S5)) ?_ (⟨Nat.zero_le _,by simp,rfl⟩) fun q hq=>?_
 ·exact wB
 obtain⟨q,S6⟩:=q
 obtain⟨hq1,hS6,aq6⟩:=hq
 simp only at hq1 hS6 aq6 ⊢
 have hl6:S6.length=S5.length+q:=by rw[hS6,List.length_append,List.length_take];omega
 by_cases lq:q<(bh h.Mail).length
 ·have hz:=ao lq
  have hsj:=hsl (nth (bh h.Mail) q) (-1) (hfw _ (aC lq))
  cases eh:de h (nth (bh h.Mail) q) (-1)<;>rw[eh]at hsj
  ·repeat'(first|refine gD ?_|(conv=>whnf);first|with_reducible refine Ix.nat (aa hz) ?_|refine Rw.one rfl (aa hz) rfl ?_|refine Cl.mk hsj ?_)
   exact congrArg (fun z=>[B z]) ((Hv (eE hz eh)).symm)
  ·repeat'(first|refine gD ?_|(conv=>whnf);first|with_reducible refine Ix.nat (aa hz) ?_|refine Rw.one rfl (aa hz) rfl ?_|refine Cl.mk hsj ?_|refine Ap.mk di (fun r hr=>by rw[List.mem_singleton.1 hr];rfl) (by simp[aW,eB]) (by simp;omega) (by show _*8≤_;simp;omega) rfl ?_)
   ((conv=>whnf)
    refine Nx.mk (q+1,S6++[nth (bh h.Mail) q]) ⟨(by simp only;omega),(by simp only;rw[hS6,List.take_add_one,hz,List.append_assoc];rfl),cD hz aq6 eh⟩ (by simp only;omega) ?_
    (repeat'(first|exact trivial|rfl|exact And.intro rfl (And.intro (congrArg (C.s dE.own) (by simp[rI])) trivial)|refine And.intro ?_ ?_)))
 obtain rfl:q=(bh h.Mail).length:=by omega
 rw[List.take_length]at hS6 aq6
 have hall:S6=holders h:=by rw[hS6,hS5,hS2,hS];rfl
 have hheld:gR h=true:=by unfold gR;rw[ai,aq,aq6];rfl
 have hbig:S6.length≤100000000:=by omega
 clear hS6 hS5 hS2 hS hSl hl5 hb2 hl6
 repeat'(first|refine gD ?_|fail)
 (conv=>whnf)
 refine Lp.fz 3 (ι:=Nat) (fun i=>[(1,.hold .box (ac.enc .imm h)),(3,.hold .one (aI .imm S6)),(12,.hold .one [I ((i:Nat):Int)])]) (fun i=>i≤S6.length∧(S6.take i).Nodup) (fun i=>S6.length - i) 0 ?_ ⟨Nat.zero_le _,by simp⟩ fun i hi=>?_
 ·(repeat'(first|exact trivial|rfl|exact And.intro rfl (show Lx (ey (aI .own S6)) (aI .imm S6) by rw[dO];exact ot _)|refine And.intro ?_ ?_))
 obtain⟨hi,hnd⟩:=hi
 by_cases lj:i<S6.length
 ·have hz:=ao lj
  have htl:(S6.take i).length=i:=by rw[List.length_take];omega
  repeat'(first|refine gD ?_|(conv=>whnf);first|with_reducible (first|refine Ix.nat (aa hz) ?_|refine Bf.D (fun hq=>?_) (fun hq=>?_))|refine Sl.pre i rfl (by simp;omega) (fun r hr=>by obtain⟨z,-,rfl⟩:=List.mem_map.1 hr;rfl) (List.map_take ..) ?_|refine Cl.mk (m0 (S6.take i) _ (by omega)) ?_)
  all_goals first
   | exact congrArg (fun z=>[B z]) ((by rw[hall]at *;exact(Jw (by assumption) (by assumption)).symm))
   | ((conv=>whnf);refine Nx.mk (i+1) ⟨by omega,by rw[List.take_add_one,hz];exact kS hnd (by assumption)⟩ (by omega) ?_;(exact wB))
 ·obtain rfl:i=S6.length:=by omega
  rw[List.take_length]at hnd
  have hlv:=yU h.Spans h.Larges 512
  repeat'(first|refine gD ?_|(conv=>whnf);first|refine Cl.mk (uO h.Spans h.Larges hs1 hs2 hlay) ?_)
  exact congrArg (fun z=>[B z]) ((by unfold i9;rw[hheld,←hall,decide_eq_true hnd,Bool.true_and,Bool.true_and];rw[Bool.eq_iff_iff,beq_iff_eq,decide_eq_true_eq];unfold iu at *;omega))
end Go.Proofs.YtplcalfnngkffaaGreat.Ab
/- The heap: the contract of the reference's HeapOk. No condition. -/
namespace Go.Proofs.YtplcalfnngkffaaGreat.Ab
open Go.RowKit
set_option maxRecDepth 20000
set_option maxHeartbeats 8000000
def cY (h:ac):Bool:=(dZ h.Mail&&decide (h.Caches.length=h.Mail.Buffers.length))&&gZ h.Quar
def ee (h:ac):Bool:=((((((lE h&&tE h)&&cY h)&&jQ h)&&h.Caches.all b9)&&eP h)&&(fw h&&i9 h))&&pE h
theorem tC (h:ac) (hs:ac.sml h) (hw:ac.wf h):ah Tryz.prog 83 false [.val (some 24) (ac.enc .imm h)] .one [B (ee h)]:=by
 have hsA:=hs
 have hwA:=hw
 obtain⟨hsk,hsf,hs1,hs2,hso,hsc,hsm,hsq,hsj⟩:=hs
 obtain⟨-,-,-,-,hwo,hwc,hwm,hwq,-⟩:=hw
 have hst:xN h:=hsk.1.2
 have hpn:gi h≤1048576:=hst.1
 have hlo:h.Objs.length≤1048576:=hso.1
 have hlc:h.Caches.length≤1048576:=hsc.1
 have hlq:h.Quar.Lst.length≤1048576:=hsq.1
 have hlb:h.Mail.Buffers.length≤1048576:=hsm.1.1
 have c1:=pu h.Kernel hsk
 have c2:=pJ (gi h) h.Free ⟨by omega,by omega⟩ hsf
 have c3:=lz h.Spans h.Larges hs1 hs2
 have c5:=A4 h hs1 hst
 have c6:=th h.Mail hsm
 have c7:=Bl h.Quar hsq
 cases e1:aH h.Kernel<;>rw[e1]at c1
 ·refine fO 150 [(8,10,[67,68,69,70,71,72,73,74,75,76])] Tryz.func83 rfl ?_
  repeat'(first|refine gO ?_|(conv=>whnf);first|with_reducible refine Bf.N (fun hq=>?_) (fun hq=>?_)|refine Cl.mk c1 ?_)
  all_goals first
   | exact congrArg (fun z=>[B z]) ((by unfold ee lE;rw[e1];simp))
   |(exfalso;omega)
 cases e2:bC (gi h) h.Free<;>rw[e2]at c2
 ·refine fO 150 [(8,10,[67,68,69,70,71,72,73,74,75,76])] Tryz.func83 rfl ?_
  repeat'(first|refine gO ?_|(conv=>whnf);first|with_reducible refine Bf.N (fun hq=>?_) (fun hq=>?_)|refine Cl.mk c1 ?_|refine Cl.mk c2 ?_)
  all_goals first
   | exact congrArg (fun z=>[B z]) ((by unfold ee lE;rw[e2];simp))
   |(exfalso;omega)
 cases e3:bu h.Spans h.Larges<;>rw[e3]at c3
 ·refine fO 150 [(8,10,[67,68,69,70,71,72,73,74,75,76])] Tryz.func83 rfl ?_
  repeat'(first|refine gO ?_|(conv=>whnf);first|with_reducible refine Bf.N (fun hq=>?_) (fun hq=>?_)|refine Cl.mk c1 ?_|refine Cl.mk c2 ?_|refine Cl.mk c3 ?_)
  all_goals first
   | exact congrArg (fun z=>[B z]) ((by unfold ee lE;rw[e3];simp))
   |(exfalso;omega)
 have c4:=B3 h hs1 hs2 hst hsf e3
 cases e4:pages0 h<;>rw[e4]at c4
 ·refine fO 150 [(8,10,[67,68,69,70,71,72,73,74,75,76])] Tryz.func83 rfl ?_
  repeat'(first|refine gO ?_|(conv=>whnf);first|with_reducible refine Bf.N (fun hq=>?_) (fun hq=>?_)|refine Cl.mk c1 ?_|refine Cl.mk c2 ?_|refine Cl.mk c3 ?_|refine Cl.mk c4 ?_)
  all_goals first
   | exact congrArg (fun z=>[B z]) ((by unfold ee lE;rw[e4];simp))
   |(exfalso;omega)
 cases e5:tE h<;>rw[e5]at c5
 ·refine fO 150 [(8,10,[67,68,69,70,71,72,73,74,75,76])] Tryz.func83 rfl ?_
  repeat'(first|refine gO ?_|(conv=>whnf);first|with_reducible refine Bf.N (fun hq=>?_) (fun hq=>?_)|refine Cl.mk c1 ?_|refine Cl.mk c2 ?_|refine Cl.mk c3 ?_|refine Cl.mk c4 ?_|refine Cl.mk c5 ?_)
  all_goals first
   | exact congrArg (fun z=>[B z]) ((by unfold ee ;rw[e5];simp))
   |(exfalso;omega)
 cases e6:dZ h.Mail<;>rw[e6]at c6
 ·refine fO 150 [(8,10,[67,68,69,70,71,72,73,74,75,76])] Tryz.func83 rfl ?_
  repeat'(first|refine gO ?_|(conv=>whnf);first|with_reducible refine Bf.N (fun hq=>?_) (fun hq=>?_)|refine Cl.mk c1 ?_|refine Cl.mk c2 ?_|refine Cl.mk c3 ?_|refine Cl.mk c4 ?_|refine Cl.mk c5 ?_|refine Cl.mk c6 ?_)
  all_goals first
   | exact congrArg (fun z=>[B z]) ((by unfold ee cY;rw[e6];simp))
   |(exfalso;omega)
 by_cases hcl:h.Caches.length=h.Mail.Buffers.length
 rotate_left
 ·refine fO 150 [(8,10,[67,68,69,70,71,72,73,74,75,76])] Tryz.func83 rfl ?_
  repeat'(first|refine gO ?_|(conv=>whnf);first|with_reducible refine Bf.N (fun hq=>?_) (fun hq=>?_)|refine Cl.mk c1 ?_|refine Cl.mk c2 ?_|refine Cl.mk c3 ?_|refine Cl.mk c4 ?_|refine Cl.mk c5 ?_|refine Cl.mk c6 ?_)
  all_goals first
   | exact congrArg (fun z=>[B z]) ((by unfold ee cY;rw[decide_eq_false hcl];simp))
   |(exfalso;omega)
 cases e7:gZ h.Quar<;>rw[e7]at c7
 ·refine fO 150 [(8,10,[67,68,69,70,71,72,73,74,75,76])] Tryz.func83 rfl ?_
  repeat'(first|refine gO ?_|(conv=>whnf);first|with_reducible refine Bf.N (fun hq=>?_) (fun hq=>?_)|refine Cl.mk c1 ?_|refine Cl.mk c2 ?_|refine Cl.mk c3 ?_|refine Cl.mk c4 ?_|refine Cl.mk c5 ?_|refine Cl.mk c6 ?_|refine Cl.mk c7 ?_)
  all_goals first
   | exact congrArg (fun z=>[B z]) ((by unfold ee cY;rw[e7];simp))
   |(exfalso;omega)
 have hlay:lE h=true:=by unfold lE;rw[e1,e2,e3,e4];rfl
 have hmc:cY h=true:=by unfold cY;rw[e6,decide_eq_true hcl,e7];rfl
 refine fO 150 [(8,10,[67,68,69,70,71,72,73,74,75,76])] Tryz.func83 rfl ?_
 repeat'(first|refine gA ?_|(conv=>whnf);first|with_reducible refine Bf.N (fun hq=>?_) (fun hq=>?_)|refine Cl.mk c1 ?_|refine Cl.mk c2 ?_|refine Cl.mk c3 ?_|refine Cl.mk c4 ?_|refine Cl.mk c5 ?_|refine Cl.mk c6 ?_|refine Cl.mk c7 ?_)
 all_goals try(exfalso;omega)
 (conv=>whnf)
 refine Lp.mk (ι:=Nat) (fun i=>[(1,.hold .box (ac.enc .imm h)),(3,.hold .one [I ((i:Nat):Int)])]) (fun i=>i≤h.Quar.Lst.length∧(h.Quar.Lst.take i).all (fun x=>decide (x.Since≤h.Clock))=true) (fun i=>h.Quar.Lst.length - i) (0) ?_ (⟨Nat.zero_le _,rfl⟩) fun i hi=>?_
 ·exact wB
 obtain⟨hi,ai⟩:=hi
 by_cases li:i<h.Quar.Lst.length
 ·have hx:=ao li
  repeat'(first|refine gD ?_|(conv=>whnf);first|with_reducible (first|refine Ix.nat (aa hx) ?_|refine Bf.D (fun hq=>?_) (fun hq=>?_)))
  all_goals first
   | exact congrArg (fun z=>[B z]) ((by unfold ee jQ;rw[eE hx (decide_eq_false (by omega))];simp))
   | ((conv=>whnf);refine Nx.mk (i+1) ⟨by omega,cD hx ai (decide_eq_true (by omega))⟩ (by omega) ?_;(exact wB))
 have hsi:jQ h=true:=gt (by omega) ai
 repeat'(first|refine gD ?_|fail)
 (conv=>whnf)
 refine Lp.mk (ι:=Nat) (fun k=>[(1,.hold .box (ac.enc .imm h)),(4,.hold .one [I ((k:Nat):Int)])]) (fun k=>k≤h.Caches.length∧(h.Caches.take k).all b9=true) (fun k=>h.Caches.length - k) (0) ?_ (⟨Nat.zero_le _,rfl⟩) fun k hk=>?_
 ·exact wB
 obtain⟨hk,ak⟩:=hk
 by_cases lk:k<h.Caches.length
 ·have hx:=ao lk
  have c8:=qA (nth h.Caches k) (hsc.2 _ (aC lk))
  cases e8:b9 (nth h.Caches k)<;>rw[e8]at c8
  ·repeat'(first|refine gD ?_|(conv=>whnf);first|with_reducible refine Ix.nat (aa hx) ?_|refine Cl.mk c8 ?_)
   exact congrArg (fun z=>[B z]) ((by unfold ee;rw[eE hx e8];simp))
  ·repeat'(first|refine gD ?_|(conv=>whnf);first|with_reducible refine Ix.nat (aa hx) ?_|refine Cl.mk c8 ?_)
   ((conv=>whnf);refine Nx.mk (k+1) ⟨by omega,cD hx ak e8⟩ (by omega) ?_;(exact wB))
 have hca:h.Caches.all b9=true:=gt (by omega) ak
 have c9:=FE h hs1 hs2 e3 hlo hlc (fun o ho=>(hwo.2 o ho).2.1)
 have c10:=Ff h hsA hwA e3 e6 (List.all_eq_true.1 hca)
 have c11:=HQ h.Job hsj
 have c12:=vw h.Job hsj
 have c13:=kX h h.Job.Plan.Keep hs1.1
 have c14:=kX h h.Job.Plan.Move hs1.1
 by_cases hn:eP h=true
 rotate_left
 ·have hn2:eP h=false:=by simpa using hn
  have hn':=hn2
  unfold eP at hn'
  rw[decide_eq_false_iff_not]at hn'
  cases e9:fw h<;>rw[e9]at c9<;>cases e10:i9 h<;>rw[e10]at c10
  all_goals
   repeat'(first|refine gD ?_|(conv=>whnf);first|with_reducible refine Bf.D (fun hq=>?_) (fun hq=>?_)|refine Cl.mk (aO _ _ _) ?_|refine Cl.mk c9 ?_|refine Cl.mk c10 ?_)
   all_goals first
    | exact congrArg (fun z=>[B z]) ((by unfold ee;rw[hn2];simp))
    |(exfalso;omega)
 have hn':=hn
 unfold eP at hn'
 rw[decide_eq_true_eq]at hn'
 cases e9:fw h<;>rw[e9]at c9
 ·repeat'(first|refine gD ?_|(conv=>whnf);first|with_reducible refine Bf.D (fun hq=>?_) (fun hq=>?_)|refine Cl.mk (aO _ _ _) ?_|refine Cl.mk c9 ?_)
  all_goals first
   | exact congrArg (fun z=>[B z]) ((by unfold ee;rw[e9];simp))
   |(exfalso;omega)
 cases e10:i9 h<;>rw[e10]at c10
 ·repeat'(first|refine gD ?_|(conv=>whnf);first|with_reducible refine Bf.D (fun hq=>?_) (fun hq=>?_)|refine Cl.mk (aO _ _ _) ?_|refine Cl.mk c9 ?_|refine Cl.mk c10 ?_)
  all_goals first
   | exact congrArg (fun z=>[B z]) ((by unfold ee;rw[e10];simp))
   |(exfalso;omega)
 have hfin:ee h=pE h:=by unfold ee;rw[hlay,e5,hmc,hsi,hca,hn,e9,e10];rfl
 rw[hfin]
 unfold pE
 cases em:h.Meshing
 ·repeat'(first|refine gD ?_|(conv=>whnf);first|with_reducible refine Bf.D (fun hq=>?_) (fun hq=>?_)|refine Cl.mk (aO _ _ _) ?_|refine Cl.mk c9 ?_|refine Cl.mk c10 ?_|refine Cl.mk c11 ?_|refine Bf.f em ?_)
  all_goals first
   |rfl
   | exact congrArg (fun z=>[B z]) ((by simp;done))
   |(exfalso;omega)
 ·cases e12:jb h.Job<;>rw[e12]at c12
  all_goals
   repeat'(first|refine gD ?_|(conv=>whnf);first|with_reducible (first|refine Bf.D (fun hq=>?_) (fun hq=>?_)|refine Bf.D (fun hq=>?_) (fun hq=>?_))|refine Cl.mk (aO _ _ _) ?_|refine Cl.mk c9 ?_|refine Cl.mk c10 ?_|refine Cl.mk c12 ?_|refine Cl.mk c13 ?_|refine Cl.mk c14 ?_|refine Bf.t em ?_)
   all_goals first
    | exact congrArg (fun z=>[B z]) ((by grind))
    |(exfalso;omega)
end Go.Proofs.YtplcalfnngkffaaGreat.Ab
/- The library's Sort of numbers, on data of the call's own. No condition. -/
namespace Go.Proofs.YtplcalfnngkffaaGreat.Ab
open Go.RowKit
set_option maxRecDepth 20000
set_option maxHeartbeats 4000000
def sorted (xs:List Int):List Int:=xs.mergeSort fun x y=>decide (x≤y)
theorem vA (xs:List Int):(sorted xs).length=xs.length:=List.length_mergeSort ..
theorem Gk {w w':World} {g n:Nat} {d:Array Int} {os:Array Obj} {c:Array Value} {e:TypeId} {fr:Nat × Nat} (hg:w.heap[g]? = some (.cells c e fr)) (hw:w'=Sort.grow (Sort.putRow (Value.int .i64) (Sort.ahead w n) g 0 d) os) :
  w'.os=w.os∧w'.tape=w.tape∧w'.output=w.output∧w.heap.size≤w'.heap.size∧(∀ b,b<w.heap.size→b≠g→w'.heap[b]? = w.heap[b]?)∧w'.heap[g]? = some (.cells (Sort.putCells (Value.int .i64) 0 d c) e fr):=by
 subst hw
 have hlt:g<w.heap.size:=(Array.getElem?_eq_some_iff.1 hg).1
 have hh:∀ b,b<w.heap.size→(Sort.grow (Sort.putRow (Value.int .i64) (Sort.ahead w n) g 0 d) os).heap[b]? = if g=b then(w.heap[b]?).map (Sort.onCells (Sort.putCells (Value.int .i64) 0 d)) else w.heap[b]?:=fun b hb=>by
  rw[Sort.heap_grow_old _ _ (by simpa[Sort.putRow,Sort.mapBlock,Sort.ahead] using hb)]
  show(w.heap.modify g _)[b]? = _
  rw[Array.getElem?_modify]
 refine⟨rfl,rfl,rfl,?_,fun b hb hne=>?_,?_⟩
 ·show w.heap.size≤((w.heap.modify g _)++os).size
  simp
 ·rw[hh b hb,if_neg fun e=>hne e.symm]
 ·rw[hh g hlt,if_pos rfl,hg];rfl
theorem LE (d:Array Int) (c:Array Value) (q:Nat):(Sort.putCells (Value.int .i64) 0 d c)[q]? = if q<d.size then(c[q]?).map (fun _=>.int .i64 d[q]!) else c[q]?:=by
 unfold Sort.putCells
 rw[Array.getElem?_mapIdx]
 by_cases h:q<d.size
 ·rw[if_pos h]
  cases c[q]? with
  | none=>rfl
  | some y=>simp[h]
 ·rw[if_neg h]
  cases c[q]? with
  | none=>rfl
  | some y=>simp[h]
theorem row1 {w:World} {S Y:ab} {c:C} {v:Value} (h:ez w S Y c v):co w S Y [c] (fun _=>v):=by
 refine⟨fun _=>Y,fun j c' hj=>?_,fun _ _ _ _ h=>h,fun j j' hj hj' hne=>?_⟩
 ·cases j with
  | zero=>simp at hj;subst hj;exact h
  | succ j=>simp at hj
 ·simp at hj hj';omega
def P3 (Y:ab):Nat→ab
 | 0=>Y
 | _+1=>NO
theorem Eg (xs:List Int) {j:Nat} (hj:j<xs.length):xs.toArray[j]! = xs[j]:=by
 rw[getElem!_pos xs.toArray j (by simpa using hj)];simp
theorem LA (xs:List Int) (hl:xs.length≤1048576*64):aV Tryz.prog 147 false [.mut none (aI .own xs)] [.mut none (aI .own (sorted xs))] (.tup []) []:=by
 refine⟨⟨_,Tryz.func147,by kernel_rfl,by kernel_rfl⟩,fun w S V vs hS hV hVV hA=>?_⟩
 match vs,hA with
 | [v],⟨hA,_⟩=>
  have hrep:=bv.rep1 (show bv w S (V 0) none [C.s .own (xs.map (rI .own))] v from hA)
  generalize hcc:C.s .own (xs.map (rI .own))=cc at hrep
  cases hrep with
  | nil _ o a ho=>
   cases hcc0:xs with
   | cons x xs'=>rw[hcc0]at hcc;cases hcc
   | nil=>
    refine(Tryz.slices_Sort_int_none a 0 w).mono fun e w' ⟨he,hw'⟩=>?_
    subst hw'
    refine⟨.tuple #[],he,bw.refl _ _,NO,fun _=>NO,NO,fun _ _ h=>h.elim,fun _ _ _ h=>h.elim,fun _ _ h=>h.elim,fun _ _ _ _ _ h=>h.elim,fun _ _ _ h=>h.elim,fun _ _ h=>h.elim,fun _ _ _ h=>h.elim,⟨#[],rfl,trivial,rfl⟩,co.nil _ _ _ _,⟨⟨rfl,fun _=>.slice a 0 0,rfl,row1 (by rw[show sorted []=[] from List.mergeSort_nil ..];exact .nil _ .own _ trivial)⟩,trivial⟩⟩
  | own _ o g k n cap rows u f ho hn hk hcap hpos hF hu hf hd hc=>
   cases hcc
   have hnx:n=xs.length:=by rw[←hn,List.length_map]
   have hx0:0<xs.length:=by omega
   have hk1:k=1:=by
    have:=hk (rI .own xs[0]) (List.mem_map.2 ⟨_,List.getElem_mem hx0,rfl⟩)
    exact this.symm
   subst hk1 hnx
   have hval:∀ j (hj:j<xs.length),cel w g j=some (.int .i64 xs[j]):=fun j hj=>by
    have h1:=hu j (by omega)
    have h2:=hc j 0 (rI .own xs[j]) (I xs[j]) (by rw[List.getElem?_map,List.getElem?_eq_getElem hj];rfl) rfl
    rw[Nat.mul_one,Nat.add_zero]at h2
    rw[h1]
    generalize u j=z at h2
    cases h2
    rfl
   have hgs:g<w.heap.size:=(hV 0 g 0 (hF 0 (by omega)).1).1
   obtain⟨c,e0,fr,hg,-⟩:=Sort.cells_of_cell? (hval 0 hx0)
   have hH:Sort.Holds (Value.int .i64) w g 0 xs.toArray:=fun j hj=>by
    have hj':j<xs.length:=by simpa using hj
    refine⟨?_,?_⟩
    ·rw[Eg xs hj',Nat.zero_add];exact hval j hj'
    ·rw[Nat.zero_add];exact congrArg Prod.fst (hF j (by omega)).2.2
   refine(Tryz.slices_Sort_int g 0 cap xs w hH hgs (by omega)).mono fun e w' ⟨he,m,os,hw'⟩=>?_
   obtain⟨q1,q2,q3,q4,q5,q6⟩:=Gk hg hw'
   have hsl:=vA xs
   have hcel:∀ q,cel w g q=c[q]?:=fun q=>by show World.cell? w _=_;unfold World.cell?;simp[hg]
   have hcel':∀ q,cel w' g q=if q<xs.length then(c[q]?).map (fun _=>.int .i64 (sorted xs).toArray[q]!) else c[q]?:=fun q=>by
    have h1:=LE (sorted xs).toArray c q
    have h2:(sorted xs).toArray.size=xs.length:=by simpa using hsl
    rw[h2]at h1
    rw[←h1]
    show World.cell? w' _=_
    unfold World.cell?;simp[q6,sorted]
   have hval':∀ q (hq:q<xs.length),cel w' g q=some (.int .i64 ((sorted xs)[q]'(by omega))):=fun q hq=>by
    have h1:=hval q hq
    rw[hcel]at h1
    rw[hcel',if_pos hq,h1,Option.map_some,Eg (sorted xs) (by omega)]
   have hfro:∀ q,fro w' g q=fro w g q:=fun q=>by
    refine Prod.ext ?_ ?_
    ·show World.frozen? w' _=World.frozen? w _
     unfold World.frozen?;simp[q6,hg]
    ·show mp w' g=mp w g
     unfold mp;rw[q6,hg]
   have hother:∀ b,b<w.heap.size→b≠g→∀ o,cel w' b o=cel w b o∧fro w' b o=fro w b o:=fun b hb hne o=>by
    have hb':=q5 b hb hne
    refine⟨?_,Prod.ext ?_ ?_⟩
    ·show World.cell? w' _=World.cell? w _
     unfold World.cell?;simp only[hb']
    ·show World.frozen? w' _=World.frozen? w _
     unfold World.frozen?;simp only[hb']
    ·show mp w' b=mp w b
     unfold mp;rw[hb']
   have hkeep:bw (fun b o=>∃ i,V i b o) w w':=by
    refine⟨q1,q2,q3,q4,fun b hb hn=>q5 b hb fun e=>?_,fun b o hb hn=>?_,fun b o hb hn=>?_⟩
    ·subst e;exact hn 0 ⟨0,(hF 0 (by omega)).1⟩
    ·by_cases e:b=g
     ·subst e
      have ho:¬o<xs.length:=fun h=>hn ⟨0,(hF o (by omega)).1⟩
      rw[hcel',if_neg ho,hcel]
     ·exact(hother b hb e o).1
    ·by_cases e:b=g
     ·subst e;exact hfro o
     ·exact(hother b hb e o).2
   refine⟨.tuple #[],he,hkeep,NO,P3 (V 0),NO,fun _ _ h=>h.elim,fun i b o h=>?_,fun _ _ h=>h.elim,fun i i' hne b o h h'=>?_,fun _ _ _ h=>h.elim,fun _ _ h=>h.elim,fun _ _ _ _ h=>h.elim,⟨#[],rfl,trivial,rfl⟩,co.nil _ _ _ _,⟨⟨rfl,fun _=>.slice (some ⟨g,0,none⟩) xs.length cap,rfl,row1 ?_⟩,trivial⟩⟩
   ·cases i with
    | zero=>exact .inl ⟨0,h⟩
    | succ i=>exact h.elim
   ·cases i with
    | zero=>
     cases i' with
     | zero=>exact hne rfl
     | succ i'=>exact h'.elim
    | succ i=>exact h.elim
   ·show ez w' _ (V 0) _ _
    refine .own _ .own g 1 xs.length cap _ (fun q=>(cel w' g q).getD undef) (fun _=>NO) trivial (by rw[List.length_map,hsl]) (fun r hr=>by obtain⟨z,-,rfl⟩:=List.mem_map.1 hr;rfl) hcap hpos (fun q hq=>?_) (fun q hq=>?_) (fun _ _ _ _ h=>h.elim) (fun _ _ _ _ _ _ _ h=>h.elim) (fun i j r c2 hi hj=>?_)
    ·obtain⟨a1,⟨z,a2,a3⟩,a4⟩:=hF q hq
     refine⟨a1,?_,(hfro q).trans a4⟩
     by_cases hqx:q<xs.length
     ·exact⟨_,hval' q hqx,rfl⟩
     ·rw[hcel',if_neg hqx,←hcel];exact⟨z,a2,a3⟩
    ·rw[hval' q (by omega)];rfl
    ·rw[List.getElem?_map]at hi
     have hil:i<(sorted xs).length:=by
      rcases Nat.lt_or_ge i (sorted xs).length with h|h
      ·exact h
      ·rw[List.getElem?_eq_none h]at hi;cases hi
     rw[List.getElem?_eq_getElem hil]at hi
     simp only[Option.map_some,Option.some.injEq]at hi
     subst hi
     match j,hj with
     | 0,hj=>
      simp only[rI,List.getElem?_cons_zero,Option.some.injEq]at hj
      subst hj
      simp only[Nat.mul_one,Nat.add_zero,hval' i (by omega),Option.getD_some]
      exact .v _ _ rfl
     | j+1,hj=>simp[rI]at hj
  | _=>cases hcc
end Go.Proofs.YtplcalfnngkffaaGreat.Ab
/- Addresses in use, as the program lists them; a slot's holders counted. No condition. -/
namespace Go.Proofs.YtplcalfnngkffaaGreat.Ab
open Go.RowKit
set_option maxRecDepth 20000
set_option maxHeartbeats 8000000
def kP (s:am) (k:Nat):Int:=16*s.Page+(k:Nat)*csz s.Class
def eg (s:am) (n:Nat):List Int:=((List.range n).filter fun k=>bF s.Bits (k:Nat)).map (kP s)
theorem z8 {s:am} {n:Nat} (h:bF s.Bits (n:Nat)=true):eg s (n+1)=eg s n++[kP s n]:=by
 unfold eg;rw[List.range_succ,List.filter_append,List.map_append];simp[h]
theorem Bj {s:am} {n:Nat} (h:bF s.Bits (n:Nat)=false):eg s (n+1)=eg s n:=by
 unfold eg;rw[List.range_succ,List.filter_append,List.map_append];simp[h]
theorem qU (s:am) (n:Nat):(eg s n).length≤n:=by
 unfold eg;rw[List.length_map];exact Nat.le_trans (List.length_filter_le ..) (by simp)
def fg (sp:List am):List Int:=sp.flatMap fun s=>eg s (slots s.Class).toNat
def live0 (sp:List am) (la:List au):List Int:=fg sp++la.map fun l=>16*l.Page
def nh (sp:List am) (la:List au):List Int:=sorted (live0 sp la)
theorem rg (k:Int):0≤slots k∧slots k≤16:=by
 unfold slots;(repeat' split)<;>decide
theorem y5 {k:Int} (h:0≤k∧k≤3):slots k*csz k=16:=by
 obtain rfl|rfl|rfl|rfl:k=0∨k=1∨k=2∨k=3:=by omega
 all_goals decide
theorem wP {sp:List am} {i:Nat} {s:am} (h:sp[i]? = some s):fg (sp.take (i+1))=fg (sp.take i)++eg s (slots s.Class).toNat:=by
 unfold fg;rw[List.take_add_one,h,List.flatMap_append];simp
theorem xf (s:am) (k:Nat) (hs:bq s=true) (hk:(k:Int)<slots s.Class):ah Tryz.prog 146 false [.val (some 3) (am.enc .imm s),.val none [I (k:Nat)]] .one [I (kP s k)]:=by
 have h1:=gn s
 have h2:=dR s.Class
 have h3:=il s.Class
 rw[hs]at h1
 have hc:=aR hs
 have hb:=rg s.Class
 rcases dw ⟨hc.2.2.1,hc.2.2.2⟩ with e|e|e|e<;>rw[e]at h2
 all_goals
  refine fO 26 [(3,9,[17,18,19,20,21,22,23,24,25])] Tryz.func146 rfl ?_
  repeat'(first|refine gD ?_|(conv=>whnf);first|with_reducible refine Bf.D (fun hq=>?_) (fun hq=>?_)|refine Cl.mk h1 ?_|refine Cl.mk h2 ?_|refine Cl.mk h3 ?_|refine Cl.mk (aL _ 0 _) ?_)
  all_goals exact congrArg (fun z=>[I z]) (by unfold kP;rw[e];omega)
theorem wi (sp:List am) (la:List au) (hs1:cC sp) (hs2:cg la) (hlay:bu sp la=true):ah Tryz.prog 55 false [.val none (bm .imm sp),.val none (bn .imm la)] .one (aI .own (nh sp la)):=by
 have hl1:=hs1.1
 have hl2:=hs2.1
 have h0:=pR sp la hs1 hs2
 rw[hlay]at h0
 obtain⟨ho1,ho2,-⟩:=gk hlay
 refine fP 56 [(147,[1])] [] Tryz.func55 rfl ?_ (.inr (bN _))
 repeat'(first|refine gO ?_|(conv=>whnf);first|refine Cl.mk h0 ?_)
 (conv=>whnf)
 refine Lp.mk (ι:=Nat × List Int) (fun i=>[(1,.hold .one (bn .imm la)),(5,.hold .one (aI .own i.2)),(16,.hold .one (bm .imm sp)),(17,.hold .one [I (sp.length)]),(18,.hold .one [I ((i.1:Nat):Int)])]) (fun i=>i.1≤sp.length∧i.2=fg (sp.take i.1)∧i.2.length≤16*i.1) (fun i=>sp.length - i.1) ((0,[])) ?_ (⟨Nat.zero_le _,rfl,Nat.zero_le _⟩) fun i hi=>?_
 ·exact wB
 obtain⟨i,S⟩:=i
 obtain⟨hi,hS,hb⟩:=hi
 simp only at hi hS hb ⊢
 by_cases li:i<sp.length
 ·have hx:=ao li
  have hok:bq (nth sp i)=true:=Mc ho1 li
  have hsl:=rg (nth sp i).Class
  have hbt:=eJ hok
  repeat'(first|refine gD ?_|(conv=>whnf);first|with_reducible refine Ix.nat (aa hx) ?_)
  (conv=>whnf)
  refine Lp.mk (ι:=Nat × List Int) (fun k=>[(1,.hold .one (bn .imm la)),(5,.hold .one (aI .own k.2)),(7,.hold .box (am.enc .imm (nth sp i))),(8,.hold .one [I ((k.1:Nat):Int)]),(16,.hold .one (bm .imm sp)),(17,.hold .one [I (sp.length)]),(18,.hold .one [I ((i:Nat):Int)])]) (fun k=>k.1≤(slots (nth sp i).Class).toNat∧k.2=S++eg (nth sp i) k.1) (fun k=>(slots (nth sp i).Class).toNat - k.1) ((0,S)) ?_ (⟨Nat.zero_le _,by simp[eg]⟩) fun k hk=>?_
  ·exact wB
  obtain⟨k,S2⟩:=k
  obtain⟨hk,hS2⟩:=hk
  simp only at hk hS2 ⊢
  have hll:=qU (nth sp i) k
  have hl2':S2.length=S.length+(eg (nth sp i) k).length:=by rw[hS2,List.length_append]
  by_cases lk:k<(slots (nth sp i).Class).toNat
  ·have hh:=ip (nth sp i).Bits (k:Nat) hbt.2
   cases eh:bF (nth sp i).Bits (k:Nat)<;>rw[eh]at hh
   ·repeat'(first|refine gD ?_|(conv=>whnf);first|refine Cl.mk (il _) ?_|refine Cl.mk hh ?_)
    ((conv=>whnf);refine Nx.mk (k+1,S2) ⟨(by simp only;omega),(by simp only;rw[Bj eh];exact hS2)⟩ (by simp only;omega) ?_;(exact wB))
   ·repeat'(first|refine gD ?_|(conv=>whnf);first|refine Cl.mk (il _) ?_|refine Cl.mk hh ?_|refine Cl.mk (xf (nth sp i) k hok (by omega)) ?_|refine Ap.mk di (fun r hr=>by rw[List.mem_singleton.1 hr];rfl) (by simp[aW,eB]) (by simp;omega) (by show _*8≤_;simp;omega) rfl ?_)
    ((conv=>whnf)
     refine Nx.mk (k+1,S2++[kP (nth sp i) k]) ⟨(by simp only;omega),(by simp only;rw[z8 eh,hS2,List.append_assoc])⟩ (by simp only;omega) ?_
     (repeat'(first|exact trivial|rfl|exact And.intro rfl (And.intro (congrArg (C.s dE.own) (by simp[rI])) trivial)|refine And.intro ?_ ?_)))
  ·obtain rfl:k=(slots (nth sp i).Class).toNat:=by omega
   repeat'(first|refine gD ?_|(conv=>whnf);first|refine Cl.mk (il _) ?_)
   ((conv=>whnf);refine Nx.mk (i+1,S2) ⟨(by simp only;omega),(by simp only;rw[wP hx,←hS,hS2]),(by simp only;omega)⟩ (by simp only;omega) ?_;(exact wB))
 obtain rfl:i=sp.length:=by omega
 rw[List.take_length]at hS
 repeat'(first|refine gD ?_|fail)
 (conv=>whnf)
 refine Lp.mk (ι:=Nat × List Int) (fun i=>[(5,.hold .one (aI .own i.2)),(40,.hold .one (bn .imm la)),(41,.hold .one [I (la.length)]),(42,.hold .one [I ((i.1:Nat):Int)])]) (fun i=>i.1≤la.length∧i.2=S++(la.take i.1).map (fun l=>16*l.Page)) (fun i=>la.length - i.1) ((0,S)) ?_ (⟨Nat.zero_le _,by simp⟩) fun i hi=>?_
 ·exact wB
 obtain⟨i,S2⟩:=i
 obtain⟨hi2,hS2⟩:=hi
 simp only at hi2 hS2 ⊢
 have hl2':S2.length=S.length+i:=by rw[hS2,List.length_append,List.length_map,List.length_take];omega
 by_cases li:i<la.length
 ·have hx:=ao li
  have hpg:=sH hlay hx
  repeat'(first|refine gD ?_|(conv=>whnf);first|with_reducible refine Ix.nat (aa hx) ?_|refine Ap.mk di (fun r hr=>by rw[List.mem_singleton.1 hr];rfl) (by simp[aW,eB]) (by simp;omega) (by show _*8≤_;simp;omega) rfl ?_)
  ((conv=>whnf)
   refine Nx.mk (i+1,S2++[16*(nth la i).Page]) ⟨(by simp only;omega),(by simp only;rw[hS2,List.take_add_one,hx];simp)⟩ (by simp only;omega) ?_
   (repeat'(first|exact trivial|rfl|exact And.intro rfl (And.intro (congrArg (C.s dE.own) (by simp[rI];omega)) trivial)|refine And.intro ?_ ?_)))
 obtain rfl:i=la.length:=by omega
 rw[List.take_length]at hS2
 repeat'(first|refine gD ?_|(conv=>whnf);first|refine er.mk (LA S2 (by omega)) (.inl rfl) ?_)
 show _=aI .own (sorted (fg sp++la.map fun l=>16*l.Page))
 rw[←hS,←hS2];rfl
def pM (es:List (Int × Value)) (L:List Int):Prop:=∀ a,mlook es a (.int .i64 0)=.int .i64 (L.count a:Nat)
theorem Hn (es:List (Int × Value)) (a b:Int) (v d:Value):mlook (mput es a v) b d=if a=b then v else mlook es b d:=by
 induction es with
 | nil=>simp only[mput,mlook]
 | cons p es ih=>
  simp only[mput]
  by_cases h:p.1=a
  ·rw[if_pos h]
   simp only[mlook]
   by_cases hb:a=b
   ·rw[if_pos hb,if_pos hb]
   ·rw[if_neg hb,if_neg hb,if_neg (by rw[h];exact hb)]
  ·rw[if_neg h]
   simp only[mlook]
   by_cases hb:p.1=b
   ·rw[if_pos hb,if_pos hb,if_neg (fun e=>h (hb.trans e.symm))]
   ·rw[if_neg hb,if_neg hb,ih]
def inc (es:List (Int × Value)) (L:List Int) (a:Int):List (Int × Value):=mput es a (.int .i64 ((L.count a:Nat)+1))
theorem Jr:pM [] []:=fun _=>rfl
theorem oY {es:List (Int × Value)} {L:List Int} (h:pM es L) (a:Int):pM (inc es L a) (L++[a]):=fun b=>by
 unfold inc
 rw[Hn,List.count_append]
 by_cases hab:a=b
 ·subst hab;rw[if_pos rfl,List.count_singleton_self];simp
 ·rw[if_neg hab,h b,List.count_singleton,if_neg (by simpa using hab)];rfl
theorem Ad (h:ac) (hs1:cC h.Spans) (hs2:cg h.Larges) (es:List (Int × Value)) (L:List Int) (a c:Int) (hes:pM es L) (hL:L.length≤1000000000) :
  aV Tryz.prog 142 false [.val none [I a],.val none [I c],.ptr [.m es],.ptr (ac.enc .imm h)] [.val none [I a],.val none [I c],.ptr [.m (inc es L a)],.ptr (ac.enc .imm h)] .one [B (de h a c)]:=by
 have hd:=mI h.Spans h.Larges a hs1 hs2
 obtain⟨i1,-⟩:=mZ h.Spans h.Larges a
 have hcl:L.count a≤L.length:=List.count_le_length
 unfold de
 generalize denotes h.Spans h.Larges a=w at hd i1 ⊢
 refine fM 41 [] [] [(0,0),(0,0),(0,0),(0,0)] Tryz.func142 rfl (fun u q=>?_)
 repeat'(first|refine gO ?_|(conv=>whnf);first|with_reducible (first|refine Bf.D (fun hq=>?_) (fun hq=>?_)|refine Bf.E (fun hq=>?_) (fun hq=>?_))|refine Ml.mk (hes a) ?_|refine Mu.mk (es':=inc es L a) rfl ?_|refine Cl.mk hd ?_|refine Ix.mk (i1 (by assumption)).1 (aa (ao (i1 (by assumption)).2)) ?_)
 all_goals
  refine bK.mk rfl ?_ ?_
  ·exact congrArg (fun z=>[B z]) ((by grind))
  ·exact wB
end Go.Proofs.YtplcalfnngkffaaGreat.Ab
/- Each slot in use has one holder, as the program asks it: the contract of holdersOk. No condition. -/
namespace Go.Proofs.YtplcalfnngkffaaGreat.Ab
open Go.RowKit
set_option maxRecDepth 20000
set_option maxHeartbeats 8000000
def rH (h:ac) (x0:aE):Bool:=gB h x0&&decide (x0.Since≤h.Clock)
def my (h:ac):List Int:=((f9 h++h.Quar.Lst.map (·.Addr))++bh h.Mail)++h.Objs.map (·.Addr)
def iX (h:ac):Bool:=((h.Caches.all (eH h)&&h.Quar.Lst.all (rH h))&&(bh h.Mail).all (jL h))&&(nh h.Spans h.Larges).all fun a=>decide ((my h).count a=1)
theorem L2 {h:ac} (h1:h.Caches.all (eH h)=false):iX h=false:=by unfold iX;rw[h1];rfl
theorem GX {h:ac} (h1:h.Quar.Lst.all (rH h)=false):iX h=false:=by unfold iX;rw[h1];simp
theorem LN {h:ac} (h1:(bh h.Mail).all (jL h)=false):iX h=false:=by unfold iX;rw[h1];simp
theorem Mb {h:ac} (h1:((nh h.Spans h.Larges).all fun a=>decide ((my h).count a=1))=false):iX h=false:=by unfold iX;rw[h1];simp
theorem Ho {sp:List am} {la:List au} (h1:sp.length≤1048576) (h2:la.length≤1048576):(nh sp la).length≤100000000:=by
 have h3:∀ (l:List am),(fg l).length≤16*l.length:=by
  intro l
  induction l with
  | nil=>exact Nat.zero_le _
  | cons s l ih=>
   have e:fg (s::l)=eg s (slots s.Class).toNat++fg l:=by unfold fg;rw[List.flatMap_cons]
   have hb:=rg s.Class
   have hl:=qU s (slots s.Class).toNat
   rw[e,List.length_append,List.length_cons];omega
 have h4:=h3 sp
 unfold nh live0
 rw[vA,List.length_append,List.length_map];omega
theorem wF (h:ac) (hs:ac.sml h) (hlay:bu h.Spans h.Larges=true) (hmail:dZ h.Mail=true) (hco:∀ c∈h.Caches,b9 c=true):ah Tryz.prog 51 false [.val (some 24) (ac.enc .imm h)] .one [B (iX h)]:=by
 obtain⟨-,-,hs1,hs2,hso,hsc,hsm,hsq,-⟩:=hs
 have hlo:h.Objs.length≤1048576:=hso.1
 have hlc:h.Caches.length≤1048576:=hsc.1
 have hlq:h.Quar.Lst.length≤1048576:=hsq.1
 have hfl:=qQ hmail
 have hno:iX h=false→[B false]=[B (iX h)]:=fun e=>by rw[e]
 refine fP 114 [(142,[0,0,2,2])] [] Tryz.func51 rfl ?_
 repeat'(first|refine gO ?_|fail)
 (conv=>whnf)
 refine Lp.mk (ι:=Nat × List (Int × Value) × List Int) (fun i=>[(1,.hold .box (ac.enc .imm h)),(3,.hold .box [.m i.2.1]),(4,.fn 142 [3,1]),(22,.hold .one (dh .imm h.Caches)),(23,.hold .one [I (h.Caches.length)]),(24,.hold .one [I ((i.1:Nat):Int)])]) (fun i=>i.1≤h.Caches.length∧pM i.2.1 i.2.2∧i.2.2=((h.Caches.take i.1).flatMap fun c=>c.Lists.flatten)∧(h.Caches.take i.1).all (eH h)=true∧i.2.2.length≤32*i.1) (fun i=>h.Caches.length - i.1) ((0,[],[])) ?_ (⟨Nat.zero_le _,Jr,rfl,rfl,Nat.zero_le _⟩) fun i hi=>?_
 ·exact wB
 obtain⟨i,es,L⟩:=i
 obtain⟨hi,hes,hL,ai,hb⟩:=hi
 simp only at hi hes hL ai hb ⊢
 by_cases li:i<h.Caches.length
 ·have hx:=ao li
  obtain⟨h4,h8⟩:=tt (hco _ (aC li))
  repeat'(first|refine gD ?_|(conv=>whnf);first|with_reducible refine Ix.nat (aa hx) ?_)
  (conv=>whnf)
  refine Lp.mk (ι:=Nat × List (Int × Value) × List Int) (fun k=>[(1,.hold .box (ac.enc .imm h)),(3,.hold .box [.m k.2.1]),(4,.fn 142 [3,1]),(22,.hold .one (dh .imm h.Caches)),(23,.hold .one [I (h.Caches.length)]),(24,.hold .one [I ((i:Nat):Int)]),(29,.hold .one (ed .imm (nth h.Caches i).Lists)),(30,.hold .one [I ((nth h.Caches i).Lists.length)]),(31,.hold .one [I ((k.1:Nat):Int)])]) (fun k=>k.1≤(nth h.Caches i).Lists.length∧pM k.2.1 k.2.2∧k.2.2=L++((nth h.Caches i).Lists.take k.1).flatten∧cM k.1 (qJ h (nth h.Caches i))=true∧k.2.2.length≤L.length+8*k.1) (fun k=>(nth h.Caches i).Lists.length - k.1) ((0,es,L)) ?_ (⟨Nat.zero_le _,hes,by simp,rfl,by simp⟩) fun k hk=>?_
  ·exact wB
  obtain⟨k,es3,L3⟩:=k
  obtain⟨hk,hes3,hL3,ak,hb3⟩:=hk
  simp only at hk hes3 hL3 ak hb3 ⊢
  by_cases lk:k<(nth h.Caches i).Lists.length
  ·have hy:=ao lk
   have hl8:=h8 _ (aC lk)
   repeat'(first|refine gD ?_|(conv=>whnf);first|with_reducible (first|refine Ix.nat (aa hx) ?_|refine Ix.nat (aa hy) ?_))
   (conv=>whnf)
   refine Lp.mk (ι:=Nat × List (Int × Value) × List Int) (fun j=>[(1,.hold .box (ac.enc .imm h)),(3,.hold .box [.m j.2.1]),(4,.fn 142 [3,1]),(7,.hold .one [I ((k:Nat):Int)]),(22,.hold .one (dh .imm h.Caches)),(23,.hold .one [I (h.Caches.length)]),(24,.hold .one [I ((i:Nat):Int)]),(29,.hold .one (ed .imm (nth h.Caches i).Lists)),(30,.hold .one [I ((nth h.Caches i).Lists.length)]),(31,.hold .one [I ((k:Nat):Int)]),(36,.hold .one (aI .imm (nth (nth h.Caches i).Lists k))),(37,.hold .one [I ((nth (nth h.Caches i).Lists k).length)]),(38,.hold .one [I ((j.1:Nat):Int)])]) (fun j=>j.1≤(nth (nth h.Caches i).Lists k).length∧pM j.2.1 j.2.2∧j.2.2=L3++(nth (nth h.Caches i).Lists k).take j.1∧((nth (nth h.Caches i).Lists k).take j.1).all (fun a=>de h a (k:Nat))=true) (fun j=>(nth (nth h.Caches i).Lists k).length - j.1) ((0,es3,L3)) ?_ (⟨Nat.zero_le _,hes3,by simp,rfl⟩) fun j hj=>?_
   ·exact wB
   obtain⟨j,es4,L4⟩:=j
   obtain⟨hj,hes4,hL4,aj⟩:=hj
   simp only at hj hes4 hL4 aj ⊢
   have hl4:L4.length=L3.length+j:=by rw[hL4,List.length_append,List.length_take];omega
   by_cases lj:j<(nth (nth h.Caches i).Lists k).length
   ·have hz:=ao lj
    have hcal:=Ad h hs1 hs2 es4 L4 (nth (nth (nth h.Caches i).Lists k) j) (k:Nat) hes4 (by omega)
    cases eh:de h (nth (nth (nth h.Caches i).Lists k) j) (k:Nat)<;>rw[eh]at hcal
    ·repeat'(first|refine gD ?_|(conv=>whnf);first|with_reducible refine Ix.nat (aa hz) ?_|refine er.mk (hcal) (.inl rfl) ?_)
     exact hno (L2 (eE hx (by unfold eH;exact cf lk (eE hz eh))))
    ·repeat'(first|refine gD ?_|(conv=>whnf);first|with_reducible refine Ix.nat (aa hz) ?_|refine er.mk (hcal) (.inl rfl) ?_)
     ((conv=>whnf)
      refine Nx.mk (j+1,inc es4 L4 (nth (nth (nth h.Caches i).Lists k) j),L4++[nth (nth (nth h.Caches i).Lists k) j]) ⟨(by simp only;omega),oY hes4 _,(by simp only;rw[hL4,List.take_add_one,hz,List.append_assoc];rfl),cD hz aj eh⟩ (by simp only;omega) ?_
      (exact wA))
   ·obtain rfl:j=(nth (nth h.Caches i).Lists k).length:=by omega
    rw[List.take_length]at hL4 aj
    repeat'(first|refine gD ?_|fail)
    ((conv=>whnf);refine Nx.mk (k+1,es4,L4) ⟨(by simp only;omega),hes4,(by simp only;rw[hL4,hL3,vz hy,List.append_assoc]),bD ak aj,(by simp only;omega)⟩ (by simp only;omega) ?_;(exact wB))
  ·obtain rfl:k=(nth h.Caches i).Lists.length:=by omega
   rw[List.take_length]at hL3
   repeat'(first|refine gD ?_|fail)
   ((conv=>whnf);refine Nx.mk (i+1,es3,L3) ⟨(by simp only;omega),hes3,(by simp only;rw[hL3,hL,t6 hx]),cD hx ai ak,(by simp only;omega)⟩ (by simp only;omega) ?_;(exact wB))
 obtain rfl:i=h.Caches.length:=by omega
 rw[List.take_length]at hL ai
 repeat'(first|refine gD ?_|fail)
 (conv=>whnf)
 refine Lp.mk (ι:=Nat × List (Int × Value) × List Int) (fun q=>[(1,.hold .box (ac.enc .imm h)),(3,.hold .box [.m q.2.1]),(4,.fn 142 [3,1]),(52,.hold .one (ce .imm h.Quar.Lst)),(53,.hold .one [I (h.Quar.Lst.length)]),(54,.hold .one [I ((q.1:Nat):Int)])]) (fun q=>q.1≤h.Quar.Lst.length∧pM q.2.1 q.2.2∧q.2.2=L++(h.Quar.Lst.take q.1).map (·.Addr)∧(h.Quar.Lst.take q.1).all (rH h)=true) (fun q=>h.Quar.Lst.length - q.1) ((0,es,L)) ?_ (⟨Nat.zero_le _,hes,by simp,rfl⟩) fun q hq=>?_
 ·exact wB
 obtain⟨q,es5,L5⟩:=q
 obtain⟨hq1,hes5,hL5,aq⟩:=hq
 simp only at hq1 hes5 hL5 aq ⊢
 have hl5:L5.length=L.length+q:=by rw[hL5,List.length_append,List.length_map,List.length_take];omega
 by_cases lq:q<h.Quar.Lst.length
 ·have hz:=ao lq
  have hcal:=Ad h hs1 hs2 es5 L5 (nth h.Quar.Lst q).Addr (nth h.Quar.Lst q).Class hes5 (by omega)
  cases eh:de h (nth h.Quar.Lst q).Addr (nth h.Quar.Lst q).Class<;>rw[eh]at hcal
  ·repeat'(first|refine gD ?_|(conv=>whnf);first|with_reducible (first|refine Ix.nat (aa hz) ?_|refine Bf.D (fun hq=>?_) (fun hq=>?_))|refine er.mk (hcal) (.inl rfl) ?_)
   all_goals exact hno (GX (eE hz (by unfold rH gB;rw[eh];rfl)))
  ·repeat'(first|refine gD ?_|(conv=>whnf);first|with_reducible (first|refine Ix.nat (aa hz) ?_|refine Bf.D (fun hq=>?_) (fun hq=>?_))|refine er.mk (hcal) (.inl rfl) ?_)
   all_goals first
    |exact hno (GX (eE hz (by unfold rH gB;rw[eh,decide_eq_false (by omega)];rfl)))
    | ((conv=>whnf)
       refine Nx.mk (q+1,inc es5 L5 (nth h.Quar.Lst q).Addr,L5++[(nth h.Quar.Lst q).Addr]) ⟨(by simp only;omega),oY hes5 _,(by simp only;rw[hL5,List.take_add_one,hz,List.map_append,List.append_assoc];rfl),cD hz aq (by unfold rH gB;rw[eh,decide_eq_true (by omega)];rfl)⟩ (by simp only;omega) ?_
       (exact wA))
 obtain rfl:q=h.Quar.Lst.length:=by omega
 rw[List.take_length]at hL5 aq
 repeat'(first|refine gD ?_|(conv=>whnf);first|refine Cl.mk (xm h.Mail hsm) ?_)
 (conv=>whnf)
 refine Lp.mk (ι:=Nat × List (Int × Value) × List Int) (fun q=>[(1,.hold .box (ac.enc .imm h)),(3,.hold .box [.m q.2.1]),(4,.fn 142 [3,1]),(75,.hold .one (aI .own (bh h.Mail))),(76,.hold .one [I ((bh h.Mail).length)]),(77,.hold .one [I ((q.1:Nat):Int)])]) (fun q=>q.1≤(bh h.Mail).length∧pM q.2.1 q.2.2∧q.2.2=L5++(bh h.Mail).take q.1∧((bh h.Mail).take q.1).all (jL h)=true) (fun q=>(bh h.Mail).length - q.1) ((0,es5,L5)) ?_ (⟨Nat.zero_le _,hes5,by simp,rfl⟩) fun q hq=>?_
 ·exact wB
 obtain⟨q,es6,L6⟩:=q
 obtain⟨hq1,hes6,hL6,aq6⟩:=hq
 simp only at hq1 hes6 hL6 aq6 ⊢
 have hl6:L6.length=L5.length+q:=by rw[hL6,List.length_append,List.length_take];omega
 by_cases lq:q<(bh h.Mail).length
 ·have hz:=ao lq
  have hcal:=Ad h hs1 hs2 es6 L6 (nth (bh h.Mail) q) (-1) hes6 (by omega)
  cases eh:de h (nth (bh h.Mail) q) (-1)<;>rw[eh]at hcal
  ·repeat'(first|refine gD ?_|(conv=>whnf);first|with_reducible refine Ix.nat (aa hz) ?_|refine Rw.one rfl (aa hz) rfl ?_|refine er.mk (hcal) (.inl rfl) ?_)
   exact hno (LN (eE hz eh))
  ·repeat'(first|refine gD ?_|(conv=>whnf);first|with_reducible refine Ix.nat (aa hz) ?_|refine Rw.one rfl (aa hz) rfl ?_|refine er.mk (hcal) (.inl rfl) ?_)
   ((conv=>whnf)
    refine Nx.mk (q+1,inc es6 L6 (nth (bh h.Mail) q),L6++[nth (bh h.Mail) q]) ⟨(by simp only;omega),oY hes6 _,(by simp only;rw[hL6,List.take_add_one,hz,List.append_assoc];rfl),cD hz aq6 eh⟩ (by simp only;omega) ?_
    (exact wA))
 obtain rfl:q=(bh h.Mail).length:=by omega
 rw[List.take_length]at hL6 aq6
 repeat'(first|refine gD ?_|fail)
 (conv=>whnf)
 refine Lp.mk (ι:=Nat × List (Int × Value) × List Int) (fun q=>[(1,.hold .box (ac.enc .imm h)),(3,.hold .box [.m q.2.1]),(87,.hold .one (eD .imm h.Objs)),(88,.hold .one [I (h.Objs.length)]),(89,.hold .one [I ((q.1:Nat):Int)])]) (fun q=>q.1≤h.Objs.length∧pM q.2.1 q.2.2∧q.2.2=L6++(h.Objs.take q.1).map (·.Addr)) (fun q=>h.Objs.length - q.1) ((0,es6,L6)) ?_ (⟨Nat.zero_le _,hes6,by simp⟩) fun q hq=>?_
 ·exact wB
 obtain⟨q,es7,L7⟩:=q
 obtain⟨hq1,hes7,hL7⟩:=hq
 simp only at hq1 hes7 hL7 ⊢
 have hl7:L7.length=L6.length+q:=by rw[hL7,List.length_append,List.length_map,List.length_take];omega
 by_cases lq:q<h.Objs.length
 ·have hz:=ao lq
  have hcl:L7.count (nth h.Objs q).Addr≤L7.length:=List.count_le_length
  repeat'(first|refine gD ?_|(conv=>whnf);first|with_reducible refine Ix.nat (aa hz) ?_|refine Ml.mk (hes7 _) ?_|refine Mu.mk (es':=inc es7 L7 (nth h.Objs q).Addr) rfl ?_)
  ((conv=>whnf)
   refine Nx.mk (q+1,inc es7 L7 (nth h.Objs q).Addr,L7++[(nth h.Objs q).Addr]) ⟨(by simp only;omega),oY hes7 _,(by simp only;rw[hL7,List.take_add_one,hz,List.map_append,List.append_assoc];rfl)⟩ (by simp only;omega) ?_
   (exact wA))
 obtain rfl:q=h.Objs.length:=by omega
 rw[List.take_length]at hL7
 have hall:L7=my h:=by rw[hL7,hL6,hL5,hL];rfl
 have hlv:=Ho hs1.1 hs2.1
 repeat'(first|refine gD ?_|(conv=>whnf);first|refine Cl.mk (wi h.Spans h.Larges hs1 hs2 hlay) ?_)
 (conv=>whnf)
 refine Lp.mk (ι:=Nat) (fun n=>[(3,.hold .box [.m es7]),(103,.hold .one (aI .own (nh h.Spans h.Larges))),(104,.hold .one [I ((nh h.Spans h.Larges).length)]),(105,.hold .one [I ((n:Nat):Int)])]) (fun n=>n≤(nh h.Spans h.Larges).length∧((nh h.Spans h.Larges).take n).all (fun a=>decide ((my h).count a=1))=true) (fun n=>(nh h.Spans h.Larges).length - n) (0) ?_ (⟨Nat.zero_le _,rfl⟩) fun n hn=>?_
 ·exact wB
 obtain⟨hn,an⟩:=hn
 by_cases ln:n<(nh h.Spans h.Larges).length
 ·have hz:=ao ln
  rw[hall]at hes7
  repeat'(first|refine gD ?_|(conv=>whnf);first|with_reducible (first|refine Ix.nat (aa hz) ?_|refine Bf.N (fun hq=>?_) (fun hq=>?_))|refine Rw.one rfl (aa hz) rfl ?_|refine Ml.mk (hes7 _) ?_)
  all_goals first
   |exact hno (Mb (eE hz (decide_eq_false (by omega))))
   | ((conv=>whnf);refine Nx.mk (n+1) ⟨by omega,cD hz an (decide_eq_true (by omega))⟩ (by omega) ?_;(exact wB))
 ·repeat'(first|refine gD ?_|fail)
  exact congrArg (fun z=>[B z]) ((by unfold iX;rw[ai,aq,aq6,gt (by omega) an];rfl))
end Go.Proofs.YtplcalfnngkffaaGreat.Ab
