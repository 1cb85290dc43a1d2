/- Addresses in use, and that each has one holder: the contracts of LiveAddrs and l27Once, the reference's. No condition. -/
import Derived.Test.YtogajjgmcnjkbaaGreatMh
namespace Go.Proofs.YtogajjgmcnjkbaaGreat.Ab
open Go.RowKit
set_option maxRecDepth 20000
set_option maxHeartbeats 8000000
theorem E2 {sp:List am} {la:List ah} {n:Nat} (h:iE sp la n=true):jM sp la (n+1)=jM sp la n++[(n:Int)]:=by
 unfold jM;rw[List.range_succ,List.filter_append,List.map_append];simp[h]
theorem FF {sp:List am} {la:List ah} {n:Nat} (h:iE sp la n=false):jM sp la (n+1)=jM sp la n:=by
 unfold jM;rw[List.range_succ,List.filter_append,List.map_append];simp[h]
theorem uZ (sp:List am) (la:List ah) (n:Nat):(jM sp la n).length≤n:=by
 unfold jM;rw[List.length_map];exact Nat.le_trans (List.length_filter_le ..) (by simp)
theorem pb {sp:List am} {la:List ah} {n:Nat} {w:ct} (hw:denotes sp la (n:Nat)=w):iE sp la n=(decide (w.Offset=0)&&(decide (w.Kind=1) || decide (w.Kind=3))):=by
 unfold iE;rw[hw]
theorem Hi {n:Nat} (h:n≤1048576):gz (n:Nat):=⟨by omega,by omega⟩
theorem sd (sp:List am) (la:List ah) (hs1:cf sp) (hs2:bO la) (hlay:bj sp la=true):af Tryz.prog 215 false [.val none (bt .imm sp),.val none (aW .imm la)] .one (aI .own (gu sp la)):=by
 have h0:=kr sp la hs1 hs2
 rw[hlay]at h0
 refine fO (n:=40) [] Tryz.func215 (by kernel_rfl) rfl (by kernel_rfl) (by rfl) (.inr (bZ _)) ?_
 repeat'((conv=>whnf);first|with_reducible (first|refine Lm ?_|refine Wm (by omega) ?_|refine Bn ?_|refine Fm rfl ?_)|refine Bt ?_|refine Bu ?_)
 (conv=>whnf)
 refine Lp.mk (ι:=Nat) (fun n=>[(0,.hold .one (bt .imm sp)),(1,.hold .one (aW .imm la)),(5,.hold .one (aI .own (jM sp la n))),(6,.hold .one [I ((n:Nat):Int)])]) (fun n=>n≤512) (fun n=>512 - n) (0) ?_ (Nat.zero_le _) fun n hn=>?_
 ·repeat'(first|exact trivial|rfl|refine And.intro ?_ ?_|(exact bQ (by first|omega|(simp only;omega)|(simp;omega))))
 have hll:=uZ sp la n
 by_cases ln:n<512
 ·have hd:=lb sp la (n:Nat) hs1 hs2 hlay (Hi (by omega))
  generalize hw:denotes sp la (n:Nat)=w at hd
  have hlw:=pb hw
  repeat'((conv=>whnf);first|with_reducible (first|refine Lm ?_|refine Wm (by omega) ?_|refine dT (by omega) (fun hq=>?_)|refine Bf.E (fun hq=>?_) (fun hq=>?_)|refine Bn ?_|refine Fm rfl ?_)|refine Bt ?_|refine Bu ?_|refine Cl.mk h0 ?_|refine Cl.mk hd ?_|refine Ap.mk dl (fun r hr=>by rw[List.mem_singleton.1 hr];rfl) (by simp[aQ,dU]) (by simp;omega) (by simp only[List.length_map];exact tO (by simp;omega) (by decide)) rfl ?_)
  all_goals first
   |(have hon:iE sp la n=true:=by rw[hlw];grind
     (conv=>whnf)
     refine Nx.mk (n+1) (by omega) (by omega) ?_
     rw[E2 hon]
     (repeat'(first|exact trivial|rfl|exact And.intro rfl (And.intro (congrArg (C.s dy.own) (by simp[rI])) trivial)|refine And.intro ?_ ?_)))
   |(have hon:iE sp la n=false:=by rw[hlw];grind
     (conv=>whnf)
     refine Nx.mk (n+1) (by omega) (by omega) ?_
     rw[FF hon]
     (repeat'(first|exact trivial|rfl|refine And.intro ?_ ?_)))
 ·obtain rfl:n=512:=by omega
  repeat'((conv=>whnf);first|with_reducible (first|refine Lm ?_|refine Wm (by omega) ?_|refine dF (by omega) (fun hq=>?_)|refine Bn ?_|refine Fm rfl ?_)|refine Bt ?_|refine Bu ?_|refine Cl.mk h0 ?_)
  rfl
theorem se (m:aG) (hi:m.Inbox.length=m.Buffers.length):∀ i,i≤m.Buffers.length→(((flight1 m i).length+(flight2 m i).length:Nat):Int)=cu m i
 | 0,_=>rfl
 | i+1,h=>by
  have ih:=se m hi i (by omega)
  have h1:=au (xs:=m.Buffers) (i:=i) (by omega)
  have h2:=au (xs:=m.Inbox) (i:=i) (by omega)
  rw[lu h1,lI h2]
  simp only[List.length_append,List.length_map]
  show _=cu m i+((nth m.Buffers i).length+(nth m.Inbox i).length)
  omega
theorem pn {m:aG} (h:dC m=true):(aX m).length≤30:=by
 have hf:=lH h
 have h1:=se m hf.2.2 m.Buffers.length (Nat.le_refl _)
 have h2:cu m m.Buffers.length≤30:=by
  unfold dC at h;simp only[Bool.and_eq_true,decide_eq_true_eq]at h;exact h.2
 rw[mD h,List.length_append,hf.2.2]
 omega
theorem yl {m:aG} (hw:aG.wf m):∀ a∈aX m,gz a:=by
 intro a ha
 unfold aX at ha
 split at ha
 ·rcases List.mem_append.1 ha with h|h
  ·obtain⟨l,hl,h⟩:=List.mem_flatMap.1 h
   obtain⟨p,hp,rfl⟩:=List.mem_map.1 h
   exact((hw.1.2 l hl).2 p hp).2
  ·obtain⟨l,hl,h⟩:=List.mem_flatten.1 h
   exact(hw.2.2 l hl).2 a h
 ·cases ha
theorem D7 {h:ac} (h1:h.Caches.all (dJ h)=false):gj h=false:=by unfold gj fH;rw[h1];rfl
theorem EC {h:ac} (h1:h.Quar.Lst.all (fC h)=false):gj h=false:=by unfold gj fH;rw[h1];simp
theorem DO {h:ac} (h1:(aX h.Mail).all (iS h)=false):gj h=false:=by unfold gj fH;rw[h1];simp
theorem En {h:ac} {i:Nat} (hi:i<(holders h).length) (hd:nth (holders h) i∈(holders h).take i):gj h=false:=by
 have h1:decide (holders h).Nodup=false:=EX (S:=(holders h).take i) (p:=nth (holders h) i) (by
   have:=au hi
   have e:(holders h).take i++[nth (holders h) i]=(holders h).take (i+1):=by rw[List.take_add_one,this];rfl
   rw[e];exact List.take_prefix ..) hd
 unfold gj;rw[h1];simp
theorem qW {h:ac} {i:Nat} {c:ar} (hx:h.Caches[i]? = some c):((h.Caches.take (i+1)).flatMap fun c=>c.Lists.flatten)=((h.Caches.take i).flatMap fun c=>c.Lists.flatten)++c.Lists.flatten:=by
 rw[List.take_add_one,hx,List.flatMap_append];simp
theorem sK {c:ar} {k:Nat} {l:List Int} (hx:c.Lists[k]? = some l):(c.Lists.take (k+1)).flatten=(c.Lists.take k).flatten++l:=by
 rw[List.take_add_one,hx,List.flatten_append];simp
theorem Bk (h:ac) (hs:ac.sml h) (hw:ac.wf h) (hlay:bj h.Spans h.Larges=true) (hmail:dC h.Mail=true) (hco:∀ c∈h.Caches,bw c=true):af Tryz.prog 98 false [.val (some 24) (ac.enc .imm h)] .one [B (gj h)]:=by
 obtain⟨-,-,hs1,hs2,hso,hsc,hsm,hsq,-⟩:=hs
 obtain⟨-,-,-,-,-,hwc,hwm,hwq,-⟩:=hw
 have hlo:h.Objs.length≤1048576:=hso.1
 have hlc:h.Caches.length≤1048576:=hsc.1
 have hlq:h.Quar.Lst.length≤1048576:=hsq.1
 have hfl:=pn hmail
 have hfw:=yl hwm
 have hsl:∀ a c,gz a→af Tryz.prog 213 false [.val (some 24) (ac.enc .imm h),.val none [I a],.val none [I c]] .one [B (cM h a c)]:=fun a c ha=>Al h a c hs1 hs2 hlay ha
 refine fO (n:=159) [(16,8,[63,64,65,66,67,68,69,70]),(22,17,[86,87,88,89,90,91,92,93,94,95,96,97,98,99,100,101,102]),(29,7,[122,123,124,125,126,127,128]),(35,8,[142,143,144,145,146,147,148,149])] Tryz.func98 (by kernel_rfl) rfl (by kernel_rfl) (by rfl) (.inr ⟨trivial,trivial⟩) ?_
 repeat'((conv=>whnf);first|with_reducible (first|refine Lm ?_|refine Wm (by omega) ?_|refine Bn ?_|refine Fm rfl ?_)|refine Bt ?_|refine Bu ?_)
 (conv=>whnf)
 refine Lp.mk (ι:=Nat × List Int) (fun i=>[(1,.hold .box (ac.enc .imm h)),(3,.hold .one (aI .own i.2)),(4,.hold .one [I ((i.1:Nat):Int)])]) (fun i=>i.1≤h.Objs.length∧i.2=(h.Objs.take i.1).map (·.Addr)) (fun i=>h.Objs.length - i.1) ((0,[])) ?_ (⟨Nat.zero_le _,rfl⟩) fun i hi=>?_
 ·repeat'(first|exact trivial|rfl|refine And.intro ?_ ?_|(exact bQ (by first|omega|(simp only;omega)|(simp;omega))))
 obtain⟨i,S⟩:=i
 obtain⟨hi,hS⟩:=hi
 simp only at hi hS ⊢
 have hSl:S.length=i:=by rw[hS,List.length_map,List.length_take];omega
 by_cases li:i<h.Objs.length
 ·have hx:=au li
  repeat'((conv=>whnf);first|with_reducible (first|refine Lm ?_|refine Wm (by omega) ?_|refine Ix.nat (aa hx) ?_|refine dT (by omega) (fun hq=>?_)|refine Bn ?_|refine Fm rfl ?_)|refine Bt ?_|refine Bu ?_|refine Ap.mk dl (fun r hr=>by rw[List.mem_singleton.1 hr];rfl) (by simp[aQ,dU]) (by simp;omega) (by simp only[List.length_map];exact tO (by simp;omega) (by decide)) rfl ?_)
  ((conv=>whnf)
   refine Nx.mk (i+1,S++[(nth h.Objs i).Addr]) ⟨(by simp only;omega),(by simp only;rw[hS,List.take_add_one,hx];simp)⟩ (by simp only;omega) ?_
   (repeat'(first|exact trivial|rfl|exact And.intro rfl (And.intro (congrArg (C.s dy.own) (by simp[rI])) trivial)|refine And.intro ?_ ?_)))
 obtain rfl:i=h.Objs.length:=by omega
 rw[List.take_length]at hS
 repeat'((conv=>whnf);first|with_reducible (first|refine Lm ?_|refine Wm (by omega) ?_|refine dF (by omega) (fun hq=>?_)|refine Bn ?_|refine Fm rfl ?_)|refine Bt ?_|refine Bu ?_)
 (conv=>whnf)
 refine Lp.mk (ι:=Nat × List Int) (fun i=>[(1,.hold .box (ac.enc .imm h)),(3,.hold .one (aI .own i.2)),(5,.hold .one [I ((i.1:Nat):Int)])]) (fun i=>i.1≤h.Caches.length∧i.2=S++((h.Caches.take i.1).flatMap fun c=>c.Lists.flatten)∧(h.Caches.take i.1).all (dJ h)=true∧i.2.length≤1048576+32*i.1) (fun i=>h.Caches.length - i.1) ((0,S)) ?_ (⟨Nat.zero_le _,by simp,rfl,by simp only;omega⟩) fun i hi=>?_
 ·repeat'(first|exact trivial|rfl|refine And.intro ?_ ?_|(exact bQ (by first|omega|(simp only;omega)|(simp;omega))))
 obtain⟨i,S2⟩:=i
 obtain⟨hi2,hS2,ai,hb2⟩:=hi
 simp only at hi2 hS2 ai hb2 ⊢
 by_cases li2:i<h.Caches.length
 ·have hx:=au li2
  obtain⟨h4,h8⟩:=qI (hco _ (ay li2))
  have hwl:=hwc.2 _ (ay li2)
  repeat'((conv=>whnf);first|with_reducible (first|refine Lm ?_|refine Wm (by omega) ?_|refine Ix.nat (aa hx) ?_|refine dT (by omega) (fun hq=>?_)|refine Bn ?_|refine Fm rfl ?_)|refine Bt ?_|refine Bu ?_)
  (conv=>whnf)
  refine Lp.mk (ι:=Nat × List Int) (fun k=>[(1,.hold .box (ac.enc .imm h)),(3,.hold .one (aI .own k.2)),(5,.hold .one [I ((i:Nat):Int)]),(6,.hold .one [I ((k.1:Nat):Int)])]) (fun k=>k.1≤(nth h.Caches i).Lists.length∧k.2=S2++((nth h.Caches i).Lists.take k.1).flatten∧cD k.1 (oH h (nth h.Caches i))=true∧k.2.length≤S2.length+8*k.1) (fun k=>(nth h.Caches i).Lists.length - k.1) ((0,S2)) ?_ (⟨Nat.zero_le _,by simp,rfl,by simp⟩) fun k hk=>?_
  ·repeat'(first|exact trivial|rfl|refine And.intro ?_ ?_|(exact bQ (by first|omega|(simp only;omega)|(simp;omega))))
  obtain⟨k,S3⟩:=k
  obtain⟨hk,hS3,ak,hb3⟩:=hk
  simp only at hk hS3 ak hb3 ⊢
  by_cases lk:k<(nth h.Caches i).Lists.length
  ·have hy:=au lk
   have hl8:=h8 _ (ay lk)
   have hwa:=(hwl.2 _ (ay lk)).2
   repeat'((conv=>whnf);first|with_reducible (first|refine Lm ?_|refine Wm (by omega) ?_|refine Ix.nat (aa hx) ?_|refine Ix.nat (aa hy) ?_|refine dT (by omega) (fun hq=>?_)|refine Bn ?_|refine Fm rfl ?_)|refine Bt ?_|refine Bu ?_)
   (conv=>whnf)
   refine Lp.mk (ι:=Nat × List Int) (fun j=>[(1,.hold .box (ac.enc .imm h)),(3,.hold .one (aI .own j.2)),(5,.hold .one [I ((i:Nat):Int)]),(6,.hold .one [I ((k:Nat):Int)]),(7,.hold .one (aI .imm (nth (nth h.Caches i).Lists k))),(8,.hold .one [I ((j.1:Nat):Int)])]) (fun j=>j.1≤(nth (nth h.Caches i).Lists k).length∧j.2=S3++(nth (nth h.Caches i).Lists k).take j.1∧((nth (nth h.Caches i).Lists k).take j.1).all (fun a=>cM h a (k:Nat))=true) (fun j=>(nth (nth h.Caches i).Lists k).length - j.1) ((0,S3)) ?_ (⟨Nat.zero_le _,by simp,rfl⟩) fun j hj=>?_
   ·repeat'(first|exact trivial|rfl|refine And.intro ?_ ?_|(exact bQ (by first|omega|(simp only;omega)|(simp;omega))))
   obtain⟨j,S4⟩:=j
   obtain⟨hj,hS4,aj⟩:=hj
   simp only at hj hS4 aj ⊢
   have hl4:S4.length=S3.length+j:=by rw[hS4,List.length_append,List.length_take];omega
   by_cases lj:j<(nth (nth h.Caches i).Lists k).length
   ·have hz:=au lj
    have hsj:=hsl (nth (nth (nth h.Caches i).Lists k) j) (k:Nat) (hwa _ (ay lj))
    cases eh:cM h (nth (nth (nth h.Caches i).Lists k) j) (k:Nat)<;>rw[eh]at hsj
    ·repeat'((conv=>whnf);first|with_reducible (first|refine Lm ?_|refine Wm (by omega) ?_|refine Ix.nat (aa hz) ?_|refine dT (by omega) (fun hq=>?_)|refine Bn ?_|refine Fm rfl ?_)|refine Bt ?_|refine Bu ?_|refine Cl.mk hsj ?_)
     exact congrArg (fun z=>[B z]) ((D7 (dI hx (by unfold dJ;exact bN lk (dI hz eh)))).symm)
    ·repeat'((conv=>whnf);first|with_reducible (first|refine Lm ?_|refine Wm (by omega) ?_|refine Ix.nat (aa hz) ?_|refine dT (by omega) (fun hq=>?_)|refine Bn ?_|refine Fm rfl ?_)|refine Bt ?_|refine Bu ?_|refine Cl.mk hsj ?_|refine Ap.mk dl (fun r hr=>by rw[List.mem_singleton.1 hr];rfl) (by simp[aQ,dU]) (by simp;omega) (by show _*8≤_;simp;omega) rfl ?_)
     ((conv=>whnf)
      refine Nx.mk (j+1,S4++[nth (nth (nth h.Caches i).Lists k) j]) ⟨(by simp only;omega),(by simp only;rw[hS4,List.take_add_one,hz,List.append_assoc];rfl),ce hz aj eh⟩ (by simp only;omega) ?_
      (repeat'(first|exact trivial|rfl|exact And.intro rfl (And.intro (congrArg (C.s dy.own) (by simp[rI])) trivial)|refine And.intro ?_ ?_)))
   ·obtain rfl:j=(nth (nth h.Caches i).Lists k).length:=by omega
    rw[List.take_length]at hS4 aj
    repeat'((conv=>whnf);first|with_reducible (first|refine Lm ?_|refine Wm (by omega) ?_|refine dF (by omega) (fun hq=>?_)|refine Bn ?_|refine Fm rfl ?_)|refine Bt ?_|refine Bu ?_)
    ((conv=>whnf);refine Nx.mk (k+1,S4) ⟨(by simp only;omega),(by simp only;rw[hS4,hS3,sK hy,List.append_assoc]),b6 ak aj,(by simp only;omega)⟩ (by simp only;omega) ?_;(repeat'(first|exact trivial|rfl|refine And.intro ?_ ?_|(exact bQ (by first|omega|(simp only;omega)|(simp;omega))))))
  ·obtain rfl:k=(nth h.Caches i).Lists.length:=by omega
   rw[List.take_length]at hS3
   repeat'((conv=>whnf);first|with_reducible (first|refine Lm ?_|refine Wm (by omega) ?_|refine Ix.nat (aa hx) ?_|refine dF (by omega) (fun hq=>?_)|refine Bn ?_|refine Fm rfl ?_)|refine Bt ?_|refine Bu ?_)
   ((conv=>whnf);refine Nx.mk (i+1,S3) ⟨(by simp only;omega),(by simp only;rw[hS3,hS2,qW hx,List.append_assoc]),ce hx ai ak,(by simp only;omega)⟩ (by simp only;omega) ?_;(repeat'(first|exact trivial|rfl|refine And.intro ?_ ?_|(exact bQ (by first|omega|(simp only;omega)|(simp;omega))))))
 obtain rfl:i=h.Caches.length:=by omega
 rw[List.take_length]at hS2 ai
 repeat'((conv=>whnf);first|with_reducible (first|refine Lm ?_|refine Wm (by omega) ?_|refine dF (by omega) (fun hq=>?_)|refine Bn ?_|refine Fm rfl ?_)|refine Bt ?_|refine Bu ?_)
 (conv=>whnf)
 refine Lp.mk (ι:=Nat × List Int) (fun q=>[(1,.hold .box (ac.enc .imm h)),(3,.hold .one (aI .own q.2)),(9,.hold .one [I ((q.1:Nat):Int)])]) (fun q=>q.1≤h.Quar.Lst.length∧q.2=S2++(h.Quar.Lst.take q.1).map (·.Addr)∧(h.Quar.Lst.take q.1).all (fC h)=true) (fun q=>h.Quar.Lst.length - q.1) ((0,S2)) ?_ (⟨Nat.zero_le _,by simp,rfl⟩) fun q hq=>?_
 ·repeat'(first|exact trivial|rfl|refine And.intro ?_ ?_|(exact bQ (by first|omega|(simp only;omega)|(simp;omega))))
 obtain⟨q,S5⟩:=q
 obtain⟨hq1,hS5,aq⟩:=hq
 simp only at hq1 hS5 aq ⊢
 have hl5:S5.length=S2.length+q:=by rw[hS5,List.length_append,List.length_map,List.length_take];omega
 by_cases lq:q<h.Quar.Lst.length
 ·have hz:=au lq
  have hsj:=hsl (nth h.Quar.Lst q).Addr (nth h.Quar.Lst q).Class (hwq.2.2 _ (ay lq)).1
  cases eh:cM h (nth h.Quar.Lst q).Addr (nth h.Quar.Lst q).Class<;>rw[eh]at hsj
  ·repeat'((conv=>whnf);first|with_reducible (first|refine Lm ?_|refine Wm (by omega) ?_|refine Ix.nat (aa hz) ?_|refine dT (by omega) (fun hq=>?_)|refine Bn ?_|refine Fm rfl ?_)|refine Bt ?_|refine Bu ?_|refine Cl.mk hsj ?_)
   exact congrArg (fun z=>[B z]) ((EC (dI hz eh)).symm)
  ·repeat'((conv=>whnf);first|with_reducible (first|refine Lm ?_|refine Wm (by omega) ?_|refine Ix.nat (aa hz) ?_|refine dT (by omega) (fun hq=>?_)|refine Bn ?_|refine Fm rfl ?_)|refine Bt ?_|refine Bu ?_|refine Cl.mk hsj ?_|refine Ap.mk dl (fun r hr=>by rw[List.mem_singleton.1 hr];rfl) (by simp[aQ,dU]) (by simp;omega) (by show _*8≤_;simp;omega) rfl ?_)
   ((conv=>whnf)
    refine Nx.mk (q+1,S5++[(nth h.Quar.Lst q).Addr]) ⟨(by simp only;omega),(by simp only;rw[hS5,List.take_add_one,hz,List.map_append,List.append_assoc];rfl),ce hz aq eh⟩ (by simp only;omega) ?_
    (repeat'(first|exact trivial|rfl|exact And.intro rfl (And.intro (congrArg (C.s dy.own) (by simp[rI])) trivial)|refine And.intro ?_ ?_)))
 obtain rfl:q=h.Quar.Lst.length:=by omega
 rw[List.take_length]at hS5 aq
 repeat'((conv=>whnf);first|with_reducible (first|refine Lm ?_|refine Wm (by omega) ?_|refine dF (by omega) (fun hq=>?_)|refine Bn ?_|refine Fm rfl ?_)|refine Bt ?_|refine Bu ?_|refine Cl.mk (tP h.Mail hsm) ?_)
 (conv=>whnf)
 refine Lp.mk (ι:=Nat × List Int) (fun q=>[(1,.hold .box (ac.enc .imm h)),(3,.hold .one (aI .own q.2)),(10,.hold .one (aI .own (aX h.Mail))),(11,.hold .one [I ((q.1:Nat):Int)])]) (fun q=>q.1≤(aX h.Mail).length∧q.2=S5++(aX h.Mail).take q.1∧((aX h.Mail).take q.1).all (iS h)=true) (fun q=>(aX h.Mail).length - q.1) ((0,S5)) ?_ (⟨Nat.zero_le _,by simp,rfl⟩) fun q hq=>?_
 ·repeat'(first|exact trivial|rfl|refine And.intro ?_ ?_|(exact bQ (by first|omega|(simp only;omega)|(simp;omega))))
 obtain⟨q,S6⟩:=q
 obtain⟨hq1,hS6,aq6⟩:=hq
 simp only at hq1 hS6 aq6 ⊢
 have hl6:S6.length=S5.length+q:=by rw[hS6,List.length_append,List.length_take];omega
 by_cases lq:q<(aX h.Mail).length
 ·have hz:=au lq
  have hsj:=hsl (nth (aX h.Mail) q) (-1) (hfw _ (ay lq))
  cases eh:cM h (nth (aX h.Mail) q) (-1)<;>rw[eh]at hsj
  ·repeat'((conv=>whnf);first|with_reducible (first|refine Lm ?_|refine Wm (by omega) ?_|refine Ix.nat (aa hz) ?_|refine dT (by omega) (fun hq=>?_)|refine Bn ?_|refine Fm rfl ?_)|refine Bt ?_|refine Bu ?_|refine Rw.one rfl (aa hz) rfl ?_|refine Cl.mk hsj ?_)
   exact congrArg (fun z=>[B z]) ((DO (dI hz eh)).symm)
  ·repeat'((conv=>whnf);first|with_reducible (first|refine Lm ?_|refine Wm (by omega) ?_|refine Ix.nat (aa hz) ?_|refine dT (by omega) (fun hq=>?_)|refine Bn ?_|refine Fm rfl ?_)|refine Bt ?_|refine Bu ?_|refine Rw.one rfl (aa hz) rfl ?_|refine Cl.mk hsj ?_|refine Ap.mk dl (fun r hr=>by rw[List.mem_singleton.1 hr];rfl) (by simp[aQ,dU]) (by simp;omega) (by show _*8≤_;simp;omega) rfl ?_)
   ((conv=>whnf)
    refine Nx.mk (q+1,S6++[nth (aX h.Mail) q]) ⟨(by simp only;omega),(by simp only;rw[hS6,List.take_add_one,hz,List.append_assoc];rfl),ce hz aq6 eh⟩ (by simp only;omega) ?_
    (repeat'(first|exact trivial|rfl|exact And.intro rfl (And.intro (congrArg (C.s dy.own) (by simp[rI])) trivial)|refine And.intro ?_ ?_)))
 obtain rfl:q=(aX h.Mail).length:=by omega
 rw[List.take_length]at hS6 aq6
 have hall:S6=holders h:=by rw[hS6,hS5,hS2,hS];rfl
 have hheld:fH h=true:=by unfold fH;rw[ai,aq,aq6];rfl
 have hbig:S6.length≤100000000:=by omega
 clear hS6 hS5 hS2 hS hSl hl5 hb2 hl6
 repeat'((conv=>whnf);first|with_reducible (first|refine Lm ?_|refine Wm (by omega) ?_|refine dF (by omega) (fun hq=>?_)|refine Bn ?_|refine Fm rfl ?_)|refine Bt ?_|refine Bu ?_)
 (conv=>whnf)
 refine Lp.fz 3 (ι:=Nat) (fun i=>[(1,.hold .box (ac.enc .imm h)),(3,.hold .one (aI .imm S6)),(12,.hold .one [I ((i:Nat):Int)])]) (fun i=>i≤S6.length∧(S6.take i).Nodup) (fun i=>S6.length - i) 0 ?_ ⟨Nat.zero_le _,by simp⟩ fun i hi=>?_
 ·(repeat'(first|exact trivial|rfl|exact And.intro rfl (show G5 (dV (aI .own S6)) (aI .imm S6) by rw[eC];exact kN _)|refine And.intro ?_ ?_))
 obtain⟨hi,hnd⟩:=hi
 by_cases lj:i<S6.length
 ·have hz:=au lj
  have htl:(S6.take i).length=i:=by rw[List.length_take];omega
  repeat'((conv=>whnf);first|with_reducible (first|refine Lm ?_|refine Wm (by omega) ?_|refine Ix.nat (aa hz) ?_|refine dT (by omega) (fun hq=>?_)|refine Bf.D (fun hq=>?_) (fun hq=>?_)|refine Bn ?_|refine Fm rfl ?_)|refine Bt ?_|refine Bu ?_|refine Sl.pre i rfl (by simp;omega) (fun r hr=>by obtain⟨z,-,rfl⟩:=List.mem_map.1 hr;rfl) (List.map_take ..) ?_|refine Cl.mk (kD (S6.take i) _ (by omega)) ?_)
  all_goals first
   | exact congrArg (fun z=>[B z]) ((by rw[hall]at *;exact(En (by assumption) (by assumption)).symm))
   | ((conv=>whnf);refine Nx.mk (i+1) ⟨by omega,by rw[List.take_add_one,hz];exact jC hnd (by assumption)⟩ (by omega) ?_;(repeat'(first|exact trivial|rfl|refine And.intro ?_ ?_|(exact bQ (by first|omega|(simp only;omega)|(simp;omega))))))
 ·obtain rfl:i=S6.length:=by omega
  rw[List.take_length]at hnd
  have hlv:=uZ h.Spans h.Larges 512
  repeat'((conv=>whnf);first|with_reducible (first|refine Lm ?_|refine Wm (by omega) ?_|refine dF (by omega) (fun hq=>?_)|refine Bn ?_|refine Fm rfl ?_)|refine Bt ?_|refine Bu ?_|refine Cl.mk (sd h.Spans h.Larges hs1 hs2 hlay) ?_)
  exact congrArg (fun z=>[B z]) ((by unfold gj;rw[hheld,←hall,decide_eq_true hnd,Bool.true_and,Bool.true_and];rw[Bool.eq_iff_iff,beq_iff_eq,decide_eq_true_eq];unfold gu at *;omega))
end Go.Proofs.YtogajjgmcnjkbaaGreat.Ab
namespace Go.Proofs.YtogajjgmcnjkbaaGreat.Ab
open Go.RowKit
set_option maxRecDepth 20000
set_option maxHeartbeats 8000000
def cI (h:ac):Bool:=(dC h.Mail&&decide (h.Caches.length=h.Mail.Buffers.length))&&eZ h.Quar
def dY (h:ac):Bool:=((((((kb h&&rb h)&&cI h)&&iU h)&&h.Caches.all bw)&&eV h)&&(eg h&&gj h))&&n5 h
theorem zj (h:ac) (hs:ac.sml h) (hw:ac.wf h):af Tryz.prog 26 false [.val (some 24) (ac.enc .imm h)] .one [B (dY h)]:=by
 have hsA:=hs
 have hwA:=hw
 obtain⟨hsk,hsf,hs1,hs2,hso,hsc,hsm,hsq,hsj⟩:=hs
 obtain⟨-,-,-,-,hwo,hwc,hwm,hwq,-⟩:=hw
 have hst:A7 h:=hsk.1.2
 have hpn:eP h≤1048576:=hst.1
 have hlo:h.Objs.length≤1048576:=hso.1
 have hlc:h.Caches.length≤1048576:=hsc.1
 have hlq:h.Quar.Lst.length≤1048576:=hsq.1
 have hlb:h.Mail.Buffers.length≤1048576:=hsm.1.1
 have c1:=nC h.Kernel hsk
 have c2:=nH (eP h) h.Free ⟨by omega,by omega⟩ hsf
 have c3:=kr h.Spans h.Larges hs1 hs2
 have c5:=ww h hs1 hst
 have c6:=qG h.Mail hsm
 have c7:=qP h.Quar hsq
 cases e1:bf h.Kernel<;>rw[e1]at c1
 ·refine fO (n:=150) [(8,10,[67,68,69,70,71,72,73,74,75,76])] Tryz.func26 (by kernel_rfl) rfl (by kernel_rfl) (by rfl) (.inr ⟨trivial,trivial⟩) ?_
  repeat'((conv=>whnf);first|with_reducible (first|refine Lm ?_|refine Wm (by omega) ?_|refine Bf.N (fun hq=>?_) (fun hq=>?_)|refine Bn ?_|refine Fm rfl ?_)|refine Bt ?_|refine Bu ?_|refine Cl.mk c1 ?_)
  all_goals first
   | exact congrArg (fun z=>[B z]) ((by unfold dY kb;rw[e1];simp))
   |(exfalso;omega)
 cases e2:b7 (eP h) h.Free<;>rw[e2]at c2
 ·refine fO (n:=150) [(8,10,[67,68,69,70,71,72,73,74,75,76])] Tryz.func26 (by kernel_rfl) rfl (by kernel_rfl) (by rfl) (.inr ⟨trivial,trivial⟩) ?_
  repeat'((conv=>whnf);first|with_reducible (first|refine Lm ?_|refine Wm (by omega) ?_|refine Bf.N (fun hq=>?_) (fun hq=>?_)|refine Bn ?_|refine Fm rfl ?_)|refine Bt ?_|refine Bu ?_|refine Cl.mk c1 ?_|refine Cl.mk c2 ?_)
  all_goals first
   | exact congrArg (fun z=>[B z]) ((by unfold dY kb;rw[e2];simp))
   |(exfalso;omega)
 cases e3:bj h.Spans h.Larges<;>rw[e3]at c3
 ·refine fO (n:=150) [(8,10,[67,68,69,70,71,72,73,74,75,76])] Tryz.func26 (by kernel_rfl) rfl (by kernel_rfl) (by rfl) (.inr ⟨trivial,trivial⟩) ?_
  repeat'((conv=>whnf);first|with_reducible (first|refine Lm ?_|refine Wm (by omega) ?_|refine Bf.N (fun hq=>?_) (fun hq=>?_)|refine Bn ?_|refine Fm rfl ?_)|refine Bt ?_|refine Bu ?_|refine Cl.mk c1 ?_|refine Cl.mk c2 ?_|refine Cl.mk c3 ?_)
  all_goals first
   | exact congrArg (fun z=>[B z]) ((by unfold dY kb;rw[e3];simp))
   |(exfalso;omega)
 have c4:=zy h hs1 hs2 hst hsf e3
 cases e4:pages0 h<;>rw[e4]at c4
 ·refine fO (n:=150) [(8,10,[67,68,69,70,71,72,73,74,75,76])] Tryz.func26 (by kernel_rfl) rfl (by kernel_rfl) (by rfl) (.inr ⟨trivial,trivial⟩) ?_
  repeat'((conv=>whnf);first|with_reducible (first|refine Lm ?_|refine Wm (by omega) ?_|refine Bf.N (fun hq=>?_) (fun hq=>?_)|refine Bn ?_|refine Fm rfl ?_)|refine Bt ?_|refine Bu ?_|refine Cl.mk c1 ?_|refine Cl.mk c2 ?_|refine Cl.mk c3 ?_|refine Cl.mk c4 ?_)
  all_goals first
   | exact congrArg (fun z=>[B z]) ((by unfold dY kb;rw[e4];simp))
   |(exfalso;omega)
 cases e5:rb h<;>rw[e5]at c5
 ·refine fO (n:=150) [(8,10,[67,68,69,70,71,72,73,74,75,76])] Tryz.func26 (by kernel_rfl) rfl (by kernel_rfl) (by rfl) (.inr ⟨trivial,trivial⟩) ?_
  repeat'((conv=>whnf);first|with_reducible (first|refine Lm ?_|refine Wm (by omega) ?_|refine Bf.N (fun hq=>?_) (fun hq=>?_)|refine Bn ?_|refine Fm rfl ?_)|refine Bt ?_|refine Bu ?_|refine Cl.mk c1 ?_|refine Cl.mk c2 ?_|refine Cl.mk c3 ?_|refine Cl.mk c4 ?_|refine Cl.mk c5 ?_)
  all_goals first
   | exact congrArg (fun z=>[B z]) ((by unfold dY ;rw[e5];simp))
   |(exfalso;omega)
 cases e6:dC h.Mail<;>rw[e6]at c6
 ·refine fO (n:=150) [(8,10,[67,68,69,70,71,72,73,74,75,76])] Tryz.func26 (by kernel_rfl) rfl (by kernel_rfl) (by rfl) (.inr ⟨trivial,trivial⟩) ?_
  repeat'((conv=>whnf);first|with_reducible (first|refine Lm ?_|refine Wm (by omega) ?_|refine Bf.N (fun hq=>?_) (fun hq=>?_)|refine Bn ?_|refine Fm rfl ?_)|refine Bt ?_|refine Bu ?_|refine Cl.mk c1 ?_|refine Cl.mk c2 ?_|refine Cl.mk c3 ?_|refine Cl.mk c4 ?_|refine Cl.mk c5 ?_|refine Cl.mk c6 ?_)
  all_goals first
   | exact congrArg (fun z=>[B z]) ((by unfold dY cI;rw[e6];simp))
   |(exfalso;omega)
 by_cases hcl:h.Caches.length=h.Mail.Buffers.length
 rotate_left
 ·refine fO (n:=150) [(8,10,[67,68,69,70,71,72,73,74,75,76])] Tryz.func26 (by kernel_rfl) rfl (by kernel_rfl) (by rfl) (.inr ⟨trivial,trivial⟩) ?_
  repeat'((conv=>whnf);first|with_reducible (first|refine Lm ?_|refine Wm (by omega) ?_|refine Bf.N (fun hq=>?_) (fun hq=>?_)|refine Bn ?_|refine Fm rfl ?_)|refine Bt ?_|refine Bu ?_|refine Cl.mk c1 ?_|refine Cl.mk c2 ?_|refine Cl.mk c3 ?_|refine Cl.mk c4 ?_|refine Cl.mk c5 ?_|refine Cl.mk c6 ?_)
  all_goals first
   | exact congrArg (fun z=>[B z]) ((by unfold dY cI;rw[decide_eq_false hcl];simp))
   |(exfalso;omega)
 cases e7:eZ h.Quar<;>rw[e7]at c7
 ·refine fO (n:=150) [(8,10,[67,68,69,70,71,72,73,74,75,76])] Tryz.func26 (by kernel_rfl) rfl (by kernel_rfl) (by rfl) (.inr ⟨trivial,trivial⟩) ?_
  repeat'((conv=>whnf);first|with_reducible (first|refine Lm ?_|refine Wm (by omega) ?_|refine Bf.N (fun hq=>?_) (fun hq=>?_)|refine Bn ?_|refine Fm rfl ?_)|refine Bt ?_|refine Bu ?_|refine Cl.mk c1 ?_|refine Cl.mk c2 ?_|refine Cl.mk c3 ?_|refine Cl.mk c4 ?_|refine Cl.mk c5 ?_|refine Cl.mk c6 ?_|refine Cl.mk c7 ?_)
  all_goals first
   | exact congrArg (fun z=>[B z]) ((by unfold dY cI;rw[e7];simp))
   |(exfalso;omega)
 have hlay:kb h=true:=by unfold kb;rw[e1,e2,e3,e4];rfl
 have hmc:cI h=true:=by unfold cI;rw[e6,decide_eq_true hcl,e7];rfl
 refine fO (n:=150) [(8,10,[67,68,69,70,71,72,73,74,75,76])] Tryz.func26 (by kernel_rfl) rfl (by kernel_rfl) (by rfl) (.inr ⟨trivial,trivial⟩) ?_
 repeat'((conv=>whnf);first|with_reducible (first|refine Lm ?_|refine Wm (by omega) ?_|refine dF (by omega) (fun hq=>?_)|refine nT (by omega) (fun hq=>?_)|refine nF (by omega) (fun hq=>?_)|refine Bf.N (fun hq=>?_) (fun hq=>?_)|refine Bn ?_|refine Fm rfl ?_)|refine Bt ?_|refine Bu ?_|refine Cl.mk c1 ?_|refine Cl.mk c2 ?_|refine Cl.mk c3 ?_|refine Cl.mk c4 ?_|refine Cl.mk c5 ?_|refine Cl.mk c6 ?_|refine Cl.mk c7 ?_)
 all_goals try(exfalso;omega)
 (conv=>whnf)
 refine Lp.mk (ι:=Nat) (fun i=>[(1,.hold .box (ac.enc .imm h)),(3,.hold .one [I ((i:Nat):Int)])]) (fun i=>i≤h.Quar.Lst.length∧(h.Quar.Lst.take i).all (fun x=>decide (x.Since≤h.Clock))=true) (fun i=>h.Quar.Lst.length - i) (0) ?_ (⟨Nat.zero_le _,rfl⟩) fun i hi=>?_
 ·repeat'(first|exact trivial|rfl|refine And.intro ?_ ?_|(exact bQ (by first|omega|(simp only;omega)|(simp;omega))))
 obtain⟨hi,ai⟩:=hi
 by_cases li:i<h.Quar.Lst.length
 ·have hx:=au li
  repeat'((conv=>whnf);first|with_reducible (first|refine Lm ?_|refine Wm (by omega) ?_|refine Ix.nat (aa hx) ?_|refine dT (by omega) (fun hq=>?_)|refine Bf.D (fun hq=>?_) (fun hq=>?_)|refine Bn ?_|refine Fm rfl ?_)|refine Bt ?_|refine Bu ?_)
  all_goals first
   | exact congrArg (fun z=>[B z]) ((by unfold dY iU;rw[dI hx (decide_eq_false (by omega))];simp))
   | ((conv=>whnf);refine Nx.mk (i+1) ⟨by omega,ce hx ai (decide_eq_true (by omega))⟩ (by omega) ?_;(repeat'(first|exact trivial|rfl|refine And.intro ?_ ?_|(exact bQ (by first|omega|(simp only;omega)|(simp;omega))))))
 have hsi:iU h=true:=fk (by omega) ai
 repeat'((conv=>whnf);first|with_reducible (first|refine Lm ?_|refine Wm (by omega) ?_|refine dF (by omega) (fun hq=>?_)|refine Bn ?_|refine Fm rfl ?_)|refine Bt ?_|refine Bu ?_)
 (conv=>whnf)
 refine Lp.mk (ι:=Nat) (fun k=>[(1,.hold .box (ac.enc .imm h)),(4,.hold .one [I ((k:Nat):Int)])]) (fun k=>k≤h.Caches.length∧(h.Caches.take k).all bw=true) (fun k=>h.Caches.length - k) (0) ?_ (⟨Nat.zero_le _,rfl⟩) fun k hk=>?_
 ·repeat'(first|exact trivial|rfl|refine And.intro ?_ ?_|(exact bQ (by first|omega|(simp only;omega)|(simp;omega))))
 obtain⟨hk,ak⟩:=hk
 by_cases lk:k<h.Caches.length
 ·have hx:=au lk
  have c8:=ll (nth h.Caches k) (hsc.2 _ (ay lk))
  cases e8:bw (nth h.Caches k)<;>rw[e8]at c8
  ·repeat'((conv=>whnf);first|with_reducible (first|refine Lm ?_|refine Wm (by omega) ?_|refine Ix.nat (aa hx) ?_|refine dT (by omega) (fun hq=>?_)|refine Bn ?_|refine Fm rfl ?_)|refine Bt ?_|refine Bu ?_|refine Cl.mk c8 ?_)
   exact congrArg (fun z=>[B z]) ((by unfold dY;rw[dI hx e8];simp))
  ·repeat'((conv=>whnf);first|with_reducible (first|refine Lm ?_|refine Wm (by omega) ?_|refine Ix.nat (aa hx) ?_|refine dT (by omega) (fun hq=>?_)|refine Bn ?_|refine Fm rfl ?_)|refine Bt ?_|refine Bu ?_|refine Cl.mk c8 ?_)
   ((conv=>whnf);refine Nx.mk (k+1) ⟨by omega,ce hx ak e8⟩ (by omega) ?_;(repeat'(first|exact trivial|rfl|refine And.intro ?_ ?_|(exact bQ (by first|omega|(simp only;omega)|(simp;omega))))))
 have hca:h.Caches.all bw=true:=fk (by omega) ak
 have c9:=Bc h hs1 hs2 e3 hlo hlc (fun o ho=>(hwo.2 o ho).2.1)
 have c10:=Bk h hsA hwA e3 e6 (List.all_eq_true.1 hca)
 have c11:=ED h.Job hsj
 have c12:=B5 h.Job hsj
 have c13:=gL h h.Job.Plan.Keep hs1.1
 have c14:=gL h h.Job.Plan.Move hs1.1
 by_cases hn:eV h=true
 rotate_left
 ·have hn2:eV h=false:=by simpa using hn
  have hn':=hn2
  unfold eV at hn'
  rw[decide_eq_false_iff_not]at hn'
  cases e9:eg h<;>rw[e9]at c9<;>cases e10:gj h<;>rw[e10]at c10
  all_goals
   repeat'((conv=>whnf);first|with_reducible (first|refine Lm ?_|refine Wm (by omega) ?_|refine dF (by omega) (fun hq=>?_)|refine Bf.D (fun hq=>?_) (fun hq=>?_)|refine Bn ?_|refine Fm rfl ?_)|refine Bt ?_|refine Bu ?_|refine Cl.mk (aP _ _ _) ?_|refine Cl.mk c9 ?_|refine Cl.mk c10 ?_)
   all_goals first
    | exact congrArg (fun z=>[B z]) ((by unfold dY;rw[hn2];simp))
    |(exfalso;omega)
 have hn':=hn
 unfold eV at hn'
 rw[decide_eq_true_eq]at hn'
 cases e9:eg h<;>rw[e9]at c9
 ·repeat'((conv=>whnf);first|with_reducible (first|refine Lm ?_|refine Wm (by omega) ?_|refine dF (by omega) (fun hq=>?_)|refine dT (by omega) (fun hq=>?_)|refine dF (by omega) (fun hq=>?_)|refine Bf.D (fun hq=>?_) (fun hq=>?_)|refine Bn ?_|refine Fm rfl ?_)|refine Bt ?_|refine Bu ?_|refine Cl.mk (aP _ _ _) ?_|refine Cl.mk c9 ?_)
  all_goals first
   | exact congrArg (fun z=>[B z]) ((by unfold dY;rw[e9];simp))
   |(exfalso;omega)
 cases e10:gj h<;>rw[e10]at c10
 ·repeat'((conv=>whnf);first|with_reducible (first|refine Lm ?_|refine Wm (by omega) ?_|refine dF (by omega) (fun hq=>?_)|refine dT (by omega) (fun hq=>?_)|refine dF (by omega) (fun hq=>?_)|refine Bf.D (fun hq=>?_) (fun hq=>?_)|refine Bn ?_|refine Fm rfl ?_)|refine Bt ?_|refine Bu ?_|refine Cl.mk (aP _ _ _) ?_|refine Cl.mk c9 ?_|refine Cl.mk c10 ?_)
  all_goals first
   | exact congrArg (fun z=>[B z]) ((by unfold dY;rw[e10];simp))
   |(exfalso;omega)
 have hfin:dY h=n5 h:=by unfold dY;rw[hlay,e5,hmc,hsi,hca,hn,e9,e10];rfl
 rw[hfin]
 unfold n5
 cases em:h.Meshing
 ·repeat'((conv=>whnf);first|with_reducible (first|refine Lm ?_|refine Wm (by omega) ?_|refine dF (by omega) (fun hq=>?_)|refine dT (by omega) (fun hq=>?_)|refine dF (by omega) (fun hq=>?_)|refine Bf.D (fun hq=>?_) (fun hq=>?_)|refine Bn ?_|refine Fm rfl ?_)|refine Bt ?_|refine Bu ?_|refine Cl.mk (aP _ _ _) ?_|refine Cl.mk c9 ?_|refine Cl.mk c10 ?_|refine Cl.mk c11 ?_|refine Bf.f em ?_)
  all_goals first
   |rfl
   | exact congrArg (fun z=>[B z]) ((by simp;done))
   |(exfalso;omega)
 ·cases e12:qL h.Job<;>rw[e12]at c12
  all_goals
   repeat'((conv=>whnf);first|with_reducible (first|refine Lm ?_|refine Wm (by omega) ?_|refine dF (by omega) (fun hq=>?_)|refine dT (by omega) (fun hq=>?_)|refine dF (by omega) (fun hq=>?_)|refine Bf.D (fun hq=>?_) (fun hq=>?_)|refine Bf.D (fun hq=>?_) (fun hq=>?_)|refine Bn ?_|refine Fm rfl ?_)|refine Bt ?_|refine Bu ?_|refine Cl.mk (aP _ _ _) ?_|refine Cl.mk c9 ?_|refine Cl.mk c10 ?_|refine Cl.mk c12 ?_|refine Cl.mk c13 ?_|refine Cl.mk c14 ?_|refine Bf.t em ?_)
   all_goals first
    | exact congrArg (fun z=>[B z]) ((by grind))
    |(exfalso;omega)
end Go.Proofs.YtogajjgmcnjkbaaGreat.Ab
