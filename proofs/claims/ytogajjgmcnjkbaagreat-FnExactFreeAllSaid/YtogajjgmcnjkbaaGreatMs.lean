/- The quarantine, an object freed, all objects of a thread freed: the reference's contracts. No condition. -/
import Derived.Test.YtogajjgmcnjkbaaGreatMr
namespace Go.Proofs.YtogajjgmcnjkbaaGreat.Ab
open Go.RowKit
set_option maxRecDepth 20000
set_option maxHeartbeats 4000000
def Gq (q:aK) (x:ax):List C:=aK.enc .own (DV q x)++bh .own (pc q x)
theorem BT (q:aK) (x:ax):fK (Gq q x):=bI (aK.enc_fr _) (me _)
theorem wX (q:aK) (x0:ax) (hl:q.Lst.length≤4096) (hq:eZ q=true) (hx:0≤x0.Class∧x0.Class≤3∧0≤x0.Addr∧0≤x0.Since) (hs:∀ y∈q.Lst,y.Since≤x0.Since) (hn:∀ y∈q.Lst,y.Addr≠x0.Addr) :
  af Tryz.prog 173 false [.val (some 2) (aK.enc .imm q),.val (some 3) (ax.enc .imm x0)] (.tup [some 2,none]) (Gq q x0):=by
 have hsm:aK.sml q:=⟨by omega,fun _ _=>trivial⟩
 have c1:=o9 q hsm
 have c2:=qP q hsm
 rw[hq]at c2
 have c3:=vk x0
 rw[decide_eq_true hx]at c3
 have c4:=oV q x0.Addr hsm
 rw[show q.Lst.any (dv x0.Addr)=false by rw[List.any_eq_false];intro y hy;unfold dv;simpa using hn y hy]at c4
 have hr:=(mi.1 hq).2.2.2
 have hfr:=BT q x0
 have hz:(ax.mk x0.Addr x0.Class x0.Since)=x0:=rfl
 have hcut:=sb q.Room (q.Lst++[x0])
 simp only[List.length_append,List.length_singleton]at hcut
 by_cases hne:q.Lst.length=0
 all_goals
  try have hlast:(nth q.Lst (q.Lst.length - 1)).Since≤x0.Since:=hs _ (ay (by omega))
  try have hxl:=au (xs:=q.Lst) (i:=q.Lst.length - 1) (by omega)
  try have hxl':q.Lst[((q.Lst.length:Int) - 1).toNat]? = some (nth q.Lst (q.Lst.length - 1)):=by rw[show((q.Lst.length:Int) - 1).toNat=q.Lst.length - 1 by omega];exact hxl
  refine fO (n:=74) [(3,27,[15,16,17,18,19,20,21,22,23,24,25,26,27,28,29,30,31,32,33,34,35,36,37,38,39,40,41]),(7,6,[52,53,54,55,56,57]),(9,268,[61,62,63,64,65,66,67,69,70,71,72,73,0,1,2,3,4,5,6,8,9,10,11,12,7,1008,1009,1010,1011,1012,13,14])] Tryz.func173 (by kernel_rfl) rfl (by kernel_rfl) (by rfl) (.inr hfr) ?_
  repeat'((conv=>whnf);first|with_reducible (first|refine Lm ?_|refine Wm (by omega) ?_|refine dT (by omega) (fun hq=>?_)|refine dF (by omega) (fun hq=>?_)|refine Bf.D (fun hq=>?_) (fun hq=>?_)|refine Bn ?_|refine Fm rfl ?_)|refine Bt ?_|refine Bu ?_|refine Sm.rf ?_|refine Cl.mk (c1) ?_|refine Cl.mk (c2) ?_|refine Cl.mk (c3) ?_|refine Cl.mk (c4) ?_|refine Ix.mk (by omega) (aa hxl') ?_|refine Ap.sm (bl fun _=>rfl) rfl (by simp;omega) (by decide) (kP (ax.enc .own) q.Lst x0) ?_)
  (conv=>whnf)
  refine Lp.fz 8 (ι:=Nat) (fun k=>[(2,.hold .box (aK.enc .imm q)),(4,.hold .box [I 0,.z]),(8,.hold .one (bh .imm (q.Lst++[x0]))),(9,.hold .one [I (k:Nat)])]) (fun k=>k≤ge q.Room (q.Lst++[x0])) (fun k=>ge q.Room (q.Lst++[x0]) - k) 0 ?_ (Nat.zero_le _) fun k hk=>?_
  ·(repeat'(first|exact trivial|rfl|exact And.intro rfl (show G5 (dV (bh .own (q.Lst++[x0]))) (bh .imm (q.Lst++[x0])) by rw[zT];exact kN _)|refine And.intro ?_ ?_))
  have hL:(q.Lst++[x0]).length=q.Lst.length+1:=by simp
  have hdl:((q.Lst++[x0]).drop k).length≤5000:=by rw[List.length_drop];omega
  have htl:((q.Lst++[x0]).take k).length≤5000:=by rw[List.length_take];omega
  have c5:=qE ((q.Lst++[x0]).drop k) ⟨by omega,fun _ _=>trivial⟩
  by_cases lk:k<ge q.Room (q.Lst++[x0])
  ·have h1:q.Room<quarCells ((q.Lst++[x0]).drop k) ((q.Lst++[x0]).drop k).length:=ql lk
   repeat'((conv=>whnf);first|with_reducible (first|refine Lm ?_|refine Wm (by omega) ?_|refine dT (by omega) (fun hq=>?_)|refine Bn ?_|refine Fm rfl ?_)|refine Bt ?_|refine Bu ?_|refine Sm.rf ?_|refine Sl.suf k rfl (by rw[List.length_map];omega) (bl fun _=>rfl) List.map_drop ?_|refine Cl.mk (c5) ?_|refine Sm.rf ?_)
   ((conv=>whnf);refine Nx.mk (k+1) (by omega) (by omega) ?_;(repeat'(first|exact trivial|rfl|refine And.intro ?_ ?_|(exact bQ (by first|omega|(simp only;omega)|(simp;omega))))))
  ·obtain rfl:k=ge q.Room (q.Lst++[x0]):=by omega
   have h1:quarCells ((q.Lst++[x0]).drop (ge q.Room (q.Lst++[x0]))) ((q.Lst++[x0]).drop (ge q.Room (q.Lst++[x0]))).length≤q.Room:=rG hr.1 _
   repeat'((conv=>whnf);first|with_reducible (first|refine Lm ?_|refine Wm (by omega) ?_|refine dF (by omega) (fun hq=>?_)|refine Bn ?_|refine Fm rfl ?_)|refine Bt ?_|refine Bu ?_|refine Sm.rf ?_|refine Sl.suf (ge q.Room (q.Lst++[x0])) rfl (by rw[List.length_map];omega) (bl fun _=>rfl) List.map_drop ?_|refine Sl.pre (ge q.Room (q.Lst++[x0])) rfl (by rw[List.length_map];omega) (bl fun _=>rfl) List.map_take ?_|refine Cl.mk (c5) ?_|refine Sm.rf ?_|refine Fl.cp (fun _=>rfl) (fun _=>rfl) (by omega) (by decide) ?_|refine Ap.cp (fun _=>rfl) (fun _=>rfl) (by omega) (by decide) ?_)
   rfl
end Go.Proofs.YtogajjgmcnjkbaaGreat.Ab
namespace Go.Proofs.YtogajjgmcnjkbaaGreat.Ab
open Go.RowKit
set_option maxRecDepth 20000
set_option maxHeartbeats 4000000
theorem yK {z:Int} (h:0≤z∧z<512):IntKind.i64.wrap (z.tdiv 16)=z / 16:=(congrArg _ (tdiv16 h.1)).trans (fV (by omega) (by omega))
theorem Bv {h:ac} {E:List Int} (hi:ef h E) {o:aM} (ho:o∈h.Objs):0≤o.Addr∧o.Addr<512:=by
 rcases hi.oow o ho with⟨s,hs,⟨k1,k2,-⟩,-⟩|⟨l,hl,e,-⟩
 ·have:=aU (hi.L.sok s hs);omega
 ·have:=bn (hi.L.lok l hl);omega
theorem Fg {k:Int} (h:0≤k∧k≤3):1≤csz k∧csz k≤8:=by
 rcases d2 h with e|e|e|e<;>rw[e]<;>decide
structure J0 (h:ac) (o:aM):Prop where
 cl:0≤bk o.Size∧bk o.Size≤3
 fr:0≤(aF h.Kernel.Machine.Table (o.Addr / 16)).Frame∧(aF h.Kernel.Machine.Table (o.Addr / 16)).Frame<h.Kernel.Machine.Frames.Cells.length
 fit:o.Addr % 16+csz (bk o.Size)≤16
 row:(nth h.Kernel.Machine.Frames.Cells (iu h.Kernel o.Addr)).length=16
theorem J0.of {h:ac} {E:List Int} (hi:ef h E) {o:aM} (ho:o∈h.Objs) (hc:¬bk o.Size<0):J0 h o:=by
 obtain⟨⟨s,hs,h1,h2⟩,h3⟩:=(ee hi ho).2 hc
 have hsc:=aU (hi.L.sok s hs)
 have hbd:=Bv hi ho
 have hp:s.Page=o.Addr / 16:=by have a1:=h1.1;have a2:=h1.2.1;omega
 have hpn:(o.Addr / 16).toNat<(tbl h).Entries.length:=by have:=hi.pg.bnd _ (le (la:=h.Larges) hs);omega
 have hcast:(((o.Addr / 16).toNat:Nat):Int)=o.Addr / 16:=by omega
 have hm:=(hi.pg.own _ hpn).2 (by rw[hcast,←hp];exact le hs)
 have hm2:(aF h.Kernel.Machine.Table (o.Addr / 16)).Mode≠0:=by rw[←hcast];unfold tbl at hm hpn;rw[k5 hpn];exact hm
 obtain⟨-,-,-,hf0,hf1⟩:=nk hi.ker hm2
 have hul:=(d8.1 (bG.1 hi.ker).2.1).2.2.1
 have hfr:iu h.Kernel o.Addr<h.Kernel.Machine.Frames.Cells.length:=by unfold iu;omega
 refine⟨by omega,⟨hf0,by omega⟩,?_,hi.lens.row _ (ay hfr)⟩
 have hz:=h1.2.2.1
 rw[hp,←h2]at *
 rcases d2 (k:=s.Class) ⟨by omega,by omega⟩ with e|e|e|e<;>rw[e]at hz ⊢<;>omega
theorem BS (h:ac) (a:Int) (hf:iu h.Kernel a<h.Kernel.Machine.Frames.Cells.length):({h with Kernel:=eo h.Kernel a 0} : ac)=h:=by
 have e:h.Kernel.Machine.Frames.Cells.set (iu h.Kernel a) (nth h.Kernel.Machine.Frames.Cells (iu h.Kernel a))=h.Kernel.Machine.Frames.Cells:=by
  refine List.ext_getElem? fun i=>?_
  rw[List.getElem?_set]
  split
  ·rename_i e
   subst e
   exact(au hf).symm
  ·rfl
 unfold eo iG
 rw[e]
theorem FH (h:ac) (a:Int) (k:Nat) (v:Int) (_:0≤a):ac.enc .own {h with Kernel:=eo h.Kernel a (k+1)} = (ac.enc .own {h with Kernel:=eo h.Kernel a k}).set 0 (.s .own (((eo h.Kernel a k).Machine.Frames.Cells.map (aI .own)).set (aF h.Kernel.Machine.Table (a / 16)).Frame.toNat ((aI .own (iG (nth h.Kernel.Machine.Frames.Cells (iu h.Kernel a)) (a % 16).toNat k)).set 0 (.s .own (((iG (nth h.Kernel.Machine.Frames.Cells (iu h.Kernel a)) (a % 16).toNat k).map (rI .own)).set (a % 16+k).toNat (splice (rI .own v) 0 [I 0])))))):=by
 have e:(a % 16+k).toNat=(a % 16).toNat+k:=by omega
 rw[e]
 simp[ac.enc,eo,List.map_set,iG,aI,splice,iu]
 rfl
theorem qz (t:Nat) (h:ac) (xs:List ax) (k:Nat) (hk:k<xs.length):recycs t h ((xs.take (k+1)).map (·.Addr))=recyc t (recycs t h ((xs.take k).map (·.Addr))) (nth xs k).Addr:=by
 unfold recycs
 rw[List.take_add_one,au hk]
 simp
theorem BF (h:ac) (o:aM) (t:Nat) (hi:ef h []) (ho:o∈h.Objs) (ht:o.Thread=t) (hlc:h.Caches.length≤4):bm Tryz.prog 75 false [.ptr (ac.enc .own h),.val none [I (t:Nat)],.val none [I o.Addr]] [.ptr (ac.enc .own (freeOb h t (fT h o.Addr)).1),.val none [I (t:Nat)],.val none [I o.Addr]] .one [I (freeOb h t (fT h o.Addr)).2]:=by
 obtain⟨li,hob,hfst⟩:=hi.objAt ho
 have hbd:=Bv hi ho
 have hon:=hi.onu o ho
 have hlen:=hi.lens
 have hno:=hlen.objs
 have htn:t<h.Caches.length:=by omega
 have c0:=aP (t:Nat) 0 (h.Caches.length - 1:Int)
 rw[decide_eq_true (by omega)]at c0
 have c1:=AD h o.Addr (by omega)
 rw[hfst]at c1
 generalize fT h o.Addr=i at li hob c1
 subst hob
 have hx:=au li
 have c2:=oF (nth h.Objs i).Size
 unfold freeOb
 have hks:=fp hi.ker
 have c4:=jn h.Kernel.Machine.Table ((nth h.Objs i).Addr / 16) hks.1.2
 by_cases hc:bk (nth h.Objs i).Size<0
 ·rw[if_pos hc]
  have c3:=uH h i hi li hc
  refine bL (n:=148) (mo:=[(168,[2,0]),(172,[2,0]),(174,[2,0,0]),(166,[2,0])]) (tb:=[(15,269,[68,69,70,71,72,73,74,75,77,67,78,79,11,0,1,2,3,4,5,6,7,13,8,1000,1001,1002,1003,1004,1013,9,10,11,12,14,1012,15]),(22,15,[92,93,94,95,96,97,98,99,100,101,102,103,104,105,106]),(25,271,[116,117,118,119,120,121,122,123,124,125,127,115,128,129,14,0,1,2,3,4,5,6,7,8,9,15,10,1000,1001,1002,1003,1015,11,12,13,14,16,1014,17])]) [(0,0),(0,0),(0,0)] Tryz.func75 (by kernel_rfl) rfl (by kernel_rfl) (by rfl) (by rfl) (.inr ⟨trivial,trivial⟩) fun u q=>?_
  repeat'((conv=>whnf);first|with_reducible (first|refine Lm ?_|refine Wm (by omega) ?_|refine dT (by omega) (fun hq=>?_)|refine dF (by omega) (fun hq=>?_)|refine Bf.D (fun hq=>?_) (fun hq=>?_)|refine Bn ?_|refine Fm rfl ?_)|refine Bt ?_|refine Bu ?_|refine Sm.rf ?_|refine Cl.mk (c0) ?_|refine Cl.eq (c1) ⟨⟨rfl,ac.enc_fz h⟩,⟨rfl,rfl⟩,trivial⟩ ?_|refine Ix.nat (aa hx) ?_|refine Rw.one rfl (aa hx) rfl ?_|refine Cl.mk (c2) ?_|refine dZ.mk (c3) (.inl rfl) ?_)
  refine cY.mk rfl rfl ?_
  repeat'(first|exact trivial|rfl|refine And.intro ?_ ?_|(exact bQ (by first|omega|(simp only;omega)|(simp;omega))))
 rw[if_neg hc]
 obtain⟨s1,s2,s3,s4⟩:=J0.of hi (ay li) hc
 by_cases hm:(aF (tbl h) ((nth h.Objs i).Addr / 16)).Mode=1
 ·rw[if_pos hm]
  unfold tbl at hm
  refine bL (n:=148) (mo:=[(168,[2,0]),(172,[2,0]),(174,[2,0,0]),(166,[2,0])]) (tb:=[(15,269,[68,69,70,71,72,73,74,75,77,67,78,79,11,0,1,2,3,4,5,6,7,13,8,1000,1001,1002,1003,1004,1013,9,10,11,12,14,1012,15]),(22,15,[92,93,94,95,96,97,98,99,100,101,102,103,104,105,106]),(25,271,[116,117,118,119,120,121,122,123,124,125,127,115,128,129,14,0,1,2,3,4,5,6,7,8,9,15,10,1000,1001,1002,1003,1015,11,12,13,14,16,1014,17])]) [(0,0),(0,0),(0,0)] Tryz.func75 (by kernel_rfl) rfl (by kernel_rfl) (by rfl) (by rfl) (.inr ⟨trivial,trivial⟩) fun u q=>?_
  repeat'((conv=>whnf);first|with_reducible (first|refine Lm ?_|refine Wm (by omega) ?_|refine dT (by omega) (fun hq=>?_)|refine dF (by omega) (fun hq=>?_)|refine Bf.D (fun hq=>?_) (fun hq=>?_)|refine eT (by omega) (fun hq=>?_)|refine Bn ?_|refine Fm rfl ?_)|refine Bt ?_|refine Bu ?_|refine Sm.rf ?_|refine Cd.mk (by decide) ?_|refine Wr.mk (yK hbd) ?_|refine Cl.mk (c0) ?_|refine Cl.eq (c1) ⟨⟨rfl,ac.enc_fz h⟩,⟨rfl,rfl⟩,trivial⟩ ?_|refine Ix.nat (aa hx) ?_|refine Rw.one rfl (aa hx) rfl ?_|refine Cl.mk (c2) ?_|refine Cl.eq (c4) ⟨⟨rfl,aB.enc_fz _⟩,⟨rfl,rfl⟩,trivial⟩ ?_)
  refine cY.mk rfl rfl ?_
  repeat'(first|exact trivial|rfl|refine And.intro ?_ ?_|(exact bQ (by first|omega|(simp only;omega)|(simp;omega))))
 rw[if_neg hm]
 unfold tbl at hm
 have hfr:iu h.Kernel (nth h.Objs i).Addr<h.Kernel.Machine.Frames.Cells.length:=by unfold iu;omega
 have hcz:=Fg s1
 have hquar:=hi.inQuar li hc
 have hcs:=gr (bk (nth h.Objs i).Size)
 refine bL (n:=148) (mo:=[(168,[2,0]),(172,[2,0]),(174,[2,0,0]),(166,[2,0])]) (tb:=[(15,269,[68,69,70,71,72,73,74,75,77,67,78,79,11,0,1,2,3,4,5,6,7,13,8,1000,1001,1002,1003,1004,1013,9,10,11,12,14,1012,15]),(22,15,[92,93,94,95,96,97,98,99,100,101,102,103,104,105,106]),(25,271,[116,117,118,119,120,121,122,123,124,125,127,115,128,129,14,0,1,2,3,4,5,6,7,8,9,15,10,1000,1001,1002,1003,1015,11,12,13,14,16,1014,17])]) [(0,0),(0,0),(0,0)] Tryz.func75 (by kernel_rfl) rfl (by kernel_rfl) (by rfl) (by rfl) (.inr ⟨trivial,trivial⟩) fun u q=>?_
 repeat'((conv=>whnf);first|with_reducible (first|refine Lm ?_|refine Wm (by omega) ?_|refine dT (by omega) (fun hq=>?_)|refine dF (by omega) (fun hq=>?_)|refine Bf.D (fun hq=>?_) (fun hq=>?_)|refine eF (by omega) (fun hq=>?_)|refine nF (by omega) (fun hq=>?_)|refine Bn ?_|refine Fm rfl ?_)|refine Bt ?_|refine Bu ?_|refine Sm.rf ?_|refine Cd.mk (by decide) ?_|refine Wr.mk (yK hbd) ?_|refine Cl.mk (c0) ?_|refine Cl.eq (c1) ⟨⟨rfl,ac.enc_fz h⟩,⟨rfl,rfl⟩,trivial⟩ ?_|refine Ix.nat (aa hx) ?_|refine Rw.one rfl (aa hx) rfl ?_|refine Cl.mk (c2) ?_|refine Cl.eq (c4) ⟨⟨rfl,aB.enc_fz _⟩,⟨rfl,rfl⟩,trivial⟩ ?_)
 rw[show ac.enc .own h=ac.enc .own {h with Kernel:=eo h.Kernel (nth h.Objs i).Addr 0} by rw[BS h _ hfr]]
 (conv=>whnf)
 refine Lp.mk (ι:=Nat) (fun k=>[(0,.hold .box (ac.enc .own {h with Kernel:=eo h.Kernel (nth h.Objs i).Addr k})),(1,.hold .one [I ((t:Nat):Int)]),(2,.hold .one [I ((nth h.Objs i).Addr)]),(7,.hold .one [I ((i:Nat):Int)]),(8,.hold .box (aM.enc .own (nth h.Objs i))),(9,.hold .one [I (bk (nth h.Objs i).Size)]),(10,.hold .box (aE.enc .own (aF h.Kernel.Machine.Table ((nth h.Objs i).Addr / 16)))),(13,.hold .one [I ((k:Nat):Int)])]) (fun k=>k≤(csz (bk (nth h.Objs i).Size)).toNat) (fun k=>(csz (bk (nth h.Objs i).Size)).toNat - k) (0) ?_ (Nat.zero_le _) fun k hk=>?_
 ·repeat'(first|exact trivial|rfl |refine And.intro ?_ ?_|(exact bQ (by first|omega|(simp only;omega)|(simp;omega))))
 have hmod:IntKind.i64.wrap 0=0:=rfl
 have htm:(nth h.Objs i).Addr.tmod 16=(nth h.Objs i).Addr % 16:=m5 hbd.1
 have hck:(eo h.Kernel (nth h.Objs i).Addr k).Machine.Frames.Cells[(aF h.Kernel.Machine.Table ((nth h.Objs i).Addr / 16)).Frame.toNat]? = some (iG (nth h.Kernel.Machine.Frames.Cells (iu h.Kernel (nth h.Objs i).Addr)) ((nth h.Objs i).Addr % 16).toNat k):=List.getElem?_set_self hfr
 by_cases lk:k<(csz (bk (nth h.Objs i).Size)).toNat
 ·have hzk:=au (xs:=iG (nth h.Kernel.Machine.Frames.Cells (iu h.Kernel (nth h.Objs i).Addr)) ((nth h.Objs i).Addr % 16).toNat k) (i:=((nth h.Objs i).Addr % 16+k).toNat) (by rw[mU,s4];omega)
  repeat'((conv=>whnf);first|with_reducible (first|refine Lm ?_|refine Wm (by omega) ?_|refine dT (by omega) (fun hq=>?_)|refine Bn ?_|refine Fm rfl ?_)|refine Bt ?_|refine Bu ?_|refine Sm.rf ?_|refine Cd.mk (by decide) ?_|refine Ev.mk htm ?_|refine Cl.mk (hcs) ?_|refine Ix.mk s2.1 (aa hck) ?_|refine Rw.one rfl (aa hck) rfl ?_|refine Ix.mk (by omega) (aa hzk) ?_|refine Pu.two rfl rfl (aa hck) rfl rfl rfl (aa hzk) rfl (Nat.le_refl _) (FH h _ k _ hbd.1) ?_)
  ((conv=>whnf);refine Nx.mk (k+1) (by omega) (by omega) ?_;(repeat'(first|exact trivial|rfl|refine And.intro ?_ ?_|(exact bQ (by first|omega|(simp only;omega)|(simp;omega))))))
 ·obtain rfl:k=(csz (bk (nth h.Objs i).Size)).toNat:=by omega
  have c5:=p6 {h with Kernel:=eo h.Kernel (nth h.Objs i).Addr (csz (bk (nth h.Objs i).Size)).toNat} i li (by show h.Objs.length≤_;omega)
  have hnum:=hi.nums
  unfold eV at hnum
  rw[decide_eq_true_eq]at hnum
  have hnd:=(hi.dropO li (pC.any (c:=bk (nth h.Objs i).Size) (by obtain⟨⟨s,hs,k1,k2⟩,-⟩:=(ee hi (ay li)).2 hc;exact⟨s,hs,k1,.inr k2⟩))).nd
  rw[List.cons_append,List.nil_append]at hnd
  have c6:=wX h.Quar (fQ h (nth h.Objs i)) (by have:=hlen.quar;omega) hi.quar ⟨s1.1,s1.2,hbd.1,hnum.2.2.1⟩ (fun y hy=>hi.snc y hy) (fun y hy e=>(List.nodup_cons.1 hnd).1 (by rw[show(nth h.Objs i).Addr=y.Addr from e.symm];unfold holders;simp only[List.mem_append];exact .inl (.inr (List.mem_map.2 ⟨y,hy,rfl⟩))))
  unfold Gq at c6
  have hol:(pc h.Quar (fQ h (nth h.Objs i))).length≤513:=by have:=hlen.quar;unfold pc;rw[List.length_take,List.length_append];simp only[List.length_singleton];omega
  repeat'((conv=>whnf);first|with_reducible (first|refine Lm ?_|refine Wm (by omega) ?_|refine dT (by omega) (fun hq=>?_)|refine dF (by omega) (fun hq=>?_)|refine Bf.D (fun hq=>?_) (fun hq=>?_)|refine eT (by omega) (fun hq=>?_)|refine eF (by omega) (fun hq=>?_)|refine Bn ?_|refine Fm rfl ?_)|refine Bt ?_|refine Bu ?_|refine Sm.rf ?_|refine Cl.mk (hcs) ?_|refine dZ.mk (c5) (.inl rfl) ?_|refine Cl.eq (c6) ⟨⟨rfl,aK.enc_fz h.Quar⟩,⟨rfl,rfl⟩,trivial⟩ ?_|refine Sm.rf ?_)
  have hfq:F4 h t i=recycs t (inQuar h i) ((pc h.Quar (fQ h (nth h.Objs i))).map (·.Addr)):=rfl
  simp only
  rw[hfq]
  have hqn:(inQuar h i).Caches.length=h.Caches.length:=rfl
  generalize pc h.Quar (fQ h (nth h.Objs i))=out at hquar hol
  (conv=>whnf)
  refine Lp.mk (ι:=Nat) (fun k=>[(0,.hold .box (ac.enc .own (recycs t (inQuar h i) ((out.take k).map (·.Addr))))),(1,.hold .one [I ((t:Nat):Int)]),(15,.hold .one (bh .own out)),(16,.hold .one [I ((k:Nat):Int)])]) (fun k=>k≤out.length) (fun k=>out.length - k) (0) ?_ (Nat.zero_le _) fun k hk=>?_
  ·repeat'(first|exact trivial|rfl |refine And.intro ?_ ?_|(exact bQ (by first|omega|(simp only;omega)|(simp;omega))))
  by_cases lk:k<out.length
  ·have hxo:=au lk
   have hsp:out.map (·.Addr)=(out.take k).map (·.Addr)++(nth out k).Addr::(out.drop (k+1)).map (·.Addr):=by
    conv=>lhs;rw[←List.take_append_drop k out,k9 lk]
    simp
   have hik:ef (recycs t (inQuar h i) ((out.take k).map (·.Addr))) ((nth out k).Addr::(out.drop (k+1)).map (·.Addr)):=ef.recycs (by rw[←hsp];exact hquar) htn
   have c7:=rq _ _ t _ hik (by rw[(gO t _ _).1];exact htn)
   repeat'((conv=>whnf);first|with_reducible (first|refine Lm ?_|refine Wm (by omega) ?_|refine dT (by omega) (fun hq=>?_)|refine Bn ?_|refine Fm rfl ?_)|refine Bt ?_|refine Bu ?_|refine Sm.rf ?_|refine Ix.nat (aa hxo) ?_|refine Rw.one rfl (aa hxo) rfl ?_|refine dZ.mk (c7) (.inl rfl) ?_)
   ((conv=>whnf);refine Nx.mk (k+1) (by omega) (by omega) ?_)
   rw[qz t _ out k lk]
   repeat'(first|exact trivial|rfl|refine And.intro ?_ ?_|(exact bQ (by first|omega|(simp only;omega)|(simp;omega))))
  ·obtain rfl:k=out.length:=by omega
   rw[List.take_length]
   repeat'((conv=>whnf);first|with_reducible (first|refine Lm ?_|refine Wm (by omega) ?_|refine dF (by omega) (fun hq=>?_)|refine Bn ?_|refine Fm rfl ?_)|refine Bt ?_|refine Bu ?_|refine Sm.rf ?_)
   refine cY.mk rfl rfl ?_
   repeat'(first|exact trivial|rfl|refine And.intro ?_ ?_|(exact bQ (by first|omega|(simp only;omega)|(simp;omega))))
end Go.Proofs.YtogajjgmcnjkbaaGreat.Ab
