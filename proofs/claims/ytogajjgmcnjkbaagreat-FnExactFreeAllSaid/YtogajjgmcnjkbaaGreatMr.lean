/- A range put into a list of ranges: the reference's contract. No condition. -/
import Derived.Test.YtogajjgmcnjkbaaGreatMp
import Derived.Test.YtogajjgmcnjkbaaGreatMq
import Derived.Test.YtogajjgmcnjkbaaGreatMk
namespace Go.Proofs.YtogajjgmcnjkbaaGreat.Ab
open Go.RowKit
set_option maxRecDepth 20000
set_option maxHeartbeats 4000000
theorem ES (y:al) (ys:List al):cF [] (y::ys)=cF [y] ys:=by rw[cF];rfl
theorem z7 {α:Type} [Inhabited α] {xs:List α} (h:xs≠[]):xs.getLast? = some (nth xs (xs.length - 1)):=by
 have hl:0<xs.length:=List.length_pos_iff.2 h
 rw[List.getLast?_eq_getElem?,au (by omega)]
theorem F9 {α:Type} {xs:List α} (h:xs≠[]) (v:α):xs.dropLast++[v]=xs.set (xs.length - 1) v:=by
 have hl:0<xs.length:=List.length_pos_iff.2 h
 refine List.ext_getElem (by simp;omega) fun i h1 h2=>?_
 rw[List.getElem_set]
 by_cases e:xs.length - 1=i
 ·subst e
  rw[if_pos rfl,List.getElem_append_right (by simp)]
  simp
 ·rw[if_neg e,List.getElem_append_left (by simp at h1 ⊢;omega),List.getElem_dropLast]
theorem EM {out:List al} {y:al} {ys:List al} (h:out≠[]) (e:(nth out (out.length - 1)).At+(nth out (out.length - 1)).Len=y.At):cF out (y::ys)=cF (out.set (out.length - 1) ⟨(nth out (out.length - 1)).At,(nth out (out.length - 1)).Len+y.Len⟩) ys:=by
 rw[cF,z7 h]
 simp only
 rw[if_pos e,F9 h]
theorem GJ {out:List al} {y:al} {ys:List al} (h:out≠[]) (e:¬(nth out (out.length - 1)).At+(nth out (out.length - 1)).Len=y.At):cF out (y::ys)=cF (out++[y]) ys:=by
 rw[cF,z7 h]
 simp only
 rw[if_neg e]
theorem oA (xs:List al) (hl:xs.length≤4194304) (hb:∀ y∈xs,0≤y.At∧1≤y.Len∧y.At+y.Len≤1048576):af Tryz.prog 330 false [.val none (aT .imm xs)] .one (aT .own (cF [] xs)):=by
 refine fO (n:=63) [(6,21,[15,16,17,18,19,20,21,22,23,24,25,26,27,28,29,30,31,32,33,34,35]),(7,15,[38,39,40,41,42,43,44,45,46,47,48,49,50,51,52])] Tryz.func330 (by kernel_rfl) rfl (by kernel_rfl) (by rfl) (.inr (jQ _)) ?_
 repeat'((conv=>whnf);first|with_reducible (first|refine Lm ?_|refine Wm (by omega) ?_|refine Bn ?_|refine Fm rfl ?_)|refine Bt ?_|refine Bu ?_)
 (conv=>whnf)
 refine Lp.mk (ι:=Nat × List al) (fun q=>[(0,.hold .one (aT .imm xs)),(3,.hold .one (aT .own q.2)),(4,.hold .one [I ((q.1:Nat):Int)])]) (fun q=>q.1≤xs.length∧cF q.2 (xs.drop q.1)=cF [] xs∧q.2.length≤q.1∧∀ y∈q.2,0≤y.At∧1≤y.Len∧y.At+y.Len≤1048576) (fun q=>xs.length - q.1) ((0,[])) ?_ (⟨Nat.zero_le _,rfl,Nat.le_refl _,fun y hy=>by cases hy⟩) fun q hq=>?_
 ·repeat'(first|exact trivial|rfl |refine And.intro ?_ ?_|(exact bQ (by first|omega|(simp only;omega)|(simp;omega))))
 obtain⟨i,out⟩:=q
 obtain⟨hi,hj,hol,hob⟩:=hq
 simp only at hi hj hol hob ⊢
 by_cases li:i<xs.length
 ·have hx:=au li
  have hy:=hb _ (ay li)
  rw[k9 li]at hj
  by_cases ho:out=[]
  ·subst ho
   rw[ES]at hj
   have h0:([]:List al).length=0:=rfl
   repeat'((conv=>whnf);first|with_reducible (first|refine Lm ?_|refine Wm (by omega) ?_|refine Ix.nat (aa hx) ?_|refine dT (by omega) (fun hq=>?_)|refine dF (by omega) (fun hq=>?_)|refine Bn ?_|refine Fm rfl ?_)|refine Bt ?_|refine Bu ?_|refine Ln.mk (show List.length _=0 from rfl) ?_|refine Ap.sm (fun r hr=>by cases hr) rfl (by simp) (by decide) rfl ?_)
   ((conv=>whnf)
    refine Nx.mk (i+1,[nth xs i]) ⟨(by simp only;omega),hj,(by simp),(fun y hm=>by rw[List.mem_singleton.1 hm];exact hy)⟩ (by simp only;omega) ?_
    (repeat'(first|exact trivial|rfl|exact And.intro rfl (And.intro (congrArg (C.s dy.own) (by simp[al.enc])) trivial)|refine And.intro ?_ ?_)))
  ·have hpos:0<out.length:=List.length_pos_iff.2 ho
   have hz:out[((out.length:Int) - 1).toNat]? = some (nth out (out.length - 1)):=by
    rw[show((out.length:Int) - 1).toNat=out.length - 1 by omega];exact au (by omega)
   have hzb:=hob _ (ay (xs:=out) (i:=out.length - 1) (by omega))
   by_cases e:(nth out (out.length - 1)).At+(nth out (out.length - 1)).Len=(nth xs i).At
   ·rw[EM ho e]at hj
    repeat'((conv=>whnf);first|with_reducible (first|refine Lm ?_|refine Wm (by omega) ?_|refine Ix.nat (aa hx) ?_|refine dT (by omega) (fun hq=>?_)|refine eT (by omega) (fun hq=>?_)|refine Bn ?_|refine Fm rfl ?_)|refine Bt ?_|refine Bu ?_|refine Ix.mk (by omega) (aa hz) ?_|refine Rw.one rfl (aa hz) rfl ?_|refine Pu.one rfl rfl (aa hz) rfl (Nat.le_of_ble_eq_true rfl) rfl ?_)
    ((conv=>whnf)
     refine Nx.mk (i+1,out.set (out.length - 1) ⟨(nth out (out.length - 1)).At,(nth out (out.length - 1)).Len+(nth xs i).Len⟩) ⟨(by simp only;omega),hj,(by simp only;rw[List.length_set];omega),(fun y hm=>?_)⟩ (by simp only;omega) ?_)
    ·rcases List.mem_or_eq_of_mem_set hm with hm|rfl
     ·exact hob y hm
     ·simp only;omega
    ·(repeat'(first|exact trivial|rfl|exact And.intro rfl (And.intro (congrArg (C.s dy.own) (by rw[show((out.length:Int) - 1).toNat=out.length - 1 by omega,List.map_set];rfl)) trivial)|refine And.intro ?_ ?_))
   ·rw[GJ ho e]at hj
    repeat'((conv=>whnf);first|with_reducible (first|refine Lm ?_|refine Wm (by omega) ?_|refine Ix.nat (aa hx) ?_|refine dT (by omega) (fun hq=>?_)|refine eF (by omega) (fun hq=>?_)|refine Bn ?_|refine Fm rfl ?_)|refine Bt ?_|refine Bu ?_|refine Ix.mk (by omega) (aa hz) ?_|refine Rw.one rfl (aa hz) rfl ?_|refine Ap.sm (bl fun _=>rfl) rfl (by simp;omega) (by decide) rfl ?_)
    ((conv=>whnf)
     refine Nx.mk (i+1,out++[nth xs i]) ⟨(by simp only;omega),hj,(by simp;omega),(fun y hm=>?_)⟩ (by simp only;omega) ?_)
    ·rcases List.mem_append.1 hm with hm|hm
     ·exact hob y hm
     ·rw[List.mem_singleton.1 hm];exact hy
    ·(repeat'(first|exact trivial|rfl|exact And.intro rfl (And.intro (congrArg (C.s dy.own) (by simp[al.enc])) trivial)|refine And.intro ?_ ?_))
 ·obtain rfl:i=xs.length:=by omega
  rw[List.drop_length]at hj
  repeat'((conv=>whnf);first|with_reducible (first|refine Lm ?_|refine Wm (by omega) ?_|refine dF (by omega) (fun hq=>?_)|refine Bn ?_|refine Fm rfl ?_)|refine Bt ?_|refine Bu ?_)
  rw[←hj];rfl
theorem vO (r y:al) (ys:List al) (put:Bool):kB r (y::ys) put=if ovl y r then none else if !put&&decide (y.At > r.At) then(kB r ys true).map fun t=>r::y::t else(kB r ys put).map fun t=>y::t:=by rw[kB]
theorem nJ (pages:Int) (xs:List al) (r:al) (hp:0≤pages∧pages≤1048576) (hs:dr xs):af Tryz.prog 262 false [.val none [I pages],.val none (aT .imm xs),.val (some 2) (al.enc .imm r)] (.tup [none,none]) (wa xs (bX pages xs r)):=by
 have hl:=hs.1
 have c1:=nH pages xs hp hs
 have c2:=sr pages r hp
 cases e1:b7 pages xs<;>rw[e1]at c1
 ·rw[show bX pages xs r=none by unfold bX;rw[if_neg (by rw[e1];simp)]]
  refine fO (n:=82) [] Tryz.func262 (by kernel_rfl) rfl (by kernel_rfl) (by rfl) (.inr (iZ _ _)) ?_
  repeat'((conv=>whnf);first|with_reducible (first|refine Lm ?_|refine Wm (by omega) ?_|refine Bn ?_|refine Fm rfl ?_)|refine Bt ?_|refine Bu ?_|refine Cl.mk (c1) ?_|refine Ap.cp (fun _=>rfl) (fun _=>rfl) hl (by decide) ?_)
  rfl
 cases e2:rangeIn pages r<;>rw[e2]at c2
 ·rw[show bX pages xs r=none by unfold bX;rw[if_neg (by rw[e2];simp)]]
  refine fO (n:=82) [] Tryz.func262 (by kernel_rfl) rfl (by kernel_rfl) (by rfl) (.inr (iZ _ _)) ?_
  repeat'((conv=>whnf);first|with_reducible (first|refine Lm ?_|refine Wm (by omega) ?_|refine Bn ?_|refine Fm rfl ?_)|refine Bt ?_|refine Bu ?_|refine Cl.mk (c1) ?_|refine Cl.mk (c2) ?_|refine Ap.cp (fun _=>rfl) (fun _=>rfl) hl (by decide) ?_)
  rfl
 obtain⟨hg,hb⟩:=wd e1
 have hr:0≤r.At∧1≤r.Len∧r.At+r.Len≤pages:=by
  unfold rangeIn at e2
  rw[decide_eq_true_eq]at e2
  omega
 rw[show bX pages xs r=(kB r xs false).map (cF []) by unfold bX;rw[if_pos ⟨e1,e2⟩,vn (pages:=pages) hg hr.2.1 fun z hz=>by simp at hz]]
 refine fO (n:=82) [] Tryz.func262 (by kernel_rfl) rfl (by kernel_rfl) (by rfl) (.inr (iZ _ _)) ?_
 repeat'((conv=>whnf);first|with_reducible (first|refine Lm ?_|refine Wm (by omega) ?_|refine Bn ?_|refine Fm rfl ?_)|refine Bt ?_|refine Bu ?_|refine Cl.mk (c1) ?_|refine Cl.mk (c2) ?_|refine Ap.cp (fun _=>rfl) (fun _=>rfl) hl (by decide) ?_)
 (conv=>whnf)
 refine Lp.mk (ι:=Nat × List al × Bool) (fun q=>[(1,.hold .one (aT .imm xs)),(5,.hold .box (al.enc .imm r)),(8,.hold .one (aT .own xs)),(9,.hold .one (aT .own q.2.1)),(10,.hold .one [B (q.2.2)]),(11,.hold .one [I ((q.1:Nat):Int)])]) (fun q=>q.1≤xs.length∧(kB r (xs.drop q.1) q.2.2).map (q.2.1++·)=kB r xs false∧q.2.1.length≤q.1+q.2.2.toNat∧(∀ y∈q.2.1,0≤y.At∧1≤y.Len∧y.At+y.Len≤1048576)) (fun q=>xs.length - q.1) ((0,[],false)) ?_ (⟨Nat.zero_le _,by simp,by simp,by simp⟩) fun q hq=>?_
 ·repeat'(first|exact trivial|rfl |refine And.intro ?_ ?_|(exact bQ (by first|omega|(simp only;omega)|(simp;omega))))
 obtain⟨i,out,put⟩:=q
 obtain⟨hi,hput,hol,hob⟩:=hq
 simp only at hi hput hol hob ⊢
 have hrb:0≤r.At∧1≤r.Len∧r.At+r.Len≤1048576:=by omega
 by_cases li:i<xs.length
 ·have hx:=au li
  have hy:=hb _ (ay li)
  have hyb:0≤(nth xs i).At∧1≤(nth xs i).Len∧(nth xs i).At+(nth xs i).Len≤1048576:=by omega
  rw[k9 li]at hput
  by_cases ho:ovl (nth xs i) r=true
  ·rw[←hput]
   rw[vO,if_pos ho]
   unfold ovl at ho
   rw[decide_eq_true_eq]at ho
   repeat'((conv=>whnf);first|with_reducible (first|refine Lm ?_|refine Wm (by omega) ?_|refine Ix.nat (aa hx) ?_|refine dT (by omega) (fun hq=>?_)|refine dF (by omega) (fun hq=>?_)|refine Bf.D (fun hq=>?_) (fun hq=>?_)|refine Bn ?_|refine Fm rfl ?_)|refine Bt ?_|refine Bu ?_)
   rfl
  ·rw[vO,if_neg ho]at hput
   unfold ovl at ho
   rw[decide_eq_true_eq]at ho
   cases put with
   | false=>
    have hol:out.length≤i:=by simpa using hol
    by_cases e5:(nth xs i).At > r.At
    ·rw[if_pos (by simp;omega),Option.map_map]at hput
     repeat'((conv=>whnf);first|with_reducible (first|refine Lm ?_|refine Wm (by omega) ?_|refine Ix.nat (aa hx) ?_|refine dT (by omega) (fun hq=>?_)|refine dF (by omega) (fun hq=>?_)|refine Bf.D (fun hq=>?_) (fun hq=>?_)|refine Bn ?_|refine Fm rfl ?_)|refine Bt ?_|refine Bu ?_|refine Ap.sm (bl fun _=>rfl) rfl (by simp;omega) (by decide) rfl ?_|refine Ap.sm (fun r hr=>by simp at hr;rcases hr with⟨a,_,rfl⟩|rfl<;>rfl) rfl (by simp;omega) (by decide) rfl ?_)
     ((conv=>whnf)
      refine Nx.mk (i+1,out++[r,nth xs i],true) ⟨(by simp only;omega),(by rw[←hput];congr 1;funext t;simp),(by simp;omega),(fun y hm=>?_)⟩ (by simp only;omega) ?_)
     ·rcases List.mem_append.1 hm with hm|hm
      ·exact hob y hm
      ·rcases List.mem_cons.1 hm with rfl|hm
       ·exact hrb
       ·rw[List.mem_singleton.1 hm];exact hyb
     ·(repeat'(first|exact trivial|rfl|exact And.intro rfl (And.intro (congrArg (C.s dy.own) (by simp[al.enc])) trivial)|refine And.intro ?_ ?_))
    ·rw[if_neg (by simp;omega),Option.map_map]at hput
     repeat'((conv=>whnf);first|with_reducible (first|refine Lm ?_|refine Wm (by omega) ?_|refine Ix.nat (aa hx) ?_|refine dT (by omega) (fun hq=>?_)|refine dF (by omega) (fun hq=>?_)|refine Bf.D (fun hq=>?_) (fun hq=>?_)|refine Bn ?_|refine Fm rfl ?_)|refine Bt ?_|refine Bu ?_|refine Ap.sm (bl fun _=>rfl) rfl (by simp;omega) (by decide) rfl ?_)
     ((conv=>whnf)
      refine Nx.mk (i+1,out++[nth xs i],false) ⟨(by simp only;omega),(by rw[←hput];congr 1;funext t;simp),(by simp;omega),(fun y hm=>?_)⟩ (by simp only;omega) ?_)
     ·rcases List.mem_append.1 hm with hm|hm
      ·exact hob y hm
      ·rw[List.mem_singleton.1 hm];exact hyb
     ·(repeat'(first|exact trivial|rfl|exact And.intro rfl (And.intro (congrArg (C.s dy.own) (by simp[al.enc])) trivial)|refine And.intro ?_ ?_))
   | true=>
    have hol:out.length≤i+1:=hol
    rw[if_neg (by simp),Option.map_map]at hput
    by_cases e6:(nth xs i).At<r.At+r.Len
    all_goals
     repeat'((conv=>whnf);first|with_reducible (first|refine Lm ?_|refine Wm (by omega) ?_|refine Ix.nat (aa hx) ?_|refine dT (by omega) (fun hq=>?_)|refine dF (by omega) (fun hq=>?_)|refine Bf.D (fun hq=>?_) (fun hq=>?_)|refine Bn ?_|refine Fm rfl ?_)|refine Bt ?_|refine Bu ?_|refine Ap.sm (bl fun _=>rfl) rfl (by simp;omega) (by decide) rfl ?_)
     ((conv=>whnf)
      refine Nx.mk (i+1,out++[nth xs i],true) ⟨(by simp only;omega),(by rw[←hput];congr 1;funext t;simp),(by simp;omega),(fun y hm=>?_)⟩ (by simp only;omega) ?_)
     ·rcases List.mem_append.1 hm with hm|hm
      ·exact hob y hm
      ·rw[List.mem_singleton.1 hm];exact hyb
     ·(repeat'(first|exact trivial|rfl|exact And.intro rfl (And.intro (congrArg (C.s dy.own) (by simp[al.enc])) trivial)|refine And.intro ?_ ?_))
 ·obtain rfl:i=xs.length:=by omega
  rw[List.drop_length]at hput
  cases put with
  | false=>
   have hol:out.length≤xs.length:=by simpa using hol
   rw[←hput]
   have c4:=oA (out++[r]) (by simp;omega) (fun y hm=>by
     rcases List.mem_append.1 hm with hm|hm
     · exact hob y hm
     · rw[List.mem_singleton.1 hm];exact hrb)
   repeat'((conv=>whnf);first|with_reducible (first|refine Lm ?_|refine Wm (by omega) ?_|refine dF (by omega) (fun hq=>?_)|refine Bn ?_|refine Fm rfl ?_)|refine Bt ?_|refine Bu ?_|refine Ap.sm (bl fun _=>rfl) rfl (by simp;omega) (by decide) (show(out++[r]).map (al.enc .own)=_ by simp[al.enc]) ?_|refine Cl.eq (c4) ⟨⟨rfl,gP _⟩,trivial⟩ ?_)
   rfl
  | true=>
   have hol:out.length≤xs.length+1:=hol
   rw[←hput]
   have c4:=oA out (by omega) hob
   repeat'((conv=>whnf);first|with_reducible (first|refine Lm ?_|refine Wm (by omega) ?_|refine dF (by omega) (fun hq=>?_)|refine Bn ?_|refine Fm rfl ?_)|refine Bt ?_|refine Bu ?_|refine Cl.eq (c4) ⟨⟨rfl,gP _⟩,trivial⟩ ?_)
   simp[kB,wa]
   rfl
end Go.Proofs.YtogajjgmcnjkbaaGreat.Ab
namespace Go.Proofs.YtogajjgmcnjkbaaGreat.Ab
open Go.RowKit
set_option maxRecDepth 20000
set_option maxHeartbeats 4000000
theorem shl64 {i:Int} (hi:0≤i∧i≤15):IntKind.i64.wrap (1*2 ^ min i.toNat IntKind.i64.bits)=2 ^ i.toNat∧0≤(2:Int) ^ i.toNat∧(2:Int) ^ i.toNat≤32768:=by
 have h1:min i.toNat IntKind.i64.bits=i.toNat:=Nat.min_eq_left (show i.toNat≤64 by omega)
 have h2:(0:Int)≤2 ^ i.toNat∧(2:Int) ^ i.toNat≤32768:=by
  have:(2:Nat) ^ i.toNat≤2 ^ 15:=Nat.pow_le_pow_right (by decide) (by omega)
  have h3:((2 ^ i.toNat:Nat):Int)=(2:Int) ^ i.toNat:=Int.natCast_pow 2 i.toNat
  rw[←h3]
  exact⟨Int.natCast_nonneg _,Int.ofNat_le.2 this⟩
 rw[h1,Int.one_mul]
 exact⟨fV (by omega) (by omega),h2⟩
theorem clr64 {b i:Int} (hb:0≤b∧b≤65535):IntKind.i64.wrap ((BitVec.ofInt IntKind.i64.bits b &&& ~~~BitVec.ofInt IntKind.i64.bits (2 ^ i.toNat)).toNat:Nat)=rL b i:=by
 have:=vZ (i:=i) hb
 unfold rL at this ⊢
 exact fV (by omega) (by omega)
theorem pI (b i:Int) (hb:0≤b∧b≤65535) (hi:0≤i∧i≤15):af Tryz.prog 356 false [.val none [I b],.val none [I i]] .one [I (rL b i)]:=by
 have c1:=pQ b i
 rw[decide_eq_true (by omega)]at c1
 have hw:IntKind.u64.wrap i=i:=by unfold IntKind.wrap;simp[IntKind.signed,IntKind.bits];omega
 refine fO (n:=15) [] Tryz.func356 (by kernel_rfl) rfl (by kernel_rfl) (by rfl) (.inr ⟨trivial,trivial⟩) ?_
 repeat'((conv=>whnf);first|with_reducible (first|refine Lm ?_|refine Wm (by omega) ?_|refine Bn ?_|refine Fm rfl ?_)|refine Bt ?_|refine Bu ?_|refine Sm.rf ?_|refine Cl.mk (c1) ?_|refine Cd.mk (by omega) ?_|refine Wr.mk hw ?_|refine Wr.mk (shl64 hi).1 ?_|refine Wr.mk (clr64 hb) ?_)
 rfl
theorem pX (b i:Int) (hb:0≤b∧b≤65535) (hi:0≤i∧i≤15):af Tryz.prog 340 false [.val none [I b],.val none [I i]] .one [I (rL b i)]:=by
 have c1:=pF b i
 rw[decide_eq_true (by omega)]at c1
 refine fO (n:=14) [] Tryz.func340 (by kernel_rfl) rfl (by kernel_rfl) (by rfl) (.inr ⟨trivial,trivial⟩) ?_
 repeat'((conv=>whnf);first|with_reducible (first|refine Lm ?_|refine Wm (by omega) ?_|refine Bn ?_|refine Fm rfl ?_)|refine Bt ?_|refine Bu ?_|refine Sm.rf ?_|refine Cl.mk (c1) ?_|refine Cd.mk (by omega) ?_|refine Wr.mk (shl64 hi).1 ?_|refine Wr.mk (clr64 hb) ?_)
 rfl
theorem BQ {s:am} {k:Int} (hh:cy s.Bits k=true):0≤k∧k≤15:=by
 have:=(jU _ _).1 hh;omega
theorem uG (s:am) (k:Int) (ho:b8 s=true) (hh:cy s.Bits k=true):af Tryz.prog 332 false [.val (some 3) (am.enc .imm s),.val none [I k]] (.tup [some 3,none]) (am.enc .own (jj s k)++[B true]):=by
 have hb:=jz ho
 have hk:=BQ hh
 have c1:=gZ s
 have c2:=pB s.Bits k (by omega)
 rw[ho]at c1
 rw[hh]at c2
 refine fO (n:=23) [] Tryz.func332 (by kernel_rfl) rfl (by kernel_rfl) (by rfl) (.inr (bI (am.enc_fr _) ⟨trivial,trivial⟩)) ?_
 repeat'((conv=>whnf);first|with_reducible (first|refine Lm ?_|refine Wm (by omega) ?_|refine Bn ?_|refine Fm rfl ?_)|refine Bt ?_|refine Bu ?_|refine Sm.rf ?_|refine Cl.mk (c1) ?_|refine Cl.mk (c2) ?_|refine Cl.mk (pI s.Bits k hb hk) ?_)
 rfl
theorem um (s:am) (k:Int) (ho:b8 s=true) (hh:cy s.Bits k=true):af Tryz.prog 279 false [.val (some 3) (am.enc .imm s),.val none [I k]] (.tup [some 3,none]) (am.enc .own (jj s k)++[B true]):=by
 have hb:=jz ho
 have hk:=BQ hh
 have c1:=fW s
 have c2:=lM s.Bits k (by omega)
 rw[ho]at c1
 rw[hh]at c2
 refine fO (n:=23) [] Tryz.func279 (by kernel_rfl) rfl (by kernel_rfl) (by rfl) (.inr (bI (am.enc_fr _) ⟨trivial,trivial⟩)) ?_
 repeat'((conv=>whnf);first|with_reducible (first|refine Lm ?_|refine Wm (by omega) ?_|refine Bn ?_|refine Fm rfl ?_)|refine Bt ?_|refine Bu ?_|refine Sm.rf ?_|refine Cl.mk (c1) ?_|refine Cl.mk (c2) ?_|refine Cl.mk (pX s.Bits k hb hk) ?_)
 rfl
theorem EZ (c:ar) (k:Int) (hs:ar.sml c):af Tryz.prog 331 false [.val (some 1) (ar.enc .imm c),.val none [I k]] .one [B (bw c&&decide (0≤k∧k≤3))]:=by
 have c1:=ll c hs
 cases e:bw c<;>rw[e]at c1
 all_goals
  refine fO (n:=11) [] Tryz.func331 (by kernel_rfl) rfl (by kernel_rfl) (by rfl) (.inr ⟨trivial,trivial⟩) ?_
  repeat'((conv=>whnf);first|with_reducible (first|refine Lm ?_|refine Wm (by omega) ?_|refine Bn ?_|refine Fm rfl ?_)|refine Bt ?_|refine Bu ?_|refine Sm.rf ?_|refine Cl.mk (c1) ?_|refine Cl.mk (aP k 0 3) ?_)
  all_goals rfl
theorem BK (c:ar) (k:Int) (hs:ar.sml c):af Tryz.prog 278 false [.val (some 1) (ar.enc .imm c),.val none [I k]] .one [B (decide (0≤k∧k≤3)&&bw c)]:=by
 have c1:=kU c hs
 refine fO (n:=11) [] Tryz.func278 (by kernel_rfl) rfl (by kernel_rfl) (by rfl) (.inr ⟨trivial,trivial⟩) ?_
 repeat'((conv=>whnf);first|with_reducible (first|refine Lm ?_|refine Wm (by omega) ?_|refine Bf.D (fun hq=>?_) (fun hq=>?_)|refine Bn ?_|refine Fm rfl ?_)|refine Bt ?_|refine Bu ?_|refine Sm.rf ?_|refine Cl.mk (c1) ?_|refine Cl.mk (dO k) ?_)
 all_goals exact congrArg (fun z=>[B z]) ((by simp[*]))
theorem vL {c:ar} {k:Nat} (hk:k<c.Lists.length):c.Lists[k]? = some (nth c.Lists k):=au hk
theorem yv {c:ar} (h:bw c=true) (k:Nat) (a:Int):ar.sml (iB c k a):=by
 obtain⟨h1,h2⟩:=iX h
 refine⟨by simp only[iB,List.length_set];omega,fun l hl=>?_⟩
 rcases List.mem_or_eq_of_mem_set hl with hl|rfl
 ·have:=h2 l hl;show l.length≤1048576;omega
 ·show(nth c.Lists k++[a]).length≤1048576
  by_cases hk:k<c.Lists.length
  ·have:=h2 _ (ay hk);simp;omega
  ·have:nth c.Lists k=[]:=by unfold nth;rw[List.getD_eq_getElem?_getD,List.getElem?_eq_none (by omega)];rfl
   rw[this];simp
theorem tH (c:ar) (k:Nat) (a:Int):ar.enc .own (iB c k a)=[.s .own ((c.Lists.map (aI .own)).set k (aI .own (nth c.Lists k++[a])))]:=by simp[ar.enc,iB,List.map_set]
theorem hU {α:Type} {f:α→List C} {xs:List α} {k:Nat} {y:α} {r:List C} (h:xs[k]? = some y):((xs.map f).set k r)[k]? = some r:=by
 rw[List.getElem?_set_self (by rw[List.length_map];exact(List.getElem?_eq_some_iff.1 h).1)]
theorem kP {α β:Type} (f:α→β) (xs:List α) (y:α):(xs++[y]).map f=xs.map f++[f y]:=by simp
def rK (c:ar) (k a:Int):List C:=ar.enc .own ((cput c k a).getD c)++[B (cput c k a).isSome]
theorem Ac (c:ar) (k a:Int):fK (rK c k a):=bI (ar.enc_fr _) ⟨trivial,trivial⟩
theorem uB (c:ar) (k:Nat) (a:Int) (ho:bw c=true) (hk:k≤3):af Tryz.prog 265 false [.val (some 1) (ar.enc .imm c),.val none [I (k:Nat)],.val none [I a]] (.tup [some 1,none]) (rK c k a):=by
 obtain⟨h1,h2⟩:=iX ho
 have hs:ar.sml c:=⟨by omega,fun l hl=>by have:=h2 l hl;show l.length≤1048576;omega⟩
 have c1:=EZ c k hs
 rw[ho,decide_eq_true (by omega)]at c1
 have c2:=kW c hs
 have hps:=yv ho k a
 have c3:=ll (iB c k a) hps
 have c4:=kW (iB c k a) hps
 have hx:=vL (c:=c) (k:=k) (by omega)
 have hxl:=h2 _ (ay (xs:=c.Lists) (i:=k) (by omega))
 have hz:=ar.enc_fz (iB c k a)
 rw[tH]at hz
 have hf:=Ac c k a
 unfold rK at hf ⊢
 cases e:bw (iB c k a)<;>rw[e]at c3
 ·have hc:cput c k a=none:=by unfold cput;rw[if_neg fun x=>by have:=x.2.2.2;rw[Int.toNat_natCast,e]at this;cases this]
  rw[hc]at hf ⊢
  refine fO (n:=35) [(4,267,[16,17,18,19,20,21,22,23,24,25,27,0,1,2,3,4,5,6,7,8,9,10,1000,1001,1002,11,12])] Tryz.func265 (by kernel_rfl) rfl (by kernel_rfl) (by rfl) (.inr hf) ?_
  repeat'((conv=>whnf);first|with_reducible (first|refine Lm ?_|refine Wm (by omega) ?_|refine Ix.nat (aa hx) ?_|refine Bn ?_|refine Fm rfl ?_)|refine Bt ?_|refine Bu ?_|refine Sm.rf ?_|refine Ix.nat (hU hx) ?_|refine Rw.one rfl (hU hx) rfl ?_|refine Cl.mk (c1) ?_|refine Cl.mk (c2) ?_|refine Lq.one rfl rfl (aa hx) rfl (Nat.le_of_ble_eq_true rfl) rfl rfl ?_|refine Rw.one rfl (aa hx) rfl ?_|refine Pu.one rfl rfl (hU hx) rfl (Nat.le_of_ble_eq_true rfl) (show [C.s dy.own ((c.Lists.map (aI .own)).set k (aI .own (nth c.Lists k++[a])))]=_ from by simp only[List.set_cons_zero,List.set_set,Int.toNat_natCast];rfl) ?_|refine Ap.sm (bl fun _=>rfl) rfl (by simp;omega) (by decide) (kP _ _ _) ?_|refine Cl.eq (c3) ⟨⟨rfl,hz⟩,trivial⟩ ?_)
  rfl
 ·have hc:cput c k a=some (iB c k a):=by unfold cput;rw[if_pos ⟨ho,by omega,by omega,by rw[Int.toNat_natCast];exact e⟩,Int.toNat_natCast]
  rw[hc]at hf ⊢
  refine fO (n:=35) [(4,267,[16,17,18,19,20,21,22,23,24,25,27,0,1,2,3,4,5,6,7,8,9,10,1000,1001,1002,11,12])] Tryz.func265 (by kernel_rfl) rfl (by kernel_rfl) (by rfl) (.inr hf) ?_
  repeat'((conv=>whnf);first|with_reducible (first|refine Lm ?_|refine Wm (by omega) ?_|refine Ix.nat (aa hx) ?_|refine Bn ?_|refine Fm rfl ?_)|refine Bt ?_|refine Bu ?_|refine Sm.rf ?_|refine Ix.nat (hU hx) ?_|refine Rw.one rfl (hU hx) rfl ?_|refine Cl.mk (c1) ?_|refine Cl.mk (c2) ?_|refine Lq.one rfl rfl (aa hx) rfl (Nat.le_of_ble_eq_true rfl) rfl rfl ?_|refine Rw.one rfl (aa hx) rfl ?_|refine Pu.one rfl rfl (hU hx) rfl (Nat.le_of_ble_eq_true rfl) (show [C.s dy.own ((c.Lists.map (aI .own)).set k (aI .own (nth c.Lists k++[a])))]=_ from by simp only[List.set_cons_zero,List.set_set,Int.toNat_natCast];rfl) ?_|refine Ap.sm (bl fun _=>rfl) rfl (by simp;omega) (by decide) (kP _ _ _) ?_|refine Cl.eq (c3) ⟨⟨rfl,hz⟩,trivial⟩ ?_|refine Cl.eq (c4) ⟨⟨rfl,hz⟩,trivial⟩ ?_)
  rfl
theorem zm (o:aM) (a:Int):af Tryz.prog 268 false [.val (some 4) (aM.enc .imm o),.ptr [I a]] .one [B (gf a o)]:=by
 refine fO (n:=8) [] Tryz.func268 (by kernel_rfl) rfl (by kernel_rfl) (by rfl) (.inr ⟨trivial,trivial⟩) ?_
 repeat'((conv=>whnf);first|with_reducible (first|refine Lm ?_|refine Wm (by omega) ?_|refine Bn ?_|refine Fm rfl ?_)|refine Bt ?_|refine Bu ?_|refine Sm.rf ?_)
 exact congrArg (fun z=>[B z]) ((by unfold gf;rw[Bool.eq_iff_iff];simp))
theorem AI (h:ac) (a:Int) (hl:h.Objs.length≤1048576):af Tryz.prog 175 false [.val (some 24) (ac.enc .imm h),.val none [I a]] .one [I (eO (gf a) h.Objs)]:=by
 refine fO (n:=9) [] Tryz.func175 (by kernel_rfl) rfl (by kernel_rfl) (by rfl) (.inr ⟨trivial,trivial⟩) ?_
 repeat'((conv=>whnf);first|with_reducible (first|refine Lm ?_|refine Wm (by omega) ?_|refine Bn ?_|refine Fm rfl ?_)|refine Bt ?_|refine Bu ?_|refine Sm.rf ?_|refine Cq.mk (uS (some 4) (aM.enc .imm) (gf a) h.Objs) (zm default a).has (fun L k rcs hQ=>?_) ?_|refine Cl.mk (nr h.Objs (gf a) (by omega)) ?_)
 ·obtain⟨y,-,rfl,rfl,rfl⟩:=hQ
  exact zm y a
 ·rfl
theorem rd (xs:List ah) (pr:ah→Bool) (hl:xs.length≤9223372036854775807):af Tryz.prog 179 false [.val none (aW .imm xs),.fn (mg Tryz.prog (uS (some 3) (ah.enc .imm) pr xs))] .one [I (eO pr xs)]:=by
 refine fO (n:=19) [] Tryz.func179 (by kernel_rfl) rfl (by kernel_rfl) (by rfl) (.inr ⟨trivial,trivial⟩) ?_
 repeat'((conv=>whnf);first|with_reducible (first|refine Lm ?_|refine Wm (by omega) ?_|refine Bn ?_|refine Fm rfl ?_)|refine Bt ?_|refine Bu ?_|refine Sm.rf ?_)
 (conv=>whnf)
 refine Lp.mk (ι:=Nat) (fun i=>[(0,.hold .one (aW .imm xs)),(1,.fv (mg Tryz.prog (uS (some 3) (ah.enc .imm) pr xs))),(7,.hold .one [I xs.length]),(8,.hold .one [I (i:Nat)])]) (fun i=>i≤xs.length∧∀ (j:Nat) (z:ah),j<i→xs[j]? = some z→pr z=false) (fun i=>xs.length - i) 0 ?_ ⟨Nat.zero_le _,fun j z hj=>by omega⟩ fun i hi=>?_
 ·repeat'(first|exact trivial|rfl|refine And.intro ?_ ?_|(exact bQ (by first|omega|(simp only;omega)|(simp;omega))))
 ·obtain⟨hi,ha⟩:=hi
  by_cases hlt:i<xs.length
  ·obtain⟨y,hy⟩ : ∃ y,xs[i]? = some y:=⟨_,List.getElem?_eq_getElem hlt⟩
   repeat'((conv=>whnf);first|with_reducible (first|refine Lm ?_|refine Wm (by omega) ?_|refine Ix.nat (aa hy) ?_|refine dT (by omega) (fun hq=>?_)|refine Bn ?_|refine Fm rfl ?_)|refine Bt ?_|refine Bu ?_|refine Sm.rf ?_|refine Fv.mk (k:=.one) (rcs:=[B (pr y)]) ⟨y,List.mem_of_getElem? hy,rfl,rfl,rfl⟩ ?_|refine Bf.P (fun hq=>?_) (fun hq=>?_))
   ·exact congrArg (fun z=>[I z]) (fj hy ‹_› ha).symm
   ·(conv=>whnf)
    refine Nx.mk (i+1) ⟨by omega,fD hy (by assumption) ha⟩ (by omega) ?_
    repeat'(first|exact trivial|rfl|refine And.intro ?_ ?_|(exact bQ (by first|omega|(simp only;omega)|(simp;omega))))
  ·repeat'((conv=>whnf);first|with_reducible (first|refine Lm ?_|refine Wm (by omega) ?_|refine dF (by omega) (fun hq=>?_)|refine Bn ?_|refine Fm rfl ?_)|refine Bt ?_|refine Bu ?_|refine Sm.rf ?_)
   exact congrArg (fun z=>[I z]) (jw (by omega) ha).symm
end Go.Proofs.YtogajjgmcnjkbaaGreat.Ab
namespace Go.Proofs.YtogajjgmcnjkbaaGreat.Ab
open Go.RowKit
set_option maxRecDepth 20000
set_option maxHeartbeats 4000000
theorem Pu.two {bs bs':List C} {off i k j i2 k2 j2:Nat} {cs:List C} {K:List C→Prop} {o o2:dy} {rows rows2:List (List C)} {r r2:List C} (h1:bs[off]? = some (.s o rows)) (ho:o.mine=true) (h2:rows[i]? = some r) (h3:r.length=k) (g1:r[j]? = some (.s o2 rows2)) (go:o2.mine=true) (g2:rows2[i2]? = some r2) (g3:r2.length=k2) (g4:j2+cs.length≤k2)
  (h5:bs'=bs.set off (.s o (rows.set i (r.set j (.s o2 (rows2.set i2 (splice r2 j2 cs))))))) (hK:K bs'):Pu bs off [(i,k,j),(i2,k2,j2)] cs K:=by
 have hoi:o≠.imm:=fun e=>by subst e;cases ho
 have hoi2:o2≠.imm:=fun e=>by subst e;cases go
 refine Pu.mk (r:=r2) (j:=j2) (by simp[bD,h1,h2,h3,g1,g2,g3]) (by simp[iF,h1,h2,hoi,g1,g2,hoi2]) (by omega) (by rw[h5];simp[en,h1,h2,g1,g2]) hK
theorem yI (x:List am):fz (.s .own (x.map (am.enc .own)))=.s .imm (x.map (am.enc .imm)):=(List.cons.inj (dG x)).1
theorem vt (x:List ah):fz (.s .own (x.map (ah.enc .own)))=.s .imm (x.map (ah.enc .imm)):=(List.cons.inj (gc x)).1
theorem Dh (x:List aM):fz (.s .own (x.map (aM.enc .own)))=.s .imm (x.map (aM.enc .imm)):=(List.cons.inj (EA x)).1
theorem Ap.dele {α:Type} {e:α→List C} {xs:List α} {i sz by_:Nat} {K:List (List C)→Prop} (h2:∀ y,(e y).length=sz) (h3:∀ y,aQ (e y)=true) (hl:xs.length≤1048576) (hb:by_≤1000) (hK:K ((Ab.dele xs i).map e)):Ap true ((xs.take i).map e) ((xs.drop (i+1)).map e) sz by_ K:=by
 have h4:(xs.take i).length+(xs.drop (i+1)).length≤2097152:=by rw[List.length_take,List.length_drop];omega
 refine Ap.mk (bl h2) (bl h2) (fun _ r hr=>by obtain⟨y,-,rfl⟩:=List.mem_map.1 hr;exact h3 y) (by rw[List.length_map,List.length_map];omega) (by rw[List.length_map,List.length_map];exact Nat.le_trans (Nat.mul_le_mul h4 hb) (by decide)) ?_ hK
 unfold Ab.dele
 rw[List.map_append]
theorem D9 (h:ac) (p:Int) (hs:aB.sml h.Kernel.Machine.Table):af Tryz.prog 218 false [.ptr (ac.enc .imm h),.val none [I p]] .one [I (aF h.Kernel.Machine.Table p).Mode]:=by
 refine fO (n:=13) [] Tryz.func218 (by kernel_rfl) rfl (by kernel_rfl) (by rfl) (.inr ⟨trivial,trivial⟩) ?_
 repeat'((conv=>whnf);first|with_reducible (first|refine Lm ?_|refine Wm (by omega) ?_|refine Bn ?_|refine Fm rfl ?_)|refine Bt ?_|refine Bu ?_|refine Sm.rf ?_|refine Cl.mk (jn h.Kernel.Machine.Table p hs) ?_)
 rfl
def Hr (h:ac):List C:=(ac.enc .own h).drop 5
theorem Ji (h:ac) (k:ao):ac.enc .own {h with Kernel:=k} = ao.enc .own k++Hr h:=rfl
theorem zt (h:ac):Hr h=[.s .own (h.Free.map (al.enc .own)),.s .own (h.Spans.map (am.enc .own)),.s .own (h.Larges.map (ah.enc .own)),.s .own (h.Objs.map (aM.enc .own)),.s .own (h.Caches.map (ar.enc .own)),.s .own (h.Mail.Buffers.map (br .own)),.s .own (h.Mail.Inbox.map (aI .own)),I h.Quar.Room,.s .own (h.Quar.Lst.map (ax.enc .own)),I h.Seed,I h.Clock,I h.Limit,I h.Next,B h.Meshing,I h.Job.Plan.Keep,I h.Job.Plan.Move,.s .own (h.Job.Plan.Cells.map (rI .own)),I h.Job.Phase,I h.Job.Next]:=rfl
theorem E8 (h:ac) (f:Int) (hs:aB.sml h.Kernel.Machine.Table) (hf:0≤f∧f<h.Kernel.Machine.Frames.Cells.length∧f<h.Kernel.Machine.Frames.Used.length) :
  bm Tryz.prog 219 false [.ptr (ac.enc .own h),.val none [I f]] [.ptr (ac.enc .own {h with Kernel:=gN h.Kernel f}),.val none [I f]] (.tup []) []:=by
 have h1:=au (xs:=h.Kernel.Machine.Frames.Cells) (i:=f.toNat) (by omega)
 have h2:=au (xs:=h.Kernel.Machine.Frames.Used) (i:=f.toNat) (by omega)
 rw[Ji h (gN h.Kernel f)]
 by_cases hz:(cj h.Kernel.Machine.Table f).length=0
 ·rw[v6 hz,zt]
  refine bL (n:=30) (mo:=[]) (tb:=[(2,8,[21,22,23,24,25,26,27,28])]) [(0,0),(0,0)] Tryz.func219 (by kernel_rfl) rfl (by kernel_rfl) (by rfl) (by rfl) (.inr trivial) fun u q=>?_
  repeat'((conv=>whnf);first|with_reducible (first|refine Lm ?_|refine Wm (by omega) ?_|refine eT (by omega) (fun hq=>?_)|refine Ix.mk hf.1 (aa h2) ?_|refine Ix.mk hf.1 (aa h1) ?_|refine Bn ?_|refine Fm rfl ?_)|refine Bt ?_|refine Bu ?_|refine Sm.rf ?_|refine Cl.eq (iQ h.Kernel.Machine.Table f hs) ⟨⟨rfl,aB.enc_fz h.Kernel.Machine.Table⟩,⟨rfl,rfl⟩,trivial⟩ ?_|refine Pu.one rfl rfl (aa h1) rfl (Nat.le_of_ble_eq_true rfl) rfl ?_|refine Pu.one rfl rfl (aa h2) rfl (Nat.le_of_ble_eq_true rfl) rfl ?_|refine Mk.mk 16 rfl rfl (by decide) (by decide) rfl ?_)
  refine cY.mk rfl rfl ?_
  repeat'(first|exact trivial|rfl|refine And.intro ?_ ?_|(exact bQ (by first|omega|(simp only;omega)|(simp;omega))))
 ·rw[zf hz]
  show bm _ _ _ [.ptr (ac.enc .own h),_] [.ptr (ac.enc .own h),_] _ _
  refine bL (n:=30) (mo:=[]) (tb:=[(2,8,[21,22,23,24,25,26,27,28])]) [(0,0),(0,0)] Tryz.func219 (by kernel_rfl) rfl (by kernel_rfl) (by rfl) (by rfl) (.inr trivial) fun u q=>?_
  repeat'((conv=>whnf);first|with_reducible (first|refine Lm ?_|refine Wm (by omega) ?_|refine eF (by omega) (fun hq=>?_)|refine Bn ?_|refine Fm rfl ?_)|refine Bt ?_|refine Bu ?_|refine Sm.rf ?_|refine Cl.eq (iQ h.Kernel.Machine.Table f hs) ⟨⟨rfl,aB.enc_fz h.Kernel.Machine.Table⟩,⟨rfl,rfl⟩,trivial⟩ ?_)
  refine cY.mk rfl rfl ?_
  repeat'(first|exact trivial|rfl|refine And.intro ?_ ?_|(exact bQ (by first|omega|(simp only;omega)|(simp;omega))))
theorem sZ (h:ac) (p:Int) (hk:bf h.Kernel=true) :
  bm Tryz.prog 107 false [.ptr (ac.enc .own h),.val none [I p]] [.ptr (ac.enc .own {h with Kernel:=cX h.Kernel p}),.val none [I p]] .one [B (decide ((aF h.Kernel.Machine.Table p).Mode≠0))]:=by
 have hs:=fp hk
 have c1:=D9 h p hs.1.2
 by_cases hm:(aF h.Kernel.Machine.Table p).Mode=0
 ·rw[show cX h.Kernel p=h.Kernel by unfold cX;rw[if_pos hm]]
  refine bL (n:=32) (mo:=[(219,[2,0])]) (tb:=[]) [(0,0),(0,0)] Tryz.func107 (by kernel_rfl) rfl (by kernel_rfl) (by rfl) (by rfl) (.inr ⟨trivial,trivial⟩) fun u q=>?_
  repeat'((conv=>whnf);first|with_reducible (first|refine Lm ?_|refine Wm (by omega) ?_|refine eT (by omega) (fun hq=>?_)|refine Bn ?_|refine Fm rfl ?_)|refine Bt ?_|refine Bu ?_|refine Sm.rf ?_|refine Cl.eq (c1) ⟨ac.enc_fz h,⟨rfl,rfl⟩,trivial⟩ ?_)
  refine cY.mk rfl ?_ ?_
  ·exact congrArg (fun z=>[B z]) ((by simp[hm]))
  ·repeat'(first|exact trivial|rfl|refine And.intro ?_ ?_|(exact bQ (by first|omega|(simp only;omega)|(simp;omega))))
 ·obtain⟨h0,h1,he,hf0,hf1⟩:=nk hk hm
  have hlen:=(d8.1 (bG.1 hk).2.1).2.2.1
  rw[show cX h.Kernel p=gN (kT h.Kernel p) (aF h.Kernel.Machine.Table p).Frame by unfold cX;rw[if_neg hm]]
  have c2:=E8 {h with Kernel:=kT h.Kernel p} (aF h.Kernel.Machine.Table p).Frame (zr hk) ⟨hf0,by simp only[kT];omega,by simp only[kT];omega⟩
  rw[Ji h (kT h.Kernel p),z8,zt]at c2
  have hx:=au (xs:=h.Kernel.Machine.Table.Entries) (i:=p.toNat) (by omega)
  rw[he]at c1 c2 hm ⊢
  refine bL (n:=32) (mo:=[(219,[2,0])]) (tb:=[]) [(0,0),(0,0)] Tryz.func107 (by kernel_rfl) rfl (by kernel_rfl) (by rfl) (by rfl) (.inr ⟨trivial,trivial⟩) fun u q=>?_
  repeat'((conv=>whnf);first|with_reducible (first|refine Lm ?_|refine Wm (by omega) ?_|refine eF (by omega) (fun hq=>?_)|refine Ix.mk h0 (aa hx) ?_|refine Bn ?_|refine Fm rfl ?_)|refine Bt ?_|refine Bu ?_|refine Sm.rf ?_|refine Cl.eq (c1) ⟨ac.enc_fz h,⟨rfl,rfl⟩,trivial⟩ ?_|refine Pu.one rfl rfl (aa hx) rfl (Nat.le_of_ble_eq_true rfl) rfl ?_|refine Rw.one rfl (aa hx) rfl ?_|refine dZ.mk (c2) (.inl rfl) ?_)
  refine cY.mk rfl ?_ ?_
  ·exact congrArg (fun z=>[B z]) ((by simp[hm]))
  ·repeat'(first|exact trivial|rfl|refine And.intro ?_ ?_|(exact bQ (by first|omega|(simp only;omega)|(simp;omega))))
theorem yt (h:ac) (p:Int):af Tryz.prog 333 false [.ptr (ac.enc .imm h),.val none [I p]] .one [B (k8 h p)]:=by
 cases e:h.Meshing
 all_goals
  have hz:ac.enc .imm h=(ac.enc .imm h).set 18 (B h.Meshing):=rfl
  rw[e]at hz
  rw[hz]
  refine fO (n:=29) [] Tryz.func333 (by kernel_rfl) rfl (by kernel_rfl) (by rfl) (.inr ⟨trivial,trivial⟩) ?_
  repeat'((conv=>whnf);first|with_reducible (first|refine Lm ?_|refine Wm (by omega) ?_|refine Bf.D (fun hq=>?_) (fun hq=>?_)|refine Bf.E (fun hq=>?_) (fun hq=>?_)|refine Bf.N (fun hq=>?_) (fun hq=>?_)|refine Bn ?_|refine Fm rfl ?_)|refine Bt ?_|refine Bu ?_|refine Sm.rf ?_)
  all_goals exact congrArg (fun z=>[B z]) ((by unfold k8;rw[e];first|(simp[*];done)|(simp[*];rw[Bool.eq_iff_iff];simp)))
theorem n4 (h:ac):af Tryz.prog 263 false [.ptr (ac.enc .imm h)] .one [I (eP h:Nat)]:=by
 refine fO (n:=11) [] Tryz.func263 (by kernel_rfl) rfl (by kernel_rfl) (by rfl) (.inr ⟨trivial,trivial⟩) ?_
 repeat'((conv=>whnf);first|with_reducible (first|refine Lm ?_|refine Wm (by omega) ?_|refine Bn ?_|refine Fm rfl ?_)|refine Bt ?_|refine Bu ?_|refine Sm.rf ?_)
 rfl
theorem AD (h:ac) (a:Int) (hl:h.Objs.length≤1048576):af Tryz.prog 165 false [.val (some 24) (ac.enc .imm h),.val none [I a]] .one [I (eO (gf a) h.Objs)]:=by
 refine fO (n:=22) [] Tryz.func165 (by kernel_rfl) rfl (by kernel_rfl) (by rfl) (.inr ⟨trivial,trivial⟩) ?_
 repeat'((conv=>whnf);first|with_reducible (first|refine Lm ?_|refine Wm (by omega) ?_|refine Bn ?_|refine Fm rfl ?_)|refine Bt ?_|refine Bu ?_|refine Sm.rf ?_)
 (conv=>whnf)
 refine Lp.mk (ι:=Nat) (fun i=>[(1,.hold .one [I (a)]),(2,.hold .box (ac.enc .imm h)),(5,.hold .one [I ((i:Nat):Int)])]) (fun i=>i≤h.Objs.length∧∀ (j:Nat) (z:aM),j<i→h.Objs[j]? = some z→gf a z=false) (fun i=>h.Objs.length - i) (0) ?_ (⟨Nat.zero_le _,fun j z hj=>by omega⟩) fun i hi=>?_
 ·repeat'(first|exact trivial|rfl |refine And.intro ?_ ?_|(exact bQ (by first|omega|(simp only;omega)|(simp;omega))))
 obtain⟨hi,ha⟩:=hi
 by_cases li:i<h.Objs.length
 ·have hx:=au li
  by_cases e:(nth h.Objs i).Addr=a
  ·repeat'((conv=>whnf);first|with_reducible (first|refine Lm ?_|refine Wm (by omega) ?_|refine Ix.nat (aa hx) ?_|refine dT (by omega) (fun hq=>?_)|refine eT (by omega) (fun hq=>?_)|refine Bn ?_|refine Fm rfl ?_)|refine Bt ?_|refine Bu ?_|refine Sm.rf ?_)
   exact congrArg (fun z=>[I z]) (fj hx (by unfold gf;simp[e]) ha).symm
  ·repeat'((conv=>whnf);first|with_reducible (first|refine Lm ?_|refine Wm (by omega) ?_|refine Ix.nat (aa hx) ?_|refine dT (by omega) (fun hq=>?_)|refine eF (by omega) (fun hq=>?_)|refine Bn ?_|refine Fm rfl ?_)|refine Bt ?_|refine Bu ?_|refine Sm.rf ?_)
   ((conv=>whnf);refine Nx.mk (i+1) ⟨by omega,fD hx (by unfold gf;simp[e]) ha⟩ (by omega) ?_;(repeat'(first|exact trivial|rfl|refine And.intro ?_ ?_|(exact bQ (by first|omega|(simp only;omega)|(simp;omega))))))
 ·repeat'((conv=>whnf);first|with_reducible (first|refine Lm ?_|refine Wm (by omega) ?_|refine dF (by omega) (fun hq=>?_)|refine Bn ?_|refine Fm rfl ?_)|refine Bt ?_|refine Bu ?_|refine Sm.rf ?_)
  exact congrArg (fun z=>[I z]) (jw (by omega) ha).symm
theorem p6 (h:ac) (i:Nat) (hi:i<h.Objs.length) (hl:h.Objs.length≤1048576):bm Tryz.prog 172 false [.ptr (ac.enc .own h),.val none [I (i:Nat)]] [.ptr (ac.enc .own {h with Objs:=dele h.Objs i}),.val none [I (i:Nat)]] (.tup []) []:=by
 refine bL (n:=23) (mo:=[]) (tb:=[(0,273,[4,5,6,7,8,9,10,11,13,14,15,16,17,18,19,21,22,0,1,2,3,4,5,6,7,9,10,11,12,13,14,15,8,1000,1009,1010,1011,1012,1013,1014,1015,16,1000,17,18,19]),(1048576,0,[8])]) [(0,0),(0,0)] Tryz.func172 (by kernel_rfl) rfl (by kernel_rfl) (by rfl) (by rfl) (.inr trivial) fun u q=>?_
 repeat'((conv=>whnf);first|with_reducible (first|refine Lm ?_|refine Wm (by omega) ?_|refine Bn ?_|refine Fm rfl ?_)|refine Bt ?_|refine Bu ?_|refine Sm.rf ?_|refine GS.mk rfl (Dh h.Objs) rfl ?_|refine Sl.pre i rfl (by rw[List.length_map];omega) (bl fun _=>rfl) List.map_take ?_|refine Sl.suf (i+1) rfl (by rw[List.length_map];omega) (bl fun _=>rfl) List.map_drop ?_|refine Fl.cp (fun _=>rfl) (fun _=>rfl) (by rw[List.length_take];omega) (by decide) ?_|refine Ap.dele (fun _=>rfl) (fun _=>rfl) hl (by decide) ?_|refine Ap.cp (fun _=>rfl) (fun _=>rfl) (by rw[List.length_take];omega) (by decide) ?_|refine Sm.rf ?_)
 refine cY.mk rfl rfl ?_
 repeat'(first|exact trivial|rfl|refine And.intro ?_ ?_|(exact bQ (by first|omega|(simp only;omega)|(simp;omega))))
theorem x3 (h:ac) (E:List Int) (i:Nat) (hi:ef h E) (li:i<h.Spans.length):bm Tryz.prog 334 false [.ptr (ac.enc .own h),.val none [I (i:Nat)]] [.ptr (ac.enc .own (BO h i)),.val none [I (i:Nat)]] (.tup []) []:=by
 have hl:=hi.lens
 have hls:=hl.spans
 have hx:=au li
 have c1:=sZ {h with Spans:=dele h.Spans i} (nth h.Spans i).Page hi.ker
 have c2:=n4 {h with Kernel:=cX h.Kernel (nth h.Spans i).Page,Spans:=dele h.Spans i}
 rw[show eP {h with Kernel:=cX h.Kernel (nth h.Spans i).Page,Spans:=dele h.Spans i} = eP h from(oo _ _).1]at c2
 have hpg:eP h≤32:=hl.ents
 have c3:=nJ (eP h:Nat) h.Free ⟨(nth h.Spans i).Page,1⟩ ⟨by omega,by omega⟩ ⟨by have:=hl.free;omega,fun _ _=>trivial⟩
 refine bL (n:=52) (mo:=[(107,[2,0])]) (tb:=[(1,273,[13,14,15,16,17,18,19,20,22,23,24,25,26,27,28,30,31,0,1,2,3,4,5,6,7,9,10,11,12,13,14,15,8,1000,1009,1010,1011,1012,1013,1014,1015,16,1000,17,18,19]),(1048577,0,[6]),(3,270,[38,39,40,41,42,43,44,45,47,37,48,49,50,51,0,1,2,3,4,5,6,7,8,1000,1001,1002,1003,1004,1005,1006,9,10,11,12,13,14,15,1012])]) [(0,0),(0,0)] Tryz.func334 (by kernel_rfl) rfl (by kernel_rfl) (by rfl) (by rfl) (.inr trivial) fun u q=>?_
 repeat'((conv=>whnf);first|with_reducible (first|refine Lm ?_|refine Wm (by omega) ?_|refine Ix.nat (aa hx) ?_|refine Bn ?_|refine Fm rfl ?_)|refine Bt ?_|refine Bu ?_|refine Sm.rf ?_|refine GS.mk rfl (yI h.Spans) rfl ?_|refine Sl.pre i rfl (by rw[List.length_map];omega) (bl fun _=>rfl) List.map_take ?_|refine Sl.suf (i+1) rfl (by rw[List.length_map];omega) (bl fun _=>rfl) List.map_drop ?_|refine Fl.cp (fun _=>rfl) (fun _=>rfl) (by rw[List.length_take];omega) (by decide) ?_|refine Ap.dele (fun _=>rfl) (fun _=>rfl) (by omega) (by decide) ?_|refine Ap.cp (fun _=>rfl) (fun _=>rfl) (by rw[List.length_take];omega) (by decide) ?_|refine Rw.one rfl (aa hx) rfl ?_|refine Sm.rf ?_|refine dZ.mk (c1) (.inl rfl) ?_|refine Cl.eq (c2) ⟨ac.enc_fz _,trivial⟩ ?_|refine Cl.eq (c3) ⟨⟨rfl,rfl⟩,⟨rfl,gP h.Free⟩,⟨rfl,rfl⟩,trivial⟩ ?_)
 refine cY.mk rfl rfl ?_
 repeat'(first|exact trivial|rfl|refine And.intro ?_ ?_|(exact bQ (by first|omega|(simp only;omega)|(simp;omega))))
end Go.Proofs.YtogajjgmcnjkbaaGreat.Ab
namespace Go.Proofs.YtogajjgmcnjkbaaGreat.Ab
open Go.RowKit
set_option maxRecDepth 20000
set_option maxHeartbeats 4000000
theorem sX (h:ac) (i:Nat) (a:Int):ac.enc .own (ir h i a)=(ac.enc .own h).set 6 (.s .own ((h.Spans.map (am.enc .own)).set i (am.enc .own (jj (nth h.Spans i) (dt (nth h.Spans i) a))))):=by
 simp[ac.enc,ir,List.map_set]
theorem o8 {α β:Type} {f:α→β} {xs:List α} {i:Nat} {y:β} (hi:i<xs.length):((xs.map f).set i y)[i]? = some y:=by
 rw[List.getElem?_set_self (by rw[List.length_map];exact hi)]
theorem DJ {s:am} (hs:b8 s=true) {a:Int} (ha:gg s a):gv s a=(dt s a,0):=by
 unfold gv
 rw[if_pos ((ff hs).2 ⟨ha.1,ha.2.1⟩),ha.2.2.1];rfl
theorem xg (h:ac) (E:List Int) (a:Int) (hi:ef h (a::E)):bm Tryz.prog 266 false [.ptr (ac.enc .own h),.val none [I a]] [.ptr (ac.enc .own (freeA h a)),.val none [I a]] (.tup []) []:=by
 obtain⟨li,hs,hon⟩:=hi.at (hi.hin a (List.mem_cons_self ..))
 have hbd:=(hi.hin a (List.mem_cons_self ..)).bd hi
 have hl:=hi.lens
 have hls:=hl.spans
 have hso:=hi.L.sok _ (ay li)
 have c1:=gL h (a / 16) (by omega)
 rw[hon]at c1
 unfold freeA
 generalize re h a=i at li hs c1 hso
 have hx:=au li
 have c2:=qT (nth h.Spans i) a ⟨by omega,by omega⟩
 rw[DJ hso hs]at c2
 have c3:=uG (nth h.Spans i) (dt (nth h.Spans i) a) hso hs.2.2.2
 have hg:=hi.give li hs
 have c4:=yt (ir h i a) (nth h.Spans i).Page
 rw[show k8 (ir h i a) (nth h.Spans i).Page=k8 h (nth h.Spans i).Page from rfl]at c4
 have c5:=x3 (ir h i a) E i hg (by unfold ir;simp only[List.length_set];exact li)
 have hz:=ac.enc_fz (ir h i a)
 rw[sX]at c5 hz
 have hy:((h.Spans.map (am.enc .own)).set i (am.enc .own (jj (nth h.Spans i) (dt (nth h.Spans i) a))))[i]? = some (am.enc .own (jj (nth h.Spans i) (dt (nth h.Spans i) a))):=o8 li
 unfold freeS
 by_cases e1:(jj (nth h.Spans i) (dt (nth h.Spans i) a)).Bits=0
 ·cases e2:k8 h (nth h.Spans i).Page<;>rw[e2]at c4
  ·rw[if_pos ⟨e1,rfl⟩]
   refine bL (n:=68) (mo:=[(334,[2,0])]) (tb:=[(2,274,[26,27,28,29,30,31,32,33,34,35,36,37,38,39,25,40,41,42,0,1,2,3,4,5,6,7,8,9,10,11,12,13,14,15,16,17,18,1016])]) [(0,0),(0,0)] Tryz.func266 (by kernel_rfl) rfl (by kernel_rfl) (by rfl) (by rfl) (.inr trivial) fun u q=>?_
   repeat'((conv=>whnf);first|with_reducible (first|refine Lm ?_|refine Wm (by omega) ?_|refine eT (by omega) (fun hq=>?_)|refine Wr.mk ((congrArg _ (tdiv16 hbd.1)).trans (fV (by omega) (by omega))) ?_|refine Bn ?_|refine Fm rfl ?_)|refine Bt ?_|refine Bu ?_|refine Sm.rf ?_|refine Cd.mk (by decide) ?_|refine Cl.eq (c1) ⟨⟨rfl,ac.enc_fz h⟩,⟨rfl,rfl⟩,trivial⟩ ?_|refine Ix.nat (aa hx) ?_|refine Ix.nat hy ?_|refine Rw.one rfl (aa hx) rfl ?_|refine Rw.one rfl hy rfl ?_|refine Cl.mk (c2) ?_|refine Cl.mk (c3) ?_|refine Sm.rf ?_|refine Pu.one rfl rfl (aa hx) rfl (Nat.le_of_ble_eq_true rfl) rfl ?_|refine Cl.eq (c4) ⟨hz,⟨rfl,rfl⟩,trivial⟩ ?_|refine dZ.mk (c5) (.inl rfl) ?_)
   refine cY.mk rfl rfl ?_
   repeat'(first|exact trivial|rfl|refine And.intro ?_ ?_|(exact bQ (by first|omega|(simp only;omega)|(simp;omega))))
  ·rw[if_neg fun x=>by cases x.2]
   rw[sX]
   refine bL (n:=68) (mo:=[(334,[2,0])]) (tb:=[(2,274,[26,27,28,29,30,31,32,33,34,35,36,37,38,39,25,40,41,42,0,1,2,3,4,5,6,7,8,9,10,11,12,13,14,15,16,17,18,1016])]) [(0,0),(0,0)] Tryz.func266 (by kernel_rfl) rfl (by kernel_rfl) (by rfl) (by rfl) (.inr trivial) fun u q=>?_
   repeat'((conv=>whnf);first|with_reducible (first|refine Lm ?_|refine Wm (by omega) ?_|refine eT (by omega) (fun hq=>?_)|refine Wr.mk ((congrArg _ (tdiv16 hbd.1)).trans (fV (by omega) (by omega))) ?_|refine Bn ?_|refine Fm rfl ?_)|refine Bt ?_|refine Bu ?_|refine Sm.rf ?_|refine Cd.mk (by decide) ?_|refine Cl.eq (c1) ⟨⟨rfl,ac.enc_fz h⟩,⟨rfl,rfl⟩,trivial⟩ ?_|refine Ix.nat (aa hx) ?_|refine Ix.nat hy ?_|refine Rw.one rfl (aa hx) rfl ?_|refine Rw.one rfl hy rfl ?_|refine Cl.mk (c2) ?_|refine Cl.mk (c3) ?_|refine Sm.rf ?_|refine Pu.one rfl rfl (aa hx) rfl (Nat.le_of_ble_eq_true rfl) rfl ?_|refine Cl.eq (c4) ⟨hz,⟨rfl,rfl⟩,trivial⟩ ?_|refine dZ.mk (c5) (.inl rfl) ?_)
   refine cY.mk rfl rfl ?_
   repeat'(first|exact trivial|rfl|refine And.intro ?_ ?_|(exact bQ (by first|omega|(simp only;omega)|(simp;omega))))
 ·rw[if_neg fun x=>e1 x.1]
  rw[sX]
  refine bL (n:=68) (mo:=[(334,[2,0])]) (tb:=[(2,274,[26,27,28,29,30,31,32,33,34,35,36,37,38,39,25,40,41,42,0,1,2,3,4,5,6,7,8,9,10,11,12,13,14,15,16,17,18,1016])]) [(0,0),(0,0)] Tryz.func266 (by kernel_rfl) rfl (by kernel_rfl) (by rfl) (by rfl) (.inr trivial) fun u q=>?_
  repeat'((conv=>whnf);first|with_reducible (first|refine Lm ?_|refine Wm (by omega) ?_|refine eF (by omega) (fun hq=>?_)|refine Wr.mk ((congrArg _ (tdiv16 hbd.1)).trans (fV (by omega) (by omega))) ?_|refine Bn ?_|refine Fm rfl ?_)|refine Bt ?_|refine Bu ?_|refine Sm.rf ?_|refine Cd.mk (by decide) ?_|refine Cl.eq (c1) ⟨⟨rfl,ac.enc_fz h⟩,⟨rfl,rfl⟩,trivial⟩ ?_|refine Ix.nat (aa hx) ?_|refine Ix.nat hy ?_|refine Rw.one rfl (aa hx) rfl ?_|refine Rw.one rfl hy rfl ?_|refine Cl.mk (c2) ?_|refine Cl.mk (c3) ?_|refine Sm.rf ?_|refine Pu.one rfl rfl (aa hx) rfl (Nat.le_of_ble_eq_true rfl) rfl ?_|refine Cl.eq (c4) ⟨hz,⟨rfl,rfl⟩,trivial⟩ ?_|refine dZ.mk (c5) (.inl rfl) ?_)
  refine cY.mk rfl rfl ?_
  repeat'(first|exact trivial|rfl|refine And.intro ?_ ?_|(exact bQ (by first|omega|(simp only;omega)|(simp;omega))))
theorem EN (h:ac) (t:Nat) (c:ar):ac.enc .own {h with Caches:=h.Caches.set t c} = (ac.enc .own h).set 9 (.s .own ((h.Caches.map (ar.enc .own)).set t (ar.enc .own c))):=by
 simp[ac.enc,List.map_set]
theorem rq (h:ac) (E:List Int) (t:Nat) (a:Int) (hi:ef h (a::E)) (ht:t<h.Caches.length):bm Tryz.prog 174 false [.ptr (ac.enc .own h),.val none [I (t:Nat)],.val none [I a]] [.ptr (ac.enc .own (recyc t h a)),.val none [I (t:Nat)],.val none [I a]] (.tup []) []:=by
 obtain⟨li,hs,hon⟩:=hi.at (hi.hin a (List.mem_cons_self ..))
 have hbd:=(hi.hin a (List.mem_cons_self ..)).bd hi
 have hl:=hi.lens
 have hls:=hl.spans
 have hso:=aU (hi.L.sok _ (ay li))
 have hco:=hi.cach _ (ay ht)
 have c1:=gL h (a / 16) (by omega)
 rw[hon]at c1
 have c3:=xg h E a hi
 unfold recyc
 generalize re h a=i at li hs c1 hso
 have hx:=au li
 have hy:=au ht
 have c2:=uB (nth h.Caches t) (nth h.Spans i).Class.toNat a hco (by omega)
 rw[Int.toNat_of_nonneg hso.2.2.1]at c2
 unfold rK at c2
 cases e:cput (nth h.Caches t) (nth h.Spans i).Class a with
 | none=>
  rw[e]at c2
  refine bL (n:=46) (mo:=[(266,[2,0])]) (tb:=[(1,277,[16,17,18,19,20,21,22,23,24,25,26,27,28,29,30,31,32,15,33,34,7,0,1,2,3,4,5,6,7,8,9,10,11,12,13,14,15,16,17,18,19,20,21,1019,22]),(3,6,[36,37,38,39,40,41])]) [(0,0),(0,0),(0,0)] Tryz.func174 (by kernel_rfl) rfl (by kernel_rfl) (by rfl) (by rfl) (.inr trivial) fun u q=>?_
  repeat'((conv=>whnf);first|with_reducible (first|refine Lm ?_|refine Wm (by omega) ?_|refine Wr.mk ((congrArg _ (tdiv16 hbd.1)).trans (fV (by omega) (by omega))) ?_|refine Bn ?_|refine Fm rfl ?_)|refine Bt ?_|refine Bu ?_|refine Sm.rf ?_|refine Cd.mk (by decide) ?_|refine Cl.eq (c1) ⟨⟨rfl,ac.enc_fz h⟩,⟨rfl,rfl⟩,trivial⟩ ?_|refine Ix.nat (aa hx) ?_|refine Ix.nat (aa hy) ?_|refine Rw.one rfl (aa hx) rfl ?_|refine Rw.one rfl (aa hy) rfl ?_|refine Cl.eq (c2) ⟨⟨rfl,ar.enc_fz _⟩,⟨rfl,rfl⟩,⟨rfl,rfl⟩,trivial⟩ ?_|refine Sm.rf ?_|refine dZ.mk (c3) (.inl rfl) ?_)
  refine cY.mk rfl rfl ?_
  repeat'(first|exact trivial|rfl|refine And.intro ?_ ?_|(exact bQ (by first|omega|(simp only;omega)|(simp;omega))))
 | some c=>
  rw[e]at c2
  simp only
  rw[EN]
  refine bL (n:=46) (mo:=[(266,[2,0])]) (tb:=[(1,277,[16,17,18,19,20,21,22,23,24,25,26,27,28,29,30,31,32,15,33,34,7,0,1,2,3,4,5,6,7,8,9,10,11,12,13,14,15,16,17,18,19,20,21,1019,22]),(3,6,[36,37,38,39,40,41])]) [(0,0),(0,0),(0,0)] Tryz.func174 (by kernel_rfl) rfl (by kernel_rfl) (by rfl) (by rfl) (.inr trivial) fun u q=>?_
  repeat'((conv=>whnf);first|with_reducible (first|refine Lm ?_|refine Wm (by omega) ?_|refine Wr.mk ((congrArg _ (tdiv16 hbd.1)).trans (fV (by omega) (by omega))) ?_|refine Bn ?_|refine Fm rfl ?_)|refine Bt ?_|refine Bu ?_|refine Sm.rf ?_|refine Cd.mk (by decide) ?_|refine Cl.eq (c1) ⟨⟨rfl,ac.enc_fz h⟩,⟨rfl,rfl⟩,trivial⟩ ?_|refine Ix.nat (aa hx) ?_|refine Ix.nat (aa hy) ?_|refine Rw.one rfl (aa hx) rfl ?_|refine Rw.one rfl (aa hy) rfl ?_|refine Cl.eq (c2) ⟨⟨rfl,ar.enc_fz _⟩,⟨rfl,rfl⟩,⟨rfl,rfl⟩,trivial⟩ ?_|refine Sm.rf ?_|refine Pu.one rfl rfl (aa hy) rfl (Nat.le_of_ble_eq_true rfl) rfl ?_)
  refine cY.mk rfl rfl ?_
  repeat'(first|exact trivial|rfl|refine And.intro ?_ ?_|(exact bQ (by first|omega|(simp only;omega)|(simp;omega))))
theorem uH (h:ac) (i:Nat) (hi:ef h []) (li:i<h.Objs.length) (hc:bk (nth h.Objs i).Size<0):bm Tryz.prog 168 false [.ptr (ac.enc .own h),.val none [I (i:Nat)]] [.ptr (ac.enc .own (freeL h i (tf h (nth h.Objs i).Addr))),.val none [I (i:Nat)]] (.tup []) []:=by
 obtain⟨l,hl,h1,-⟩:=(ee hi (ay li)).1 hc
 obtain⟨lk,ea,hbef,-⟩:=xx hl h1
 generalize tf h (nth h.Objs i).Addr=g at lk ea hbef
 have hlen:=hi.lens
 have hnl:=hlen.larges
 have hno:=hlen.objs
 have hxo:=au li
 have hf:=bn (hi.L.lok _ (ay lk))
 have hpg:eP h≤32:=hlen.ents
 refine bL (n:=89) (mo:=[(107,[2,0]),(172,[2,0])]) (tb:=[(4,11,[23,24,25,26,27,28,29,30,31,32,33]),(8,7,[41,42,43,44,45,46,47]),(9,273,[50,51,52,53,54,55,56,57,58,59,60,62,49,63,64,65,66,0,1,2,3,4,5,6,7,8,9,10,11,1000,1001,1002,1003,1004,1005,1006,12,13,14,15,16,17,18,1015]),(10,273,[67,68,69,70,71,72,73,74,76,77,78,79,80,81,82,84,85,0,1,2,3,4,5,6,7,9,10,11,12,13,14,15,8,1000,1009,1010,1011,1012,1013,1014,1015,16,1000,17,18,19]),(1048586,0,[7])]) [(0,0),(0,0)] Tryz.func168 (by kernel_rfl) rfl (by kernel_rfl) (by rfl) (by rfl) (.inr trivial) fun u q=>?_
 repeat'((conv=>whnf);first|with_reducible (first|refine Lm ?_|refine Wm (by omega) ?_|refine Bn ?_|refine Fm rfl ?_)|refine Bt ?_|refine Bu ?_|refine Sm.rf ?_)
 (conv=>whnf)
 refine Lp.mk (ι:=Nat) (fun k=>[(0,.hold .box (ac.enc .own h)),(1,.hold .one [I ((i:Nat):Int)]),(4,.hold .one [I ((k:Nat):Int)])]) (fun k=>k≤g) (fun k=>g - k) (0) ?_ (Nat.zero_le _) fun k hk=>?_
 ·repeat'(first|exact trivial|rfl |refine And.intro ?_ ?_|(exact bQ (by first|omega|(simp only;omega)|(simp;omega))))
 have hx:=au (xs:=h.Larges) (i:=k) (by omega)
 have hfk:=bn (hi.L.lok _ (ay (xs:=h.Larges) (i:=k) (by omega)))
 have hab:0≤(nth h.Objs i).Addr∧(nth h.Objs i).Addr≤512:=by omega
 by_cases e:k=g
 ·subst e
  repeat'((conv=>whnf);first|with_reducible (first|refine Lm ?_|refine Wm (by omega) ?_|refine Ix.nat (aa hx) ?_|refine dT (by omega) (fun hq=>?_)|refine nF (by omega) (fun hq=>?_)|refine Bn ?_|refine Fm rfl ?_)|refine Bt ?_|refine Bu ?_|refine Sm.rf ?_|refine Rw.one rfl (aa hx) rfl ?_|refine Rw.one rfl (aa hxo) rfl ?_|refine Ix.nat (aa hxo) ?_)
  (conv=>whnf)
  refine Lp.mk (ι:=Nat) (fun n=>[(0,.hold .box (ac.enc .own {h with Kernel:=gd h.Kernel (nth h.Larges k).Page n})),(1,.hold .one [I ((i:Nat):Int)]),(4,.hold .one [I ((k:Nat):Int)]),(5,.hold .box (ah.enc .own (nth h.Larges k))),(6,.hold .one [I ((n:Nat):Int)])]) (fun n=>n≤(nth h.Larges k).Pages.toNat) (fun n=>(nth h.Larges k).Pages.toNat - n) (0) ?_ (Nat.zero_le _) fun n hn=>?_
  ·repeat'(first|exact trivial|rfl |refine And.intro ?_ ?_|(exact bQ (by first|omega|(simp only;omega)|(simp;omega))))
  by_cases ln:n<(nth h.Larges k).Pages.toNat
  ·have c1:=sZ {h with Kernel:=gd h.Kernel (nth h.Larges k).Page n} ((nth h.Larges k).Page+n) (pA hi.ker _ _)
   repeat'((conv=>whnf);first|with_reducible (first|refine Lm ?_|refine Wm (by omega) ?_|refine dT (by omega) (fun hq=>?_)|refine Bn ?_|refine Fm rfl ?_)|refine Bt ?_|refine Bu ?_|refine Sm.rf ?_|refine dZ.mk (c1) (.inl rfl) ?_|refine Sm.rf ?_)
   ((conv=>whnf);refine Nx.mk (n+1) (by omega) (by omega) ?_;(repeat'(first|exact trivial|rfl|refine And.intro ?_ ?_|(exact bQ (by first|omega|(simp only;omega)|(simp;omega))))))
  ·obtain rfl:n=(nth h.Larges k).Pages.toNat:=by omega
   have c2:=n4 {h with Kernel:=gd h.Kernel (nth h.Larges k).Page (nth h.Larges k).Pages.toNat}
   rw[show eP {h with Kernel:=gd h.Kernel (nth h.Larges k).Page (nth h.Larges k).Pages.toNat} = eP h from(k6 _ _ _).1]at c2
   have c3:=nJ (eP h:Nat) h.Free ⟨(nth h.Larges k).Page,(nth h.Larges k).Pages⟩ ⟨by omega,by omega⟩ ⟨by have:=hlen.free;omega,fun _ _=>trivial⟩
   have c4:=p6 {h with Kernel:=gd h.Kernel (nth h.Larges k).Page (nth h.Larges k).Pages.toNat,Larges:=dele h.Larges k,Free:=(bX (eP h) h.Free ⟨(nth h.Larges k).Page,(nth h.Larges k).Pages⟩).getD h.Free} i li (by show h.Objs.length≤_;omega)
   repeat'((conv=>whnf);first|with_reducible (first|refine Lm ?_|refine Wm (by omega) ?_|refine dF (by omega) (fun hq=>?_)|refine Bn ?_|refine Fm rfl ?_)|refine Bt ?_|refine Bu ?_|refine Sm.rf ?_|refine GS.mk rfl (vt h.Larges) rfl ?_|refine Sl.pre k rfl (by rw[List.length_map];omega) (bl fun _=>rfl) List.map_take ?_|refine Sl.suf (k+1) rfl (by rw[List.length_map];omega) (bl fun _=>rfl) List.map_drop ?_|refine Fl.cp (fun _=>rfl) (fun _=>rfl) (by rw[List.length_take];omega) (by decide) ?_|refine Ap.dele (fun _=>rfl) (fun _=>rfl) (by omega) (by decide) ?_|refine Ap.cp (fun _=>rfl) (fun _=>rfl) (by rw[List.length_take];omega) (by decide) ?_|refine Sm.rf ?_|refine Cl.eq (c2) ⟨ac.enc_fz _,trivial⟩ ?_|refine Cl.eq (c3) ⟨⟨rfl,rfl⟩,⟨rfl,gP h.Free⟩,⟨rfl,rfl⟩,trivial⟩ ?_|refine dZ.mk (c4) (.inl rfl) ?_)
   refine cY.mk rfl rfl ?_
   repeat'(first|exact trivial|rfl|refine And.intro ?_ ?_|(exact bQ (by first|omega|(simp only;omega)|(simp;omega))))
 ·have hne:=hbef k (by omega)
  repeat'((conv=>whnf);first|with_reducible (first|refine Lm ?_|refine Wm (by omega) ?_|refine Ix.nat (aa hx) ?_|refine dT (by omega) (fun hq=>?_)|refine nT (by omega) (fun hq=>?_)|refine Bn ?_|refine Fm rfl ?_)|refine Bt ?_|refine Bu ?_|refine Sm.rf ?_|refine Rw.one rfl (aa hx) rfl ?_|refine Rw.one rfl (aa hxo) rfl ?_|refine Ix.nat (aa hxo) ?_)
  ((conv=>whnf);refine Nx.mk (k+1) (by omega) (by omega) ?_;(repeat'(first|exact trivial|rfl|refine And.intro ?_ ?_|(exact bQ (by first|omega|(simp only;omega)|(simp;omega))))))
end Go.Proofs.YtogajjgmcnjkbaaGreat.Ab
