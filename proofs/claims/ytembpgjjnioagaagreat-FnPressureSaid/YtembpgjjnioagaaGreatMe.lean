/- Spans on one frame, objects, slots that are held: the contracts of l27Meshed, l27Job, l27Slot, l27Objs (the reference's) and objsOk (the program's). No condition. -/
import Derived.Test.YtembpgjjnioagaaGreatMd
import Derived.Test.YtembpgjjnioagaaGreatShelf
import Derived.WalkKit
import Derived.Lib.SliceRun
set_option linter.unusedVariables false
set_option linter.unusedSimpArgs false
set_option linter.constructorNameAsVariable false
namespace Go.Proofs.YtembpgjjnioagaaGreat.Ab
open Go.RowKit
set_option maxRecDepth 20000
set_option maxHeartbeats 8000000
theorem nq {α:Type} [Inhabited α] (pr:α->Bool) (xs:List α):dw pr xs = -1\/∃ n,n<xs.length/\dw pr xs=(n:Nat)/\pr (nth xs n)=true:=by
 unfold dw;cases h:xs.findIdx? pr with
 | none=>exact .inl rfl
 | some i=>
  obtain⟨hi,hp,-⟩:=List.findIdx?_eq_some_iff_getElem.1 h;exact .inr ⟨i,hi,rfl,by rw[bq (Q1 hi)];exact hp⟩
theorem A9 {h:ab} {i k:Nat} (hi:i<h.Spans.length) (hk:k<(aS h (nth h.Spans i).Page).length) (hm:kC h i (nth (aS h (nth h.Spans i).Page) k)=false):qQ h=false:=by
 unfold qQ;exact cb hi (dP (ah hk) hm)
theorem yN (h:ab) (hs1:dq h.Spans) (hst:wY h):ao Tryz.prog 205 false [.val (some 24) (ab.enc .imm h)] .one [B (qQ h)]:=by
 have hl1:=hs1.1;have hl3:dG h<=1048576:=hst.1;refine fO 55 [(4,8,[14,15,16,17,18,19,20,21]),(8,6,[28,29,30,31,32,33]),(9,21,[34,35,36,37,38,39,40,41,42,43,44,45,46,47,48,49,50,51,52,53,54])] Tryz.func205 rfl ?_
 repeat'(first|refine gO ?_|fail)
 (conv=>whnf)
 refine Lp.mk (ι:=Nat) (fun i=>[(1,.hold .box (ab.enc .imm h)),(3,.hold .one [I ((i:Nat):Int)])]) (fun i=>i<=h.Spans.length/\cH i (fun i=>(aS h (nth h.Spans i).Page).all (kC h i))=true) (fun i=>h.Spans.length - i) 0 ?_ ⟨Q0 _,rfl⟩ fun i hi=>?_
 ·exact wB
 obtain⟨hi,ai⟩:=hi;by_cases li:i<h.Spans.length
 ·have hx:=ah li
  have hfl:=gn h (nth h.Spans i).Page
  repeat'(first|refine gD ?_|(conv=>whnf);first|with_reducible refine Ix.nat (aa hx) ?_|refine Cl.mk (g9 h _ hst) ?_)
  (conv=>whnf)
  refine Lp.mk (ι:=Nat) (fun k=>[(1,.hold .box (ab.enc .imm h)),(3,.hold .one [I ((i:Nat):Int)]),(4,.hold .one (aF .own (aS h (nth h.Spans i).Page))),(5,.hold .one [I ((k:Nat):Int)])]) (fun k=>k<=(aS h (nth h.Spans i).Page).length/\((aS h (nth h.Spans i).Page).take k).all (kC h i)=true) (fun k=>(aS h (nth h.Spans i).Page).length - k) (0) ?_ (⟨Q0 _,rfl⟩) fun k hk=>?_
  ·exact wB
  obtain⟨hk,ak⟩:=hk;by_cases lk:k<(aS h (nth h.Spans i).Page).length
  ·have hy:=ah lk
   have hso:=iJ h (nth (aS h (nth h.Spans i).Page) k) hl1;rcases nq (ja (nth (aS h (nth h.Spans i).Page) k)) h.Spans with hc|⟨n,hn,hc,-⟩
   ·rw[show fV h (nth (aS h (nth h.Spans i).Page) k) = -1 from hc]at hso
    have hmz:kC h i (nth (aS h (nth h.Spans i).Page) k)=false:=by
     unfold kC;rw[show fV h (nth (aS h (nth h.Spans i).Page) k) = -1 from hc,P0 (by omega),P0 (by omega)];rfl
    repeat'(first|refine gD ?_|(conv=>whnf);first|with_reducible (first|refine Ix.nat (aa hx) ?_|refine Ix.nat (aa hy) ?_|refine Bf.D (fun hq=>?_) (fun hq=>?_)|refine Bf.N (fun hq=>?_) (fun hq=>?_))|refine Rw.one rfl (aa hy) rfl ?_|refine Cl.mk hso ?_)
    all_goals first
     | exact R0 (fun z=>[B z]) ((A9 li lk hmz).symm)
     |(exfalso;omega)
   ·rw[show fV h (nth (aS h (nth h.Spans i).Page) k)=(n:Nat) from hc]at hso
    have hz:=ah hn;have hm:=kE (nth h.Spans i) (nth h.Spans n);have hma:kC h i (nth (aS h (nth h.Spans i).Page) k)=(decide ((n:Int)=(i:Nat)) || meshable (nth h.Spans i) (nth h.Spans n)):=by
     unfold kC;rw[show fV h (nth (aS h (nth h.Spans i).Page) k)=(n:Nat) from hc,O0 (p:=(0:Int)<=(n:Nat)) (by omega)];simp
    cases em:meshable (nth h.Spans i) (nth h.Spans n)<;>rw[em]at hm
    all_goals
     repeat'(first|refine gD ?_|(conv=>whnf);first|with_reducible (first|refine Ix.nat (aa hx) ?_|refine Ix.nat (aa hz) ?_|refine Ix.nat (aa hy) ?_|refine Bf.D (fun hq=>?_) (fun hq=>?_)|refine Bf.N (fun hq=>?_) (fun hq=>?_))|refine Rw.one rfl (aa hy) rfl ?_|refine Cl.mk hso ?_|refine Cl.mk hm ?_)
     all_goals first
      | exact R0 (fun z=>[B z]) ((A9 li lk (by rw[hma,em];grind)).symm)
      | ((conv=>whnf);refine Nx.mk (k+1) ⟨by omega,cz hy ak (by rw[hma,em];grind)⟩ (by omega) ?_;(exact wB))
      |(exfalso;omega)
  ·repeat'(first|refine gD ?_|fail)
   ((conv=>whnf);refine Nx.mk (i+1) ⟨by omega,bJ ai (gf (by omega) ak)⟩ (by omega) ?_;(exact wB))
 ·obtain rfl:i=h.Spans.length:=by omega
  repeat'(first|refine gD ?_|fail)
  exact R0 (fun z=>[B z]) ((by unfold qQ;rw[ai]))
theorem Gh (j:co) (hs:co.sml j):ao Tryz.prog 211 false [.val (some 5) (co.enc .imm j)] .one [B (qw j)]:=by
 have hl:j.Plan.Cells.length<=1048576:=hs;refine fO 30 [] Tryz.func211 rfl ?_
 repeat'(first|refine gO ?_|(conv=>whnf);first|with_reducible (first|refine Bf.E (fun hq=>?_) (fun hq=>?_)|refine Bf.D (fun hq=>?_) (fun hq=>?_)))
 all_goals exact R0 (fun z=>[B z]) ((by unfold qw;first|(symm;exact P0 (by omega))|(rw[V3,beq_iff_eq,C0];omega)))
theorem mw (sp:List au) (la:List aA) (a:Int):((denotes sp la a).Kind=1->0<=(denotes sp la a).Index/\(denotes sp la a).Index.toNat<sp.length)/\((denotes sp la a).Kind=3->0<=(denotes sp la a).Index/\(denotes sp la a).Index.toNat<la.length):=by
 unfold denotes;cases h1:sp.findIdx? (cy · a) with
 | some i=>
  obtain⟨hi,-⟩:=List.findIdx?_eq_some_iff_getElem.1 h1;simp only[oE];refine⟨fun _=>⟨by omega,by simpa using hi⟩,fun e=>?_⟩;split at e<;>cases e
 | none=>
  cases h2:la.findIdx? (bz · a) with
  | some i=>
   obtain⟨hi,-⟩:=List.findIdx?_eq_some_iff_getElem.1 h2;exact⟨fun e=>(by cases e),fun _=>⟨by simp,by simpa using hi⟩⟩
  | none=>exact⟨fun e=>(by cases e),fun e=>(by cases e)⟩
theorem D9 (h:ab) (a c:Int) (hs1:dq h.Spans) (hs2:dt h.Larges) (hlay:bg h.Spans h.Larges=true) (hw:l7 a):ao Tryz.prog 276 false [.val (some 24) (ab.enc .imm h),.val none [I a],.val none [I c]] .one [B (cW h a c)]:=by
 have hd:=lG h.Spans h.Larges a hs1 hs2 hlay hw;obtain⟨i1,-⟩:=mw h.Spans h.Larges a;unfold cW;generalize denotes h.Spans h.Larges a=w at hd i1 |-;refine fO 37 [] Tryz.func276 rfl ?_
 repeat'(first|refine gO ?_|(conv=>whnf);first|with_reducible (first|refine Bf.D (fun hq=>?_) (fun hq=>?_)|refine Bf.E (fun hq=>?_) (fun hq=>?_))|refine Cl.mk hd ?_|refine Ix.mk (i1 (by assumption)).1 (aa (ah (i1 (by assumption)).2)) ?_)
 all_goals exact R0 (fun z=>[B z]) ((by grind))
theorem yo (h:ab) (o:bO) (w:iy) (hw:denotes h.Spans h.Larges o.Addr=w):jo h o=(decide (w.Offset=0)&&((decide (w.Kind=1)&&decide ((nth h.Spans w.Index.toNat).Class=aN o.Size)) || (decide (w.Kind=3)&&decide ((nth h.Larges w.Index.toNat).Size=o.Size)))):=by
 unfold jo;rw[hw]
theorem iu {h:ab} {i:Nat} (hi:i<h.Objs.length) (ho:objAt (IntKind.i64.wrap (h.Next - 1)) h i=false):en h=false:=cb hi ho
theorem FE {nx:Int} {h:ab} {i:Nat} (h1:gz nx h i=false):objAt nx h i=false:=by unfold objAt;rw[h1];rfl
theorem Fe {nx:Int} {h:ab} {i:Nat} (h1:(h.Objs.take i).any (jT (nth h.Objs i).Id)=true):objAt nx h i=false:=by unfold objAt;rw[h1];simp
theorem FQ {nx:Int} {h:ab} {i:Nat} (h1:jo h (nth h.Objs i)=false):objAt nx h i=false:=by unfold objAt;rw[h1];simp
theorem yd {nx:Int} {h:ab} {i:Nat} (h1:gz nx h i=true) (h2:(h.Objs.take i).any (jT (nth h.Objs i).Id)=false) (h3:jo h (nth h.Objs i)=true):objAt nx h i=true:=by unfold objAt;rw[h1,h2,h3];rfl
theorem D7 (h:ab) (hs1:dq h.Spans) (hs2:dt h.Larges) (hlay:bg h.Spans h.Larges=true) (hl:h.Objs.length<=1048576) (hc:h.Caches.length<=1048576) (hw:∀ o∈h.Objs,l7 o.Addr):ao Tryz.prog 209 false [.val (some 24) (ab.enc .imm h)] .one [B (en h)]:=by
 refine fO 117 [(5,33,[21,22,23,24,25,26,27,28,29,30,31,32,33,34,35,36,37,38,39,40,41,42,43,44,45,46,47,48,49,50,51,52,53]),(10,9,[59,60,61,62,63,64,65,66,67]),(13,16,[75,76,77,78,79,80,81,82,83,84,85,86,87,88,89,90]),(14,15,[91,92,93,94,95,96,97,98,99,100,101,102,103,104,105])] Tryz.func209 rfl ?_
 repeat'(first|refine gO ?_|fail)
 (conv=>whnf)
 refine Lp.mk (ι:=Nat) (fun i=>[(1,.hold .box (ab.enc .imm h)),(3,.hold .one [I ((i:Nat):Int)])]) (fun i=>i<=h.Objs.length/\cH i (objAt (IntKind.i64.wrap (h.Next - 1)) h)=true) (fun i=>h.Objs.length - i) 0 ?_ ⟨Q0 _,rfl⟩ fun i hi=>?_
 ·exact wB
 obtain⟨hi,ai⟩:=hi;by_cases li:i<h.Objs.length
 ·have hx:=ah li
  have hd:=lG h.Spans h.Larges (nth h.Objs i).Addr hs1 hs2 hlay (hw _ (am li));obtain⟨i1,i3⟩:=mw h.Spans h.Larges (nth h.Objs i).Addr;have hown:=yo h (nth h.Objs i) _ rfl;generalize denotes h.Spans h.Larges (nth h.Objs i).Addr=w at hd i1 i3 hown;by_cases hnum:gz (IntKind.i64.wrap (h.Next - 1)) h i=true
  ·have hnum':=hnum
   unfold gz at hnum';rw[C0]at hnum'
   repeat'(first|refine gD ?_|(conv=>whnf);first|with_reducible (first|refine Ix.nat (aa hx) ?_|refine Bf.D (fun hq=>?_) (fun hq=>?_))|refine Ix.mk (by omega) (aa (f9 (by omega) li)) ?_|refine Cl.mk (aD _ _ _) ?_|refine Wr.mk rfl ?_)
   all_goals
    (conv=>whnf)
    refine Lp.mk (ι:=Nat) (fun k=>[(1,.hold .box (ab.enc .imm h)),(3,.hold .one [I ((i:Nat):Int)]),(4,.hold .box (bO.enc .imm (nth h.Objs i))),(5,.hold .one [I ((k:Nat):Int)])]) (fun k=>k<=i/\(h.Objs.take k).any (jT (nth h.Objs i).Id)=false) (fun k=>i - k) (0) ?_ (⟨Q0 _,rfl⟩) fun k hk=>?_
    ·exact wB
    obtain⟨hk,ak⟩:=hk;by_cases lk:k<i
    ·have hy:=ah (xs:=h.Objs) (i:=k) (by omega)
     repeat'(first|refine gD ?_|(conv=>whnf);first|with_reducible (first|refine Ix.nat (aa hy) ?_|refine Bf.E (fun hq=>?_) (fun hq=>?_)))
     all_goals first
      | exact R0 (fun z=>[B z]) ((iu li (Fe (Af (i:=k) (by rw[List.getElem?_take_of_lt lk];exact hy) (O0 (by assumption))))).symm)
      | ((conv=>whnf);refine Nx.mk (k+1) ⟨by omega,uP hy ak (P0 (by assumption))⟩ (by omega) ?_;(exact wB))
    ·obtain rfl:k=i:=by omega
     repeat'(first|refine gD ?_|(conv=>whnf);first|with_reducible (first|refine Bf.D (fun hq=>?_) (fun hq=>?_)|refine Bf.E (fun hq=>?_) (fun hq=>?_)|refine Bf.N (fun hq=>?_) (fun hq=>?_))|refine Cl.mk hd ?_|refine Ix.mk (i1 (by assumption)).1 (aa (ah (i1 (by assumption)).2)) ?_|refine Ix.mk (i3 (by assumption)).1 (aa (ah (i3 (by assumption)).2)) ?_|refine Cl.mk (ju _) ?_)
     all_goals first
      | exact R0 (fun z=>[B z]) ((iu li (FQ (by rw[hown];grind))).symm)
      | ((conv=>whnf);refine Nx.mk (k+1) ⟨by omega,bJ ai (yd hnum ak (by rw[hown];grind))⟩ (by omega) ?_;(exact wB))
      |(exfalso;omega)
  ·have hn2:gz (IntKind.i64.wrap (h.Next - 1)) h i=false:=by simpa using hnum
   have hnum':=hn2;unfold gz at hnum';rw[U3]at hnum'
   repeat'(first|refine gD ?_|(conv=>whnf);first|with_reducible (first|refine Ix.nat (aa hx) ?_|refine Bf.D (fun hq=>?_) (fun hq=>?_))|refine Ix.mk (by omega) (aa (f9 (by omega) li)) ?_|refine Cl.mk (aD _ _ _) ?_|refine Wr.mk rfl ?_)
   all_goals first
    | exact R0 (fun z=>[B z]) ((iu li (FE hn2)).symm)
    |(exfalso;omega)
 ·obtain rfl:i=h.Objs.length:=by omega
  repeat'(first|refine gD ?_|fail)
  exact R0 (fun z=>[B z]) ((show true=en h from ai.symm))
theorem oy (o o0:bO):ao Tryz.prog 169 false [.val (some 4) (bO.enc .imm o),.ptr (bO.enc .imm o0)] .one [B (jT o0.Id o)]:=by
 refine fO 9 [] Tryz.func169 rfl ?_
 repeat'(first|refine gO ?_|fail)
 exact R0 (fun z=>[B z]) ((by unfold jT;rw[V3];simp))
theorem Bb (h:ab) (hs1:dq h.Spans) (hs2:dt h.Larges) (hl:h.Objs.length<=1048576) (hc:h.Caches.length<=1048576):ao Tryz.prog 73 false [.val (some 24) (ab.enc .imm h)] .one [B (en h)]:=by
 refine fO 105 [(4,33,[16,17,18,19,20,21,22,23,24,25,26,27,28,29,30,31,32,33,34,35,36,37,38,39,40,41,42,43,44,45,46,47,48]),(9,16,[62,63,64,65,66,67,68,69,70,71,72,73,74,75,76,77]),(10,15,[78,79,80,81,82,83,84,85,86,87,88,89,90,91,92])] Tryz.func73 rfl ?_
 repeat'(first|refine gO ?_|fail)
 (conv=>whnf)
 refine Lp.mk (ι:=Nat) (fun i=>[(1,.hold .box (ab.enc .imm h)),(9,.hold .one (nG .imm h.Objs)),(10,.hold .one [I (h.Objs.length)]),(11,.hold .one [I ((i:Nat):Int)])]) (fun i=>i<=h.Objs.length/\cH i (objAt (IntKind.i64.wrap (h.Next - 1)) h)=true) (fun i=>h.Objs.length - i) 0 ?_ ⟨Q0 _,rfl⟩ fun i hi=>?_
 ·exact wB
 obtain⟨hi,ai⟩:=hi;by_cases li:i<h.Objs.length
 ·have hx:=ah li
  have hd:=qI h.Spans h.Larges (nth h.Objs i).Addr hs1 hs2;obtain⟨i1,i3⟩:=mw h.Spans h.Larges (nth h.Objs i).Addr;have hown:=yo h (nth h.Objs i) _ rfl;generalize denotes h.Spans h.Larges (nth h.Objs i).Addr=w at hd i1 i3 hown;have hcf:=rd (h.Objs.take i) (jT (nth h.Objs i).Id) (by rw[C1];omega);by_cases hnum:gz (IntKind.i64.wrap (h.Next - 1)) h i=true
  ·have hnum':=hnum
   unfold gz at hnum';rw[C0]at hnum';cases hany:(h.Objs.take i).any (jT (nth h.Objs i).Id)<;>rw[hany]at hcf
   ·repeat'(first|refine gD ?_|(conv=>whnf);first|with_reducible (first|refine Ix.nat (aa hx) ?_|refine Bf.D (fun hq=>?_) (fun hq=>?_)|refine Bf.E (fun hq=>?_) (fun hq=>?_)|refine Bf.N (fun hq=>?_) (fun hq=>?_))|refine Ix.mk (by omega) (aa (f9 (by omega) li)) ?_|refine Cl.mk (aJ _ _ _) ?_|refine Sl.pre i rfl (by simp;omega) (fun r hr=>by obtain⟨z,-,rfl⟩:=P3.1 hr;rfl) (I3 ..) ?_|refine Cq.mk (D4 (some 4) (bO.enc .imm) (jT (nth h.Objs i).Id) (h.Objs.take i)) (oy default (nth h.Objs i)).has (fun L k rcs hQ=>by obtain⟨y,-,rfl,rfl,rfl⟩:=hQ;exact oy y (nth h.Objs i)) ?_|refine Cl.mk hcf ?_|refine Cl.mk hd ?_|refine Ix.mk (i1 (by assumption)).1 (aa (ah (i1 (by assumption)).2)) ?_|refine Ix.mk (i3 (by assumption)).1 (aa (ah (i3 (by assumption)).2)) ?_|refine Cl.mk (zi _) ?_|refine Wr.mk rfl ?_)
    all_goals first
     | exact R0 (fun z=>[B z]) ((iu li (FQ (by rw[hown];grind))).symm)
     | ((conv=>whnf);refine Nx.mk (i+1) ⟨by omega,bJ ai (yd hnum hany (by rw[hown];grind))⟩ (by omega) ?_;(exact wB))
     |(exfalso;omega)
   ·repeat'(first|refine gD ?_|(conv=>whnf);first|with_reducible (first|refine Ix.nat (aa hx) ?_|refine Bf.D (fun hq=>?_) (fun hq=>?_))|refine Ix.mk (by omega) (aa (f9 (by omega) li)) ?_|refine Cl.mk (aJ _ _ _) ?_|refine Sl.pre i rfl (by simp;omega) (fun r hr=>by obtain⟨z,-,rfl⟩:=P3.1 hr;rfl) (I3 ..) ?_|refine Cq.mk (D4 (some 4) (bO.enc .imm) (jT (nth h.Objs i).Id) (h.Objs.take i)) (oy default (nth h.Objs i)).has (fun L k rcs hQ=>by obtain⟨y,-,rfl,rfl,rfl⟩:=hQ;exact oy y (nth h.Objs i)) ?_|refine Cl.mk hcf ?_|refine Wr.mk rfl ?_)
    all_goals first
     | exact R0 (fun z=>[B z]) ((iu li (Fe hany)).symm)
     |(exfalso;omega)
  ·have hn2:gz (IntKind.i64.wrap (h.Next - 1)) h i=false:=by simpa using hnum
   have hnum':=hn2;unfold gz at hnum';rw[U3]at hnum'
   repeat'(first|refine gD ?_|(conv=>whnf);first|with_reducible (first|refine Ix.nat (aa hx) ?_|refine Bf.D (fun hq=>?_) (fun hq=>?_))|refine Ix.mk (by omega) (aa (f9 (by omega) li)) ?_|refine Cl.mk (aJ _ _ _) ?_|refine Wr.mk rfl ?_)
   all_goals first
    | exact R0 (fun z=>[B z]) ((iu li (FE hn2)).symm)
    |(exfalso;omega)
 ·obtain rfl:i=h.Objs.length:=by omega
  repeat'(first|refine gD ?_|fail)
  exact R0 (fun z=>[B z]) ((show true=en h from ai.symm))
set_option maxHeartbeats 8000000
theorem GQ {sp:List au} {la:List aA} {n:Nat} (h:jc sp la n=true):kf sp la (n+1)=kf sp la n++[(n:Int)]:=by
 unfold kf;rw[List.range_succ,List.filter_append,List.map_append];simp[h]
theorem JG {sp:List au} {la:List aA} {n:Nat} (h:jc sp la n=false):kf sp la (n+1)=kf sp la n:=by
 unfold kf;rw[List.range_succ,List.filter_append,List.map_append];simp[h]
theorem yA (sp:List au) (la:List aA) (n:Nat):(kf sp la n).length<=n:=by
 unfold kf;rw[U0];exact W3 (List.length_filter_le ..) (by simp)
theorem pS {sp:List au} {la:List aA} {n:Nat} {w:iy} (hw:denotes sp la (n:Nat)=w):jc sp la n=(decide (w.Offset=0)&&(decide (w.Kind=1) || decide (w.Kind=3))):=by
 unfold jc;rw[hw]
theorem La {n:Nat} (h:n<=1048576):l7 (n:Nat):=⟨by omega,by omega⟩
theorem vM (sp:List au) (la:List aA) (hs1:dq sp) (hs2:dt la) (hlay:bg sp la=true):ao Tryz.prog 278 false [.val none (ci .imm sp),.val none (bY .imm la)] .one (aF .own (gH sp la)):=by
 have h0:=kB sp la hs1 hs2;rw[hlay]at h0;refine fO 40 [] Tryz.func278 rfl ?_ (.inr (bK _))
 repeat'(first|refine gO ?_|fail)
 (conv=>whnf)
 refine Lp.mk (ι:=Nat) (fun n=>[(0,.hold .one (ci .imm sp)),(1,.hold .one (bY .imm la)),(5,.hold .one (aF .own (kf sp la n))),(6,.hold .one [I ((n:Nat):Int)])]) (fun n=>n<=512) (fun n=>512 - n) (0) ?_ (Q0 _) fun n hn=>?_
 ·exact wB
 have hll:=yA sp la n;by_cases ln:n<512
 ·have hd:=lG sp la (n:Nat) hs1 hs2 hlay (La (by omega))
  generalize hw:denotes sp la (n:Nat)=w at hd;have hlw:=pS hw
  repeat'(first|refine gD ?_|(conv=>whnf);first|with_reducible refine Bf.E (fun hq=>?_) (fun hq=>?_)|refine Cl.mk h0 ?_|refine Cl.mk hd ?_|refine Ap.mk cE (fun r hr=>by rw[X0.1 hr];rfl) (by simp[aW,d5]) (by simp;omega) (by simp only[U0];exact wK (by simp;omega) (by decide)) rfl ?_)
  all_goals first
   |(have hon:jc sp la n=true:=by rw[hlw];grind
     (conv=>whnf)
     refine Nx.mk (n+1) (by omega) (by omega) ?_;rw[GQ hon]
     (repeat'(first|exact trivial|rfl|exact And.intro rfl (And.intro (R0 (C.s d3.own) (by simp[rI])) trivial)|refine And.intro ?_ ?_)))
   |(have hon:jc sp la n=false:=by rw[hlw];grind
     (conv=>whnf)
     refine Nx.mk (n+1) (by omega) (by omega) ?_;rw[JG hon]
     (exact wA))
 ·obtain rfl:n=512:=by omega
  repeat'(first|refine gD ?_|(conv=>whnf);first|refine Cl.mk h0 ?_)
  rfl
theorem vd (m:aH) (hi:m.Inbox.length=m.Buffers.length):∀ i,i<=m.Buffers.length->(((flight1 m i).length+(flight2 m i).length:Nat):Int)=bo m i
 | 0,_=>rfl
 | i+1,h=>by
  have ih:=vd m hi i (by omega);have h1:=ah (xs:=m.Buffers) (i:=i) (by omega);have h2:=ah (xs:=m.Inbox) (i:=i) (by omega);rw[lR h1,mr h2];simp only[P2,U0];show _=bo m i+((nth m.Buffers i).length+(nth m.Inbox i).length);omega
theorem qb {m:aH} (h:bC m=true):(aL m).length<=30:=by
 have hf:=jr h;have h1:=vd m hf.2.2 m.Buffers.length (I2 _);have h2:bo m m.Buffers.length<=30:=by
  unfold bC at h;simp only[I0,C0]at h;exact h.2
 rw[mN h,P2,hf.2.2];omega
theorem BY {m:aH} (hw:aH.wf m):∀ a∈aL m,l7 a:=by
 intro a ha;unfold aL at ha;split at ha
 ·rcases C2.1 ha with h|h
  ·obtain⟨l,hl,h⟩:=List.mem_flatMap.1 h
   obtain⟨p,hp,rfl⟩:=P3.1 h;exact((hw.1.2 l hl).2 p hp).2
  ·obtain⟨l,hl,h⟩:=List.mem_flatten.1 h
   exact(hw.2.2 l hl).2 a h
 ·cases ha
theorem FW {h:ab} (h1:h.Caches.all (dQ h)=false):gV h=false:=by unfold gV fY;rw[h1];rfl
theorem Gb {h:ab} (h1:h.Quar.Lst.all (gx h)=false):gV h=false:=by unfold gV fY;rw[h1];simp
theorem Hg {h:ab} (h1:(aL h.Mail).all (jl h)=false):gV h=false:=by unfold gV fY;rw[h1];simp
theorem Hw {h:ab} {i:Nat} (hi:i<(holders h).length) (hd:nth (holders h) i∈(holders h).take i):gV h=false:=by
 have h1:decide (holders h).Nodup=false:=Jc (S:=(holders h).take i) (p:=nth (holders h) i) (by
   have:=ah hi;have e:(holders h).take i++[nth (holders h) i]=(holders h).take (i+1):=by rw[List.take_add_one,this];rfl
   rw[e];exact List.take_prefix ..) hd
 unfold gV;rw[h1];simp
theorem ta {h:ab} {i:Nat} {c:aC} (hx:h.Caches[i]? = some c):((h.Caches.take (i+1)).flatMap fun c=>c.Lists.flatten)=((h.Caches.take i).flatMap fun c=>c.Lists.flatten)++c.Lists.flatten:=by
 rw[List.take_add_one,hx,List.flatMap_append];simp
theorem va {c:aC} {k:Nat} {l:List Int} (hx:c.Lists[k]? = some l):(c.Lists.take (k+1)).flatten=(c.Lists.take k).flatten++l:=by
 rw[List.take_add_one,hx,List.flatten_append];simp
theorem DV (h:ab) (hs:ab.sml h) (hw:ab.wf h) (hlay:bg h.Spans h.Larges=true) (hmail:bC h.Mail=true) (hco:∀ c∈h.Caches,bn c=true):ao Tryz.prog 210 false [.val (some 24) (ab.enc .imm h)] .one [B (gV h)]:=by
 obtain⟨-,-,hs1,hs2,hso,hsc,hsm,hsq,-⟩:=hs;obtain⟨-,-,-,-,-,hwc,hwm,hwq,-⟩:=hw;have hlo:h.Objs.length<=1048576:=hso.1;have hlc:h.Caches.length<=1048576:=hsc.1;have hlq:h.Quar.Lst.length<=1048576:=hsq.1;have hfl:=qb hmail;have hfw:=BY hwm;have hsl:∀ a c,l7 a->ao Tryz.prog 276 false [.val (some 24) (ab.enc .imm h),.val none [I a],.val none [I c]] .one [B (cW h a c)]:=fun a c ha=>D9 h a c hs1 hs2 hlay ha
 refine fO 159 [(16,8,[63,64,65,66,67,68,69,70]),(22,17,[86,87,88,89,90,91,92,93,94,95,96,97,98,99,100,101,102]),(29,7,[122,123,124,125,126,127,128]),(35,8,[142,143,144,145,146,147,148,149])] Tryz.func210 rfl ?_
 repeat'(first|refine gO ?_|fail)
 (conv=>whnf)
 refine Lp.mk (ι:=Nat × List Int) (fun i=>[(1,.hold .box (ab.enc .imm h)),(3,.hold .one (aF .own i.2)),(4,.hold .one [I ((i.1:Nat):Int)])]) (fun i=>i.1<=h.Objs.length/\i.2=(h.Objs.take i.1).map (·.Addr)) (fun i=>h.Objs.length - i.1) ((0,[])) ?_ (⟨Q0 _,rfl⟩) fun i hi=>?_
 ·exact wB
 obtain⟨i,S⟩:=i;obtain⟨hi,hS⟩:=hi;simp only at hi hS |-;have hSl:S.length=i:=by rw[hS,U0,C1];omega
 by_cases li:i<h.Objs.length
 ·have hx:=ah li
  repeat'(first|refine gD ?_|(conv=>whnf);first|with_reducible refine Ix.nat (aa hx) ?_|refine Ap.mk cE (fun r hr=>by rw[X0.1 hr];rfl) (by simp[aW,d5]) (by simp;omega) (by simp only[U0];exact wK (by simp;omega) (by decide)) rfl ?_)
  ((conv=>whnf)
   refine Nx.mk (i+1,S++[(nth h.Objs i).Addr]) ⟨(by simp only;omega),(by simp only;rw[hS,List.take_add_one,hx];simp)⟩ (by simp only;omega) ?_
   (repeat'(first|exact trivial|rfl|exact And.intro rfl (And.intro (R0 (C.s d3.own) (by simp[rI])) trivial)|refine And.intro ?_ ?_)))
 obtain rfl:i=h.Objs.length:=by omega
 rw[List.take_length]at hS
 repeat'(first|refine gD ?_|fail)
 (conv=>whnf)
 refine Lp.mk (ι:=Nat × List Int) (fun i=>[(1,.hold .box (ab.enc .imm h)),(3,.hold .one (aF .own i.2)),(5,.hold .one [I ((i.1:Nat):Int)])]) (fun i=>i.1<=h.Caches.length/\i.2=S++((h.Caches.take i.1).flatMap fun c=>c.Lists.flatten)/\(h.Caches.take i.1).all (dQ h)=true/\i.2.length<=1048576+32*i.1) (fun i=>h.Caches.length - i.1) ((0,S)) ?_ (⟨Q0 _,by simp,rfl,by simp only;omega⟩) fun i hi=>?_
 ·exact wB
 obtain⟨i,S2⟩:=i;obtain⟨hi2,hS2,ai,hb2⟩:=hi;simp only at hi2 hS2 ai hb2 |-;by_cases li2:i<h.Caches.length
 ·have hx:=ah li2
  obtain⟨h4,h8⟩:=tc (hco _ (am li2));have hwl:=hwc.2 _ (am li2)
  repeat'(first|refine gD ?_|(conv=>whnf);first|with_reducible refine Ix.nat (aa hx) ?_)
  (conv=>whnf)
  refine Lp.mk (ι:=Nat × List Int) (fun k=>[(1,.hold .box (ab.enc .imm h)),(3,.hold .one (aF .own k.2)),(5,.hold .one [I ((i:Nat):Int)]),(6,.hold .one [I ((k.1:Nat):Int)])]) (fun k=>k.1<=(nth h.Caches i).Lists.length/\k.2=S2++((nth h.Caches i).Lists.take k.1).flatten/\cH k.1 (qA h (nth h.Caches i))=true/\k.2.length<=S2.length+8*k.1) (fun k=>(nth h.Caches i).Lists.length - k.1) ((0,S2)) ?_ (⟨Q0 _,by simp,rfl,by simp⟩) fun k hk=>?_
  ·exact wB
  obtain⟨k,S3⟩:=k;obtain⟨hk,hS3,ak,hb3⟩:=hk;simp only at hk hS3 ak hb3 |-;by_cases lk:k<(nth h.Caches i).Lists.length
  ·have hy:=ah lk
   have hl8:=h8 _ (am lk);have hwa:=(hwl.2 _ (am lk)).2
   repeat'(first|refine gD ?_|(conv=>whnf);first|with_reducible (first|refine Ix.nat (aa hx) ?_|refine Ix.nat (aa hy) ?_))
   (conv=>whnf)
   refine Lp.mk (ι:=Nat × List Int) (fun j=>[(1,.hold .box (ab.enc .imm h)),(3,.hold .one (aF .own j.2)),(5,.hold .one [I ((i:Nat):Int)]),(6,.hold .one [I ((k:Nat):Int)]),(7,.hold .one (aF .imm (nth (nth h.Caches i).Lists k))),(8,.hold .one [I ((j.1:Nat):Int)])]) (fun j=>j.1<=(nth (nth h.Caches i).Lists k).length/\j.2=S3++(nth (nth h.Caches i).Lists k).take j.1/\((nth (nth h.Caches i).Lists k).take j.1).all (fun a=>cW h a (k:Nat))=true) (fun j=>(nth (nth h.Caches i).Lists k).length - j.1) ((0,S3)) ?_ (⟨Q0 _,by simp,rfl⟩) fun j hj=>?_
   ·exact wB
   obtain⟨j,S4⟩:=j;obtain⟨hj,hS4,aj⟩:=hj;simp only at hj hS4 aj |-;have hl4:S4.length=S3.length+j:=by rw[hS4,P2,C1];omega
   by_cases lj:j<(nth (nth h.Caches i).Lists k).length
   ·have hz:=ah lj
    have hsj:=hsl (nth (nth (nth h.Caches i).Lists k) j) (k:Nat) (hwa _ (am lj));cases eh:cW h (nth (nth (nth h.Caches i).Lists k) j) (k:Nat)<;>rw[eh]at hsj
    ·repeat'(first|refine gD ?_|(conv=>whnf);first|with_reducible refine Ix.nat (aa hz) ?_|refine Cl.mk hsj ?_)
     exact R0 (fun z=>[B z]) ((FW (dP hx (by unfold dQ;exact cb lk (dP hz eh)))).symm)
    ·repeat'(first|refine gD ?_|(conv=>whnf);first|with_reducible refine Ix.nat (aa hz) ?_|refine Cl.mk hsj ?_|refine Ap.mk cE (fun r hr=>by rw[X0.1 hr];rfl) (by simp[aW,d5]) (by simp;omega) (by show _*8<=_;simp;omega) rfl ?_)
     ((conv=>whnf)
      refine Nx.mk (j+1,S4++[nth (nth (nth h.Caches i).Lists k) j]) ⟨(by simp only;omega),(by simp only;rw[hS4,List.take_add_one,hz,List.append_assoc];rfl),cz hz aj eh⟩ (by simp only;omega) ?_
      (repeat'(first|exact trivial|rfl|exact And.intro rfl (And.intro (R0 (C.s d3.own) (by simp[rI])) trivial)|refine And.intro ?_ ?_)))
   ·obtain rfl:j=(nth (nth h.Caches i).Lists k).length:=by omega
    rw[List.take_length]at hS4 aj
    repeat'(first|refine gD ?_|fail)
    ((conv=>whnf);refine Nx.mk (k+1,S4) ⟨(by simp only;omega),(by simp only;rw[hS4,hS3,va hy,List.append_assoc]),bJ ak aj,(by simp only;omega)⟩ (by simp only;omega) ?_;(exact wB))
  ·obtain rfl:k=(nth h.Caches i).Lists.length:=by omega
   rw[List.take_length]at hS3
   repeat'(first|refine gD ?_|(conv=>whnf);first|with_reducible refine Ix.nat (aa hx) ?_)
   ((conv=>whnf);refine Nx.mk (i+1,S3) ⟨(by simp only;omega),(by simp only;rw[hS3,hS2,ta hx,List.append_assoc]),cz hx ai ak,(by simp only;omega)⟩ (by simp only;omega) ?_;(exact wB))
 obtain rfl:i=h.Caches.length:=by omega
 rw[List.take_length]at hS2 ai
 repeat'(first|refine gD ?_|fail)
 (conv=>whnf)
 refine Lp.mk (ι:=Nat × List Int) (fun q=>[(1,.hold .box (ab.enc .imm h)),(3,.hold .one (aF .own q.2)),(9,.hold .one [I ((q.1:Nat):Int)])]) (fun q=>q.1<=h.Quar.Lst.length/\q.2=S2++(h.Quar.Lst.take q.1).map (·.Addr)/\(h.Quar.Lst.take q.1).all (gx h)=true) (fun q=>h.Quar.Lst.length - q.1) ((0,S2)) ?_ (⟨Q0 _,by simp,rfl⟩) fun q hq=>?_
 ·exact wB
 obtain⟨q,S5⟩:=q;obtain⟨hq1,hS5,aq⟩:=hq;simp only at hq1 hS5 aq |-;have hl5:S5.length=S2.length+q:=by rw[hS5,P2,U0,C1];omega
 by_cases lq:q<h.Quar.Lst.length
 ·have hz:=ah lq
  have hsj:=hsl (nth h.Quar.Lst q).Addr (nth h.Quar.Lst q).Class (hwq.2.2 _ (am lq)).1;cases eh:cW h (nth h.Quar.Lst q).Addr (nth h.Quar.Lst q).Class<;>rw[eh]at hsj
  ·repeat'(first|refine gD ?_|(conv=>whnf);first|with_reducible refine Ix.nat (aa hz) ?_|refine Cl.mk hsj ?_)
   exact R0 (fun z=>[B z]) ((Gb (dP hz eh)).symm)
  ·repeat'(first|refine gD ?_|(conv=>whnf);first|with_reducible refine Ix.nat (aa hz) ?_|refine Cl.mk hsj ?_|refine Ap.mk cE (fun r hr=>by rw[X0.1 hr];rfl) (by simp[aW,d5]) (by simp;omega) (by show _*8<=_;simp;omega) rfl ?_)
   ((conv=>whnf)
    refine Nx.mk (q+1,S5++[(nth h.Quar.Lst q).Addr]) ⟨(by simp only;omega),(by simp only;rw[hS5,List.take_add_one,hz,List.map_append,List.append_assoc];rfl),cz hz aq eh⟩ (by simp only;omega) ?_
    (repeat'(first|exact trivial|rfl|exact And.intro rfl (And.intro (R0 (C.s d3.own) (by simp[rI])) trivial)|refine And.intro ?_ ?_)))
 obtain rfl:q=h.Quar.Lst.length:=by omega
 rw[List.take_length]at hS5 aq
 repeat'(first|refine gD ?_|(conv=>whnf);first|refine Cl.mk (x3 h.Mail hsm) ?_)
 (conv=>whnf)
 refine Lp.mk (ι:=Nat × List Int) (fun q=>[(1,.hold .box (ab.enc .imm h)),(3,.hold .one (aF .own q.2)),(10,.hold .one (aF .own (aL h.Mail))),(11,.hold .one [I ((q.1:Nat):Int)])]) (fun q=>q.1<=(aL h.Mail).length/\q.2=S5++(aL h.Mail).take q.1/\((aL h.Mail).take q.1).all (jl h)=true) (fun q=>(aL h.Mail).length - q.1) ((0,S5)) ?_ (⟨Q0 _,by simp,rfl⟩) fun q hq=>?_
 ·exact wB
 obtain⟨q,S6⟩:=q;obtain⟨hq1,hS6,aq6⟩:=hq;simp only at hq1 hS6 aq6 |-;have hl6:S6.length=S5.length+q:=by rw[hS6,P2,C1];omega
 by_cases lq:q<(aL h.Mail).length
 ·have hz:=ah lq
  have hsj:=hsl (nth (aL h.Mail) q) (-1) (hfw _ (am lq));cases eh:cW h (nth (aL h.Mail) q) (-1)<;>rw[eh]at hsj
  ·repeat'(first|refine gD ?_|(conv=>whnf);first|with_reducible refine Ix.nat (aa hz) ?_|refine Rw.one rfl (aa hz) rfl ?_|refine Cl.mk hsj ?_)
   exact R0 (fun z=>[B z]) ((Hg (dP hz eh)).symm)
  ·repeat'(first|refine gD ?_|(conv=>whnf);first|with_reducible refine Ix.nat (aa hz) ?_|refine Rw.one rfl (aa hz) rfl ?_|refine Cl.mk hsj ?_|refine Ap.mk cE (fun r hr=>by rw[X0.1 hr];rfl) (by simp[aW,d5]) (by simp;omega) (by show _*8<=_;simp;omega) rfl ?_)
   ((conv=>whnf)
    refine Nx.mk (q+1,S6++[nth (aL h.Mail) q]) ⟨(by simp only;omega),(by simp only;rw[hS6,List.take_add_one,hz,List.append_assoc];rfl),cz hz aq6 eh⟩ (by simp only;omega) ?_
    (repeat'(first|exact trivial|rfl|exact And.intro rfl (And.intro (R0 (C.s d3.own) (by simp[rI])) trivial)|refine And.intro ?_ ?_)))
 obtain rfl:q=(aL h.Mail).length:=by omega
 rw[List.take_length]at hS6 aq6;have hall:S6=holders h:=by rw[hS6,hS5,hS2,hS];rfl
 have hheld:fY h=true:=by unfold fY;rw[ai,aq,aq6];rfl
 have hbig:S6.length<=100000000:=by omega
 clear hS6 hS5 hS2 hS hSl hl5 hb2 hl6
 repeat'(first|refine gD ?_|fail)
 (conv=>whnf)
 refine Lp.fz 3 (ι:=Nat) (fun i=>[(1,.hold .box (ab.enc .imm h)),(3,.hold .one (aF .imm S6)),(12,.hold .one [I ((i:Nat):Int)])]) (fun i=>i<=S6.length/\(S6.take i).Nodup) (fun i=>S6.length - i) 0 ?_ ⟨Q0 _,by simp⟩ fun i hi=>?_
 ·(repeat'(first|exact trivial|rfl|exact And.intro rfl (show JQ (d9 (aF .own S6)) (aF .imm S6) by rw[dZ];exact kU _)|refine And.intro ?_ ?_))
 obtain⟨hi,hnd⟩:=hi;by_cases lj:i<S6.length
 ·have hz:=ah lj
  have htl:(S6.take i).length=i:=by rw[C1];omega
  repeat'(first|refine gD ?_|(conv=>whnf);first|with_reducible (first|refine Ix.nat (aa hz) ?_|refine Bf.D (fun hq=>?_) (fun hq=>?_))|refine Sl.pre i rfl (by simp;omega) (fun r hr=>by obtain⟨z,-,rfl⟩:=P3.1 hr;rfl) (I3 ..) ?_|refine Cl.mk (kW (S6.take i) _ (by omega)) ?_)
  all_goals first
   | exact R0 (fun z=>[B z]) ((by rw[hall]at *;exact(Hw (by assumption) (by assumption)).symm))
   | ((conv=>whnf);refine Nx.mk (i+1) ⟨by omega,by rw[List.take_add_one,hz];exact jH hnd (by assumption)⟩ (by omega) ?_;(exact wB))
 ·obtain rfl:i=S6.length:=by omega
  rw[List.take_length]at hnd;have hlv:=yA h.Spans h.Larges 512
  repeat'(first|refine gD ?_|(conv=>whnf);first|refine Cl.mk (vM h.Spans h.Larges hs1 hs2 hlay) ?_)
  exact R0 (fun z=>[B z]) ((by unfold gV;rw[hheld,<-hall,O0 hnd,Bool.true_and,Bool.true_and];rw[V3,beq_iff_eq,C0];unfold gH at *;omega))
set_option maxHeartbeats 8000000
def cU (h:ab):Bool:=(bC h.Mail&&decide (h.Caches.length=h.Mail.Buffers.length))&&eN h.Quar
def dm (h:ab):Bool:=((((((iV h&&qQ h)&&cU h)&&kx h)&&h.Caches.all bn)&&bU h)&&(en h&&gV h))&&sU h
theorem B0 (h:ab) (hs:ab.sml h) (hw:ab.wf h):ao Tryz.prog 125 false [.val (some 24) (ab.enc .imm h)] .one [B (dm h)]:=by
 have hsA:=hs;have hwA:=hw;obtain⟨hsk,hsf,hs1,hs2,hso,hsc,hsm,hsq,hsj⟩:=hs;obtain⟨-,-,-,-,hwo,hwc,hwm,hwq,-⟩:=hw;have hst:wY h:=hsk.1.2;have hpn:dG h<=1048576:=hst.1;have hlo:h.Objs.length<=1048576:=hso.1;have hlc:h.Caches.length<=1048576:=hsc.1;have hlq:h.Quar.Lst.length<=1048576:=hsq.1;have hlb:h.Mail.Buffers.length<=1048576:=hsm.1.1;have c1:=kJ h.Kernel hsk;have c2:=kA (dG h) h.Free ⟨by omega,by omega⟩ hsf;have c3:=kB h.Spans h.Larges hs1 hs2;have c5:=yN h hs1 hst;have c6:=kb h.Mail hsm;have c7:=mT h.Quar hsq;cases e1:a8 h.Kernel<;>rw[e1]at c1
 ·refine fO 150 [(8,10,[67,68,69,70,71,72,73,74,75,76])] Tryz.func125 rfl ?_
  repeat'(first|refine gO ?_|(conv=>whnf);first|with_reducible refine Bf.N (fun hq=>?_) (fun hq=>?_)|refine Cl.mk c1 ?_)
  all_goals first
   | exact R0 (fun z=>[B z]) ((by unfold dm iV;rw[e1];simp))
   |(exfalso;omega)
 cases e2:bx (dG h) h.Free<;>rw[e2]at c2
 ·refine fO 150 [(8,10,[67,68,69,70,71,72,73,74,75,76])] Tryz.func125 rfl ?_
  repeat'(first|refine gO ?_|(conv=>whnf);first|with_reducible refine Bf.N (fun hq=>?_) (fun hq=>?_)|refine Cl.mk c1 ?_|refine Cl.mk c2 ?_)
  all_goals first
   | exact R0 (fun z=>[B z]) ((by unfold dm iV;rw[e2];simp))
   |(exfalso;omega)
 cases e3:bg h.Spans h.Larges<;>rw[e3]at c3
 ·refine fO 150 [(8,10,[67,68,69,70,71,72,73,74,75,76])] Tryz.func125 rfl ?_
  repeat'(first|refine gO ?_|(conv=>whnf);first|with_reducible refine Bf.N (fun hq=>?_) (fun hq=>?_)|refine Cl.mk c1 ?_|refine Cl.mk c2 ?_|refine Cl.mk c3 ?_)
  all_goals first
   | exact R0 (fun z=>[B z]) ((by unfold dm iV;rw[e3];simp))
   |(exfalso;omega)
 have c4:=A2 h hs1 hs2 hst hsf e3;cases e4:pages0 h<;>rw[e4]at c4
 ·refine fO 150 [(8,10,[67,68,69,70,71,72,73,74,75,76])] Tryz.func125 rfl ?_
  repeat'(first|refine gO ?_|(conv=>whnf);first|with_reducible refine Bf.N (fun hq=>?_) (fun hq=>?_)|refine Cl.mk c1 ?_|refine Cl.mk c2 ?_|refine Cl.mk c3 ?_|refine Cl.mk c4 ?_)
  all_goals first
   | exact R0 (fun z=>[B z]) ((by unfold dm iV;rw[e4];simp))
   |(exfalso;omega)
 cases e5:qQ h<;>rw[e5]at c5
 ·refine fO 150 [(8,10,[67,68,69,70,71,72,73,74,75,76])] Tryz.func125 rfl ?_
  repeat'(first|refine gO ?_|(conv=>whnf);first|with_reducible refine Bf.N (fun hq=>?_) (fun hq=>?_)|refine Cl.mk c1 ?_|refine Cl.mk c2 ?_|refine Cl.mk c3 ?_|refine Cl.mk c4 ?_|refine Cl.mk c5 ?_)
  all_goals first
   | exact R0 (fun z=>[B z]) ((by unfold dm ;rw[e5];simp))
   |(exfalso;omega)
 cases e6:bC h.Mail<;>rw[e6]at c6
 ·refine fO 150 [(8,10,[67,68,69,70,71,72,73,74,75,76])] Tryz.func125 rfl ?_
  repeat'(first|refine gO ?_|(conv=>whnf);first|with_reducible refine Bf.N (fun hq=>?_) (fun hq=>?_)|refine Cl.mk c1 ?_|refine Cl.mk c2 ?_|refine Cl.mk c3 ?_|refine Cl.mk c4 ?_|refine Cl.mk c5 ?_|refine Cl.mk c6 ?_)
  all_goals first
   | exact R0 (fun z=>[B z]) ((by unfold dm cU;rw[e6];simp))
   |(exfalso;omega)
 by_cases hcl:h.Caches.length=h.Mail.Buffers.length;rotate_left
 ·refine fO 150 [(8,10,[67,68,69,70,71,72,73,74,75,76])] Tryz.func125 rfl ?_
  repeat'(first|refine gO ?_|(conv=>whnf);first|with_reducible refine Bf.N (fun hq=>?_) (fun hq=>?_)|refine Cl.mk c1 ?_|refine Cl.mk c2 ?_|refine Cl.mk c3 ?_|refine Cl.mk c4 ?_|refine Cl.mk c5 ?_|refine Cl.mk c6 ?_)
  all_goals first
   | exact R0 (fun z=>[B z]) ((by unfold dm cU;rw[P0 hcl];simp))
   |(exfalso;omega)
 cases e7:eN h.Quar<;>rw[e7]at c7
 ·refine fO 150 [(8,10,[67,68,69,70,71,72,73,74,75,76])] Tryz.func125 rfl ?_
  repeat'(first|refine gO ?_|(conv=>whnf);first|with_reducible refine Bf.N (fun hq=>?_) (fun hq=>?_)|refine Cl.mk c1 ?_|refine Cl.mk c2 ?_|refine Cl.mk c3 ?_|refine Cl.mk c4 ?_|refine Cl.mk c5 ?_|refine Cl.mk c6 ?_|refine Cl.mk c7 ?_)
  all_goals first
   | exact R0 (fun z=>[B z]) ((by unfold dm cU;rw[e7];simp))
   |(exfalso;omega)
 have hlay:iV h=true:=by unfold iV;rw[e1,e2,e3,e4];rfl
 have hmc:cU h=true:=by unfold cU;rw[e6,O0 hcl,e7];rfl
 refine fO 150 [(8,10,[67,68,69,70,71,72,73,74,75,76])] Tryz.func125 rfl ?_
 repeat'(first|refine gA ?_|(conv=>whnf);first|with_reducible refine Bf.N (fun hq=>?_) (fun hq=>?_)|refine Cl.mk c1 ?_|refine Cl.mk c2 ?_|refine Cl.mk c3 ?_|refine Cl.mk c4 ?_|refine Cl.mk c5 ?_|refine Cl.mk c6 ?_|refine Cl.mk c7 ?_)
 all_goals try(exfalso;omega)
 (conv=>whnf)
 refine Lp.mk (ι:=Nat) (fun i=>[(1,.hold .box (ab.enc .imm h)),(3,.hold .one [I ((i:Nat):Int)])]) (fun i=>i<=h.Quar.Lst.length/\(h.Quar.Lst.take i).all (fun x=>decide (x.Since<=h.Clock))=true) (fun i=>h.Quar.Lst.length - i) (0) ?_ (⟨Q0 _,rfl⟩) fun i hi=>?_
 ·exact wB
 obtain⟨hi,ai⟩:=hi;by_cases li:i<h.Quar.Lst.length
 ·have hx:=ah li
  repeat'(first|refine gD ?_|(conv=>whnf);first|with_reducible (first|refine Ix.nat (aa hx) ?_|refine Bf.D (fun hq=>?_) (fun hq=>?_)))
  all_goals first
   | exact R0 (fun z=>[B z]) ((by unfold dm kx;rw[dP hx (P0 (by omega))];simp))
   | ((conv=>whnf);refine Nx.mk (i+1) ⟨by omega,cz hx ai (O0 (by omega))⟩ (by omega) ?_;(exact wB))
 have hsi:kx h=true:=gf (by omega) ai
 repeat'(first|refine gD ?_|fail)
 (conv=>whnf)
 refine Lp.mk (ι:=Nat) (fun k=>[(1,.hold .box (ab.enc .imm h)),(4,.hold .one [I ((k:Nat):Int)])]) (fun k=>k<=h.Caches.length/\(h.Caches.take k).all bn=true) (fun k=>h.Caches.length - k) (0) ?_ (⟨Q0 _,rfl⟩) fun k hk=>?_
 ·exact wB
 obtain⟨hk,ak⟩:=hk;by_cases lk:k<h.Caches.length
 ·have hx:=ah lk
  have c8:=mq (nth h.Caches k) (hsc.2 _ (am lk));cases e8:bn (nth h.Caches k)<;>rw[e8]at c8
  ·repeat'(first|refine gD ?_|(conv=>whnf);first|with_reducible refine Ix.nat (aa hx) ?_|refine Cl.mk c8 ?_)
   exact R0 (fun z=>[B z]) ((by unfold dm;rw[dP hx e8];simp))
  ·repeat'(first|refine gD ?_|(conv=>whnf);first|with_reducible refine Ix.nat (aa hx) ?_|refine Cl.mk c8 ?_)
   ((conv=>whnf);refine Nx.mk (k+1) ⟨by omega,cz hx ak e8⟩ (by omega) ?_;(exact wB))
 have hca:h.Caches.all bn=true:=gf (by omega) ak;have c9:=D7 h hs1 hs2 e3 hlo hlc (fun o ho=>(hwo.2 o ho).2.1);have c10:=DV h hsA hwA e3 e6 (z3.1 hca);have c11:=Gh h.Job hsj;have c12:=wj h.Job hsj;have c13:=iJ h h.Job.Plan.Keep hs1.1;have c14:=iJ h h.Job.Plan.Move hs1.1;by_cases hn:bU h=true;rotate_left
 ·have hn2:bU h=false:=by simpa using hn
  have hn':=hn2;unfold bU at hn';rw[U3]at hn';cases e9:en h<;>rw[e9]at c9<;>cases e10:gV h<;>rw[e10]at c10
  all_goals
   repeat'(first|refine gD ?_|(conv=>whnf);first|with_reducible refine Bf.D (fun hq=>?_) (fun hq=>?_)|refine Cl.mk (aD _ _ _) ?_|refine Cl.mk c9 ?_|refine Cl.mk c10 ?_)
   all_goals first
    | exact R0 (fun z=>[B z]) ((by unfold dm;rw[hn2];simp))
    |(exfalso;omega)
 have hn':=hn;unfold bU at hn';rw[C0]at hn';cases e9:en h<;>rw[e9]at c9
 ·repeat'(first|refine gD ?_|(conv=>whnf);first|with_reducible refine Bf.D (fun hq=>?_) (fun hq=>?_)|refine Cl.mk (aD _ _ _) ?_|refine Cl.mk c9 ?_)
  all_goals first
   | exact R0 (fun z=>[B z]) ((by unfold dm;rw[e9];simp))
   |(exfalso;omega)
 cases e10:gV h<;>rw[e10]at c10
 ·repeat'(first|refine gD ?_|(conv=>whnf);first|with_reducible refine Bf.D (fun hq=>?_) (fun hq=>?_)|refine Cl.mk (aD _ _ _) ?_|refine Cl.mk c9 ?_|refine Cl.mk c10 ?_)
  all_goals first
   | exact R0 (fun z=>[B z]) ((by unfold dm;rw[e10];simp))
   |(exfalso;omega)
 have hfin:dm h=sU h:=by unfold dm;rw[hlay,e5,hmc,hsi,hca,hn,e9,e10];rfl
 rw[hfin];unfold sU;cases em:h.Meshing
 ·repeat'(first|refine gD ?_|(conv=>whnf);first|with_reducible refine Bf.D (fun hq=>?_) (fun hq=>?_)|refine Cl.mk (aD _ _ _) ?_|refine Cl.mk c9 ?_|refine Cl.mk c10 ?_|refine Cl.mk c11 ?_|refine Bf.f em ?_)
  all_goals first
   |rfl
   | exact R0 (fun z=>[B z]) ((by simp;done))
   |(exfalso;omega)
 ·cases e12:iR h.Job<;>rw[e12]at c12
  all_goals
   repeat'(first|refine gD ?_|(conv=>whnf);first|with_reducible (first|refine Bf.D (fun hq=>?_) (fun hq=>?_)|refine Bf.D (fun hq=>?_) (fun hq=>?_))|refine Cl.mk (aD _ _ _) ?_|refine Cl.mk c9 ?_|refine Cl.mk c10 ?_|refine Cl.mk c12 ?_|refine Cl.mk c13 ?_|refine Cl.mk c14 ?_|refine Bf.t em ?_)
   all_goals first
    | exact R0 (fun z=>[B z]) ((by grind))
    |(exfalso;omega)
set_option maxHeartbeats 4000000
def sorted (xs:List Int):List Int:=xs.mergeSort fun x y=>decide (x<=y)
theorem vF (xs:List Int):(sorted xs).length=xs.length:=List.length_mergeSort ..
theorem E2 {w w':World} {g n:Nat} {d:Array Int} {os:Array Obj} {c:Array Value} {e:TypeId} {fr:Nat × Nat} (hg:w.heap[g]? = some (.cells c e fr)) (hw:w'=Sort.grow (Sort.putRow (Value.int .i64) (Sort.ahead w n) g 0 d) os) :
  w'.os=w.os/\w'.tape=w.tape/\w'.output=w.output/\w.heap.size<=w'.heap.size/\(∀ b,b<w.heap.size->b≠g->w'.heap[b]? = w.heap[b]?)/\w'.heap[g]? = some (.cells (Sort.putCells (Value.int .i64) 0 d c) e fr):=by
 subst hw;have hlt:g<w.heap.size:=(R2.1 hg).1;have hh:∀ b,b<w.heap.size->(Sort.grow (Sort.putRow (Value.int .i64) (Sort.ahead w n) g 0 d) os).heap[b]? = if g=b then(w.heap[b]?).map (Sort.onCells (Sort.putCells (Value.int .i64) 0 d)) else w.heap[b]?:=fun b hb=>by
  rw[Sort.heap_grow_old _ _ (by simpa[Sort.putRow,Sort.mapBlock,Sort.ahead] using hb)];show(w.heap.modify g _)[b]? = _;rw[Array.getElem?_modify]
 refine⟨rfl,rfl,rfl,?_,fun b hb hne=>?_,?_⟩
 ·show w.heap.size<=((w.heap.modify g _)++os).size
  simp
 ·rw[hh b hb,if_neg fun e=>hne e.symm]
 ·rw[hh g hlt,if_pos rfl,hg];rfl
theorem LG (d:Array Int) (c:Array Value) (q:Nat):(Sort.putCells (Value.int .i64) 0 d c)[q]? = if q<d.size then(c[q]?).map (fun _=>.int .i64 d[q]!) else c[q]?:=by
 unfold Sort.putCells;rw[Array.getElem?_mapIdx];by_cases h:q<d.size
 ·rw[if_pos h]
  cases c[q]? with
  | none=>rfl
  | some y=>simp[h]
 ·rw[if_neg h]
  cases c[q]? with
  | none=>rfl
  | some y=>simp[h]
theorem row1 {w:World} {S Y:ac} {c:C} {v:Value} (h:dX w S Y c v):cN w S Y [c] (fun _=>v):=by
 refine⟨fun _=>Y,fun j c' hj=>?_,fun _ _ _ _ h=>h,fun j j' hj hj' hne=>?_⟩
 ·cases j with
  | zero=>simp at hj;subst hj;exact h
  | succ j=>simp at hj
 ·simp at hj hj';omega
def Pa (Y:ac):Nat->ac
 | 0=>Y
 | _+1=>NO
theorem D1 (xs:List Int) {j:Nat} (hj:j<xs.length):xs.toArray[j]! = xs[j]:=by
 rw[getElem!_pos xs.toArray j (by simpa using hj)];simp
theorem KO (xs:List Int) (hl:xs.length<=1048576*64):aT Tryz.prog 175 false [.mut none (aF .own xs)] [.mut none (aF .own (sorted xs))] (.tup []) []:=by
 refine⟨⟨_,Tryz.func175,by kernel_rfl,by kernel_rfl⟩,fun w S V vs hS hV hVV hA=>?_⟩
 match vs,hA with
 | [v],⟨hA,_⟩=>
  have hrep:=bP.rep1 (show bP w S (V 0) none [C.s .own (xs.map (rI .own))] v from hA);generalize hcc:C.s .own (xs.map (rI .own))=cc at hrep;cases hrep with
  | nil _ o a ho=>
   cases hcc0:xs with
   | cons x xs'=>rw[hcc0]at hcc;cases hcc
   | nil=>
    refine(Tryz.slices_Sort_int_none a 0 w).mono fun e w' ⟨he,hw'⟩=>?_
    subst hw';refine⟨.tuple #[],he,bH.refl _ _,NO,fun _=>NO,NO,fun _ _ h=>h.elim,fun _ _ _ h=>h.elim,fun _ _ h=>h.elim,fun _ _ _ _ _ h=>h.elim,fun _ _ _ h=>h.elim,fun _ _ h=>h.elim,fun _ _ _ h=>h.elim,⟨#[],rfl,trivial,rfl⟩,cN.nil _ _ _ _,⟨⟨rfl,fun _=>.slice a 0 0,rfl,row1 (by rw[show sorted []=[] from List.mergeSort_nil ..];exact .nil _ .own _ trivial)⟩,trivial⟩⟩
  | own _ o g k n cap rows u f ho hn hk hcap hpos hF hu hf hd hc=>
   cases hcc;have hnx:n=xs.length:=by rw[<-hn,U0]
   have hx0:0<xs.length:=by omega
   have hk1:k=1:=by
    have:=hk (rI .own xs[0]) (P3.2 ⟨_,List.getElem_mem hx0,rfl⟩);exact this.symm
   subst hk1 hnx;have hval:∀ j (hj:j<xs.length),cel w g j=some (.int .i64 xs[j]):=fun j hj=>by
    have h1:=hu j (by omega);have h2:=hc j 0 (rI .own xs[j]) (I xs[j]) (by rw[O2,Q1 hj];rfl) rfl;rw[Nat.mul_one,Nat.add_zero]at h2;rw[h1];generalize u j=z at h2;cases h2
    rfl
   have hgs:g<w.heap.size:=(hV 0 g 0 (hF 0 (by omega)).1).1;obtain⟨c,e0,fr,hg,-⟩:=Sort.cells_of_cell? (hval 0 hx0);have hH:Sort.Holds (Value.int .i64) w g 0 xs.toArray:=fun j hj=>by
    have hj':j<xs.length:=by simpa using hj
    refine⟨?_,?_⟩
    ·rw[D1 xs hj',Nat.zero_add];exact hval j hj'
    ·rw[Nat.zero_add];exact R0 Prod.fst (hF j (by omega)).2.2
   refine(Tryz.slices_Sort_int g 0 cap xs w hH hgs (by omega)).mono fun e w' ⟨he,m,os,hw'⟩=>?_
   obtain⟨q1,q2,q3,q4,q5,q6⟩:=E2 hg hw';have hsl:=vF xs;have hcel:∀ q,cel w g q=c[q]?:=fun q=>by show World.cell? w _=_;unfold World.cell?;simp[hg]
   have hcel':∀ q,cel w' g q=if q<xs.length then(c[q]?).map (fun _=>.int .i64 (sorted xs).toArray[q]!) else c[q]?:=fun q=>by
    have h1:=LG (sorted xs).toArray c q;have h2:(sorted xs).toArray.size=xs.length:=by simpa using hsl
    rw[h2]at h1;rw[<-h1];show World.cell? w' _=_;unfold World.cell?;simp[q6,sorted]
   have hval':∀ q (hq:q<xs.length),cel w' g q=some (.int .i64 ((sorted xs)[q]'(by omega))):=fun q hq=>by
    have h1:=hval q hq;rw[hcel]at h1;rw[hcel',if_pos hq,h1,Option.map_some,D1 (sorted xs) (by omega)]
   have hfro:∀ q,fro w' g q=fro w g q:=fun q=>by
    refine Prod.ext ?_ ?_
    ·show World.frozen? w' _=World.frozen? w _
     unfold World.frozen?;simp[q6,hg]
    ·show mp w' g=mp w g
     unfold mp;rw[q6,hg]
   have hother:∀ b,b<w.heap.size->b≠g->∀ o,cel w' b o=cel w b o/\fro w' b o=fro w b o:=fun b hb hne o=>by
    have hb':=q5 b hb hne;refine⟨?_,Prod.ext ?_ ?_⟩
    ·show World.cell? w' _=World.cell? w _
     unfold World.cell?;simp only[hb']
    ·show World.frozen? w' _=World.frozen? w _
     unfold World.frozen?;simp only[hb']
    ·show mp w' b=mp w b
     unfold mp;rw[hb']
   have hkeep:bH (fun b o=>∃ i,V i b o) w w':=by
    refine⟨q1,q2,q3,q4,fun b hb hn=>q5 b hb fun e=>?_,fun b o hb hn=>?_,fun b o hb hn=>?_⟩
    ·subst e;exact hn 0 ⟨0,(hF 0 (by omega)).1⟩
    ·by_cases e:b=g
     ·subst e
      have ho:¬o<xs.length:=fun h=>hn ⟨0,(hF o (by omega)).1⟩
      rw[hcel',if_neg ho,hcel]
     ·exact(hother b hb e o).1
    ·by_cases e:b=g
     ·subst e;exact hfro o
     ·exact(hother b hb e o).2
   refine⟨.tuple #[],he,hkeep,NO,Pa (V 0),NO,fun _ _ h=>h.elim,fun i b o h=>?_,fun _ _ h=>h.elim,fun i i' hne b o h h'=>?_,fun _ _ _ h=>h.elim,fun _ _ h=>h.elim,fun _ _ _ _ h=>h.elim,⟨#[],rfl,trivial,rfl⟩,cN.nil _ _ _ _,⟨⟨rfl,fun _=>.slice (some ⟨g,0,none⟩) xs.length cap,rfl,row1 ?_⟩,trivial⟩⟩
   ·cases i with
    | zero=>exact .inl ⟨0,h⟩
    | succ i=>exact h.elim
   ·cases i with
    | zero=>
     cases i' with
     | zero=>exact hne rfl
     | succ i'=>exact h'.elim
    | succ i=>exact h.elim
   ·show dX w' _ (V 0) _ _
    refine .own _ .own g 1 xs.length cap _ (fun q=>(cel w' g q).getD undef) (fun _=>NO) trivial (by rw[U0,hsl]) (fun r hr=>by obtain⟨z,-,rfl⟩:=P3.1 hr;rfl) hcap hpos (fun q hq=>?_) (fun q hq=>?_) (fun _ _ _ _ h=>h.elim) (fun _ _ _ _ _ _ _ h=>h.elim) (fun i j r c2 hi hj=>?_)
    ·obtain⟨a1,⟨z,a2,a3⟩,a4⟩:=hF q hq
     refine⟨a1,?_,(hfro q).trans a4⟩;by_cases hqx:q<xs.length
     ·exact⟨_,hval' q hqx,rfl⟩
     ·rw[hcel',if_neg hqx,<-hcel];exact⟨z,a2,a3⟩
    ·rw[hval' q (by omega)];rfl
    ·rw[O2]at hi
     have hil:i<(sorted xs).length:=by
      rcases Nat.lt_or_ge i (sorted xs).length with h|h
      ·exact h
      ·rw[U1 h]at hi;cases hi
     rw[Q1 hil]at hi;simp only[Option.map_some,T0]at hi;subst hi
     match j,hj with
     | 0,hj=>
      simp only[rI,List.getElem?_cons_zero,T0]at hj;subst hj;simp only[Nat.mul_one,Nat.add_zero,hval' i (by omega),Option.getD_some];exact .v _ _ rfl
     | j+1,hj=>simp[rI]at hj
  | _=>cases hcc
set_option maxHeartbeats 8000000
def jC (s:au) (k:Nat):Int:=16*s.Page+(k:Nat)*csz s.Class
def d7 (s:au) (n:Nat):List Int:=((List.range n).filter fun k=>aY s.Bits (k:Nat)).map (jC s)
theorem zr {s:au} {n:Nat} (h:aY s.Bits (n:Nat)=true):d7 s (n+1)=d7 s n++[jC s n]:=by
 unfold d7;rw[List.range_succ,List.filter_append,List.map_append];simp[h]
theorem Bc {s:au} {n:Nat} (h:aY s.Bits (n:Nat)=false):d7 s (n+1)=d7 s n:=by
 unfold d7;rw[List.range_succ,List.filter_append,List.map_append];simp[h]
theorem qC (s:au) (n:Nat):(d7 s n).length<=n:=by
 unfold d7;rw[U0];exact W3 (List.length_filter_le ..) (by simp)
def eE (sp:List au):List Int:=sp.flatMap fun s=>d7 s (slots s.Class).toNat
def live0 (sp:List au) (la:List aA):List Int:=eE sp++la.map fun l=>16*l.Page
def m8 (sp:List au) (la:List aA):List Int:=sorted (live0 sp la)
theorem qR (k:Int):0<=slots k/\slots k<=16:=by
 unfold slots;(repeat' split)<;>decide
theorem yx {k:Int} (h:0<=k/\k<=3):slots k*csz k=16:=by
 obtain rfl|rfl|rfl|rfl:k=0\/k=1\/k=2\/k=3:=by omega
 all_goals decide
theorem vC {sp:List au} {i:Nat} {s:au} (h:sp[i]? = some s):eE (sp.take (i+1))=eE (sp.take i)++d7 s (slots s.Class).toNat:=by
 unfold eE;rw[List.take_add_one,h,List.flatMap_append];simp
theorem xp (s:au) (k:Nat) (hs:bf s=true) (hk:(k:Int)<slots s.Class):ao Tryz.prog 174 false [.val (some 3) (au.enc .imm s),.val none [I (k:Nat)]] .one [I (jC s k)]:=by
 have h1:=iS s;have h2:=eA s.Class;have h3:=gT s.Class;rw[hs]at h1;have hc:=aG hs;have hb:=qR s.Class;rcases cj ⟨hc.2.2.1,hc.2.2.2⟩ with e|e|e|e<;>rw[e]at h2
 all_goals
  refine fO 26 [(3,9,[17,18,19,20,21,22,23,24,25])] Tryz.func174 rfl ?_
  repeat'(first|refine gD ?_|(conv=>whnf);first|with_reducible refine Bf.D (fun hq=>?_) (fun hq=>?_)|refine Cl.mk h1 ?_|refine Cl.mk h2 ?_|refine Cl.mk h3 ?_|refine Cl.mk (aJ _ 0 _) ?_)
  all_goals exact R0 (fun z=>[I z]) (by unfold jC;rw[e];omega)
theorem uC (sp:List au) (la:List aA) (hs1:dq sp) (hs2:dt la) (hlay:bg sp la=true):ao Tryz.prog 79 false [.val none (ci .imm sp),.val none (bY .imm la)] .one (aF .own (m8 sp la)):=by
 have hl1:=hs1.1;have hl2:=hs2.1;have h0:=oU sp la hs1 hs2;rw[hlay]at h0;obtain⟨ho1,ho2,-⟩:=cZ hlay;refine fP 56 [(175,[1])] [] Tryz.func79 rfl ?_ (.inr (bK _))
 repeat'(first|refine gO ?_|(conv=>whnf);first|refine Cl.mk h0 ?_)
 (conv=>whnf)
 refine Lp.mk (ι:=Nat × List Int) (fun i=>[(1,.hold .one (bY .imm la)),(5,.hold .one (aF .own i.2)),(16,.hold .one (ci .imm sp)),(17,.hold .one [I (sp.length)]),(18,.hold .one [I ((i.1:Nat):Int)])]) (fun i=>i.1<=sp.length/\i.2=eE (sp.take i.1)/\i.2.length<=16*i.1) (fun i=>sp.length - i.1) ((0,[])) ?_ (⟨Q0 _,rfl,Q0 _⟩) fun i hi=>?_
 ·exact wB
 obtain⟨i,S⟩:=i;obtain⟨hi,hS,hb⟩:=hi;simp only at hi hS hb |-;by_cases li:i<sp.length
 ·have hx:=ah li
  have hok:bf (nth sp i)=true:=LT ho1 li;have hsl:=qR (nth sp i).Class;have hbt:=eH hok
  repeat'(first|refine gD ?_|(conv=>whnf);first|with_reducible refine Ix.nat (aa hx) ?_)
  (conv=>whnf)
  refine Lp.mk (ι:=Nat × List Int) (fun k=>[(1,.hold .one (bY .imm la)),(5,.hold .one (aF .own k.2)),(7,.hold .box (au.enc .imm (nth sp i))),(8,.hold .one [I ((k.1:Nat):Int)]),(16,.hold .one (ci .imm sp)),(17,.hold .one [I (sp.length)]),(18,.hold .one [I ((i:Nat):Int)])]) (fun k=>k.1<=(slots (nth sp i).Class).toNat/\k.2=S++d7 (nth sp i) k.1) (fun k=>(slots (nth sp i).Class).toNat - k.1) ((0,S)) ?_ (⟨Q0 _,by simp[d7]⟩) fun k hk=>?_
  ·exact wB
  obtain⟨k,S2⟩:=k;obtain⟨hk,hS2⟩:=hk;simp only at hk hS2 |-;have hll:=qC (nth sp i) k;have hl2':S2.length=S.length+(d7 (nth sp i) k).length:=by rw[hS2,P2]
  by_cases lk:k<(slots (nth sp i).Class).toNat
  ·have hh:=pU (nth sp i).Bits (k:Nat) hbt.2
   cases eh:aY (nth sp i).Bits (k:Nat)<;>rw[eh]at hh
   ·repeat'(first|refine gD ?_|(conv=>whnf);first|refine Cl.mk (gT _) ?_|refine Cl.mk hh ?_)
    ((conv=>whnf);refine Nx.mk (k+1,S2) ⟨(by simp only;omega),(by simp only;rw[Bc eh];exact hS2)⟩ (by simp only;omega) ?_;(exact wB))
   ·repeat'(first|refine gD ?_|(conv=>whnf);first|refine Cl.mk (gT _) ?_|refine Cl.mk hh ?_|refine Cl.mk (xp (nth sp i) k hok (by omega)) ?_|refine Ap.mk cE (fun r hr=>by rw[X0.1 hr];rfl) (by simp[aW,d5]) (by simp;omega) (by show _*8<=_;simp;omega) rfl ?_)
    ((conv=>whnf)
     refine Nx.mk (k+1,S2++[jC (nth sp i) k]) ⟨(by simp only;omega),(by simp only;rw[zr eh,hS2,List.append_assoc])⟩ (by simp only;omega) ?_
     (repeat'(first|exact trivial|rfl|exact And.intro rfl (And.intro (R0 (C.s d3.own) (by simp[rI])) trivial)|refine And.intro ?_ ?_)))
  ·obtain rfl:k=(slots (nth sp i).Class).toNat:=by omega
   repeat'(first|refine gD ?_|(conv=>whnf);first|refine Cl.mk (gT _) ?_)
   ((conv=>whnf);refine Nx.mk (i+1,S2) ⟨(by simp only;omega),(by simp only;rw[vC hx,<-hS,hS2]),(by simp only;omega)⟩ (by simp only;omega) ?_;(exact wB))
 obtain rfl:i=sp.length:=by omega
 rw[List.take_length]at hS
 repeat'(first|refine gD ?_|fail)
 (conv=>whnf)
 refine Lp.mk (ι:=Nat × List Int) (fun i=>[(5,.hold .one (aF .own i.2)),(40,.hold .one (bY .imm la)),(41,.hold .one [I (la.length)]),(42,.hold .one [I ((i.1:Nat):Int)])]) (fun i=>i.1<=la.length/\i.2=S++(la.take i.1).map (fun l=>16*l.Page)) (fun i=>la.length - i.1) ((0,S)) ?_ (⟨Q0 _,by simp⟩) fun i hi=>?_
 ·exact wB
 obtain⟨i,S2⟩:=i;obtain⟨hi2,hS2⟩:=hi;simp only at hi2 hS2 |-;have hl2':S2.length=S.length+i:=by rw[hS2,P2,U0,C1];omega
 by_cases li:i<la.length
 ·have hx:=ah li
  have hpg:=se hlay hx
  repeat'(first|refine gD ?_|(conv=>whnf);first|with_reducible refine Ix.nat (aa hx) ?_|refine Ap.mk cE (fun r hr=>by rw[X0.1 hr];rfl) (by simp[aW,d5]) (by simp;omega) (by show _*8<=_;simp;omega) rfl ?_)
  ((conv=>whnf)
   refine Nx.mk (i+1,S2++[16*(nth la i).Page]) ⟨(by simp only;omega),(by simp only;rw[hS2,List.take_add_one,hx];simp)⟩ (by simp only;omega) ?_
   (repeat'(first|exact trivial|rfl|exact And.intro rfl (And.intro (R0 (C.s d3.own) (by simp[rI];omega)) trivial)|refine And.intro ?_ ?_)))
 obtain rfl:i=la.length:=by omega
 rw[List.take_length]at hS2
 repeat'(first|refine gD ?_|(conv=>whnf);first|refine cv.mk (KO S2 (by omega)) (.inl rfl) ?_)
 show _=aF .own (sorted (eE sp++la.map fun l=>16*l.Page));rw[<-hS,<-hS2];rfl
def oM (es:List (Int × Value)) (L:List Int):Prop:=∀ a,mlook es a (.int .i64 0)=.int .i64 (L.count a:Nat)
theorem Gd (es:List (Int × Value)) (a b:Int) (v d:Value):mlook (mput es a v) b d=if a=b then v else mlook es b d:=by
 induction es with
 | nil=>simp only[mput,mlook]
 | cons p es ih=>
  simp only[mput];by_cases h:p.1=a
  ·rw[if_pos h]
   simp only[mlook];by_cases hb:a=b
   ·rw[if_pos hb,if_pos hb]
   ·rw[if_neg hb,if_neg hb,if_neg (by rw[h];exact hb)]
  ·rw[if_neg h]
   simp only[mlook];by_cases hb:p.1=b
   ·rw[if_pos hb,if_pos hb,if_neg (fun e=>h (hb.trans e.symm))]
   ·rw[if_neg hb,if_neg hb,ih]
def inc (es:List (Int × Value)) (L:List Int) (a:Int):List (Int × Value):=mput es a (.int .i64 ((L.count a:Nat)+1))
theorem Gs:oM [] []:=fun _=>rfl
theorem ou {es:List (Int × Value)} {L:List Int} (h:oM es L) (a:Int):oM (inc es L a) (L++[a]):=fun b=>by
 unfold inc;rw[Gd,List.count_append];by_cases hab:a=b
 ·subst hab;rw[if_pos rfl,List.count_singleton_self];simp
 ·rw[if_neg hab,h b,List.count_singleton,if_neg (by simpa using hab)];rfl
theorem zg (h:ab) (hs1:dq h.Spans) (hs2:dt h.Larges) (es:List (Int × Value)) (L:List Int) (a c:Int) (hes:oM es L) (hL:L.length<=1000000000) :
  aT Tryz.prog 170 false [.val none [I a],.val none [I c],.ptr [.m es],.ptr (ab.enc .imm h)] [.val none [I a],.val none [I c],.ptr [.m (inc es L a)],.ptr (ab.enc .imm h)] .one [B (cW h a c)]:=by
 have hd:=qI h.Spans h.Larges a hs1 hs2;obtain⟨i1,-⟩:=mw h.Spans h.Larges a;have hcl:L.count a<=L.length:=List.count_le_length;unfold cW;generalize denotes h.Spans h.Larges a=w at hd i1 |-;refine fM 41 [] [] [(0,0),(0,0),(0,0),(0,0)] Tryz.func170 rfl (fun u q=>?_)
 repeat'(first|refine gO ?_|(conv=>whnf);first|with_reducible (first|refine Bf.D (fun hq=>?_) (fun hq=>?_)|refine Bf.E (fun hq=>?_) (fun hq=>?_))|refine Ml.mk (hes a) ?_|refine Mu.mk (es':=inc es L a) rfl ?_|refine Cl.mk hd ?_|refine Ix.mk (i1 (by assumption)).1 (aa (ah (i1 (by assumption)).2)) ?_)
 all_goals
  refine aR.mk rfl ?_ ?_
  ·exact R0 (fun z=>[B z]) ((by grind))
  ·exact wB
set_option maxHeartbeats 8000000
def ql (h:ab) (x0:aM):Bool:=gx h x0&&decide (x0.Since<=h.Clock)
def lc (h:ab):List Int:=((ch h++h.Quar.Lst.map (·.Addr))++aL h.Mail)++h.Objs.map (·.Addr)
def iN (h:ab):Bool:=((h.Caches.all (dQ h)&&h.Quar.Lst.all (ql h))&&(aL h.Mail).all (jl h))&&(m8 h.Spans h.Larges).all fun a=>decide ((lc h).count a=1)
theorem Lg {h:ab} (h1:h.Caches.all (dQ h)=false):iN h=false:=by unfold iN;rw[h1];rfl
theorem F9 {h:ab} (h1:h.Quar.Lst.all (ql h)=false):iN h=false:=by unfold iN;rw[h1];simp
theorem KL {h:ab} (h1:(aL h.Mail).all (jl h)=false):iN h=false:=by unfold iN;rw[h1];simp
theorem LB {h:ab} (h1:((m8 h.Spans h.Larges).all fun a=>decide ((lc h).count a=1))=false):iN h=false:=by unfold iN;rw[h1];simp
theorem FX {sp:List au} {la:List aA} (h1:sp.length<=1048576) (h2:la.length<=1048576):(m8 sp la).length<=100000000:=by
 have h3:∀ (l:List au),(eE l).length<=16*l.length:=by
  intro l
  induction l with
  | nil=>exact Q0 _
  | cons s l ih=>
   have e:eE (s::l)=d7 s (slots s.Class).toNat++eE l:=by unfold eE;rw[List.flatMap_cons]
   have hb:=qR s.Class;have hl:=qC s (slots s.Class).toNat;rw[e,P2,List.length_cons];omega
 have h4:=h3 sp;unfold m8 live0;rw[vF,P2,U0];omega
theorem uA (h:ab) (hs:ab.sml h) (hlay:bg h.Spans h.Larges=true) (hmail:bC h.Mail=true) (hco:∀ c∈h.Caches,bn c=true):ao Tryz.prog 74 false [.val (some 24) (ab.enc .imm h)] .one [B (iN h)]:=by
 obtain⟨-,-,hs1,hs2,hso,hsc,hsm,hsq,-⟩:=hs;have hlo:h.Objs.length<=1048576:=hso.1;have hlc:h.Caches.length<=1048576:=hsc.1;have hlq:h.Quar.Lst.length<=1048576:=hsq.1;have hfl:=qb hmail;have hno:iN h=false->[B false]=[B (iN h)]:=fun e=>by rw[e]
 refine fP 114 [(170,[0,0,2,2])] [] Tryz.func74 rfl ?_
 repeat'(first|refine gO ?_|fail)
 (conv=>whnf)
 refine Lp.mk (ι:=Nat × List (Int × Value) × List Int) (fun i=>[(1,.hold .box (ab.enc .imm h)),(3,.hold .box [.m i.2.1]),(4,.fn 170 [3,1]),(22,.hold .one (nI .imm h.Caches)),(23,.hold .one [I (h.Caches.length)]),(24,.hold .one [I ((i.1:Nat):Int)])]) (fun i=>i.1<=h.Caches.length/\oM i.2.1 i.2.2/\i.2.2=((h.Caches.take i.1).flatMap fun c=>c.Lists.flatten)/\(h.Caches.take i.1).all (dQ h)=true/\i.2.2.length<=32*i.1) (fun i=>h.Caches.length - i.1) ((0,[],[])) ?_ (⟨Q0 _,Gs,rfl,rfl,Q0 _⟩) fun i hi=>?_
 ·exact wB
 obtain⟨i,es,L⟩:=i;obtain⟨hi,hes,hL,ai,hb⟩:=hi;simp only at hi hes hL ai hb |-;by_cases li:i<h.Caches.length
 ·have hx:=ah li
  obtain⟨h4,h8⟩:=tc (hco _ (am li))
  repeat'(first|refine gD ?_|(conv=>whnf);first|with_reducible refine Ix.nat (aa hx) ?_)
  (conv=>whnf)
  refine Lp.mk (ι:=Nat × List (Int × Value) × List Int) (fun k=>[(1,.hold .box (ab.enc .imm h)),(3,.hold .box [.m k.2.1]),(4,.fn 170 [3,1]),(22,.hold .one (nI .imm h.Caches)),(23,.hold .one [I (h.Caches.length)]),(24,.hold .one [I ((i:Nat):Int)]),(29,.hold .one (ix .imm (nth h.Caches i).Lists)),(30,.hold .one [I ((nth h.Caches i).Lists.length)]),(31,.hold .one [I ((k.1:Nat):Int)])]) (fun k=>k.1<=(nth h.Caches i).Lists.length/\oM k.2.1 k.2.2/\k.2.2=L++((nth h.Caches i).Lists.take k.1).flatten/\cH k.1 (qA h (nth h.Caches i))=true/\k.2.2.length<=L.length+8*k.1) (fun k=>(nth h.Caches i).Lists.length - k.1) ((0,es,L)) ?_ (⟨Q0 _,hes,by simp,rfl,by simp⟩) fun k hk=>?_
  ·exact wB
  obtain⟨k,es3,L3⟩:=k;obtain⟨hk,hes3,hL3,ak,hb3⟩:=hk;simp only at hk hes3 hL3 ak hb3 |-;by_cases lk:k<(nth h.Caches i).Lists.length
  ·have hy:=ah lk
   have hl8:=h8 _ (am lk)
   repeat'(first|refine gD ?_|(conv=>whnf);first|with_reducible (first|refine Ix.nat (aa hx) ?_|refine Ix.nat (aa hy) ?_))
   (conv=>whnf)
   refine Lp.mk (ι:=Nat × List (Int × Value) × List Int) (fun j=>[(1,.hold .box (ab.enc .imm h)),(3,.hold .box [.m j.2.1]),(4,.fn 170 [3,1]),(7,.hold .one [I ((k:Nat):Int)]),(22,.hold .one (nI .imm h.Caches)),(23,.hold .one [I (h.Caches.length)]),(24,.hold .one [I ((i:Nat):Int)]),(29,.hold .one (ix .imm (nth h.Caches i).Lists)),(30,.hold .one [I ((nth h.Caches i).Lists.length)]),(31,.hold .one [I ((k:Nat):Int)]),(36,.hold .one (aF .imm (nth (nth h.Caches i).Lists k))),(37,.hold .one [I ((nth (nth h.Caches i).Lists k).length)]),(38,.hold .one [I ((j.1:Nat):Int)])]) (fun j=>j.1<=(nth (nth h.Caches i).Lists k).length/\oM j.2.1 j.2.2/\j.2.2=L3++(nth (nth h.Caches i).Lists k).take j.1/\((nth (nth h.Caches i).Lists k).take j.1).all (fun a=>cW h a (k:Nat))=true) (fun j=>(nth (nth h.Caches i).Lists k).length - j.1) ((0,es3,L3)) ?_ (⟨Q0 _,hes3,by simp,rfl⟩) fun j hj=>?_
   ·exact wB
   obtain⟨j,es4,L4⟩:=j;obtain⟨hj,hes4,hL4,aj⟩:=hj;simp only at hj hes4 hL4 aj |-;have hl4:L4.length=L3.length+j:=by rw[hL4,P2,C1];omega
   by_cases lj:j<(nth (nth h.Caches i).Lists k).length
   ·have hz:=ah lj
    have hcal:=zg h hs1 hs2 es4 L4 (nth (nth (nth h.Caches i).Lists k) j) (k:Nat) hes4 (by omega);cases eh:cW h (nth (nth (nth h.Caches i).Lists k) j) (k:Nat)<;>rw[eh]at hcal
    ·repeat'(first|refine gD ?_|(conv=>whnf);first|with_reducible refine Ix.nat (aa hz) ?_|refine cv.mk (hcal) (.inl rfl) ?_)
     exact hno (Lg (dP hx (by unfold dQ;exact cb lk (dP hz eh))))
    ·repeat'(first|refine gD ?_|(conv=>whnf);first|with_reducible refine Ix.nat (aa hz) ?_|refine cv.mk (hcal) (.inl rfl) ?_)
     ((conv=>whnf)
      refine Nx.mk (j+1,inc es4 L4 (nth (nth (nth h.Caches i).Lists k) j),L4++[nth (nth (nth h.Caches i).Lists k) j]) ⟨(by simp only;omega),ou hes4 _,(by simp only;rw[hL4,List.take_add_one,hz,List.append_assoc];rfl),cz hz aj eh⟩ (by simp only;omega) ?_
      (exact wA))
   ·obtain rfl:j=(nth (nth h.Caches i).Lists k).length:=by omega
    rw[List.take_length]at hL4 aj
    repeat'(first|refine gD ?_|fail)
    ((conv=>whnf);refine Nx.mk (k+1,es4,L4) ⟨(by simp only;omega),hes4,(by simp only;rw[hL4,hL3,va hy,List.append_assoc]),bJ ak aj,(by simp only;omega)⟩ (by simp only;omega) ?_;(exact wB))
  ·obtain rfl:k=(nth h.Caches i).Lists.length:=by omega
   rw[List.take_length]at hL3
   repeat'(first|refine gD ?_|fail)
   ((conv=>whnf);refine Nx.mk (i+1,es3,L3) ⟨(by simp only;omega),hes3,(by simp only;rw[hL3,hL,ta hx]),cz hx ai ak,(by simp only;omega)⟩ (by simp only;omega) ?_;(exact wB))
 obtain rfl:i=h.Caches.length:=by omega
 rw[List.take_length]at hL ai
 repeat'(first|refine gD ?_|fail)
 (conv=>whnf)
 refine Lp.mk (ι:=Nat × List (Int × Value) × List Int) (fun q=>[(1,.hold .box (ab.enc .imm h)),(3,.hold .box [.m q.2.1]),(4,.fn 170 [3,1]),(52,.hold .one (cC .imm h.Quar.Lst)),(53,.hold .one [I (h.Quar.Lst.length)]),(54,.hold .one [I ((q.1:Nat):Int)])]) (fun q=>q.1<=h.Quar.Lst.length/\oM q.2.1 q.2.2/\q.2.2=L++(h.Quar.Lst.take q.1).map (·.Addr)/\(h.Quar.Lst.take q.1).all (ql h)=true) (fun q=>h.Quar.Lst.length - q.1) ((0,es,L)) ?_ (⟨Q0 _,hes,by simp,rfl⟩) fun q hq=>?_
 ·exact wB
 obtain⟨q,es5,L5⟩:=q;obtain⟨hq1,hes5,hL5,aq⟩:=hq;simp only at hq1 hes5 hL5 aq |-;have hl5:L5.length=L.length+q:=by rw[hL5,P2,U0,C1];omega
 by_cases lq:q<h.Quar.Lst.length
 ·have hz:=ah lq
  have hcal:=zg h hs1 hs2 es5 L5 (nth h.Quar.Lst q).Addr (nth h.Quar.Lst q).Class hes5 (by omega);cases eh:cW h (nth h.Quar.Lst q).Addr (nth h.Quar.Lst q).Class<;>rw[eh]at hcal
  ·repeat'(first|refine gD ?_|(conv=>whnf);first|with_reducible (first|refine Ix.nat (aa hz) ?_|refine Bf.D (fun hq=>?_) (fun hq=>?_))|refine cv.mk (hcal) (.inl rfl) ?_)
   all_goals exact hno (F9 (dP hz (by unfold ql gx;rw[eh];rfl)))
  ·repeat'(first|refine gD ?_|(conv=>whnf);first|with_reducible (first|refine Ix.nat (aa hz) ?_|refine Bf.D (fun hq=>?_) (fun hq=>?_))|refine cv.mk (hcal) (.inl rfl) ?_)
   all_goals first
    |exact hno (F9 (dP hz (by unfold ql gx;rw[eh,P0 (by omega)];rfl)))
    | ((conv=>whnf)
       refine Nx.mk (q+1,inc es5 L5 (nth h.Quar.Lst q).Addr,L5++[(nth h.Quar.Lst q).Addr]) ⟨(by simp only;omega),ou hes5 _,(by simp only;rw[hL5,List.take_add_one,hz,List.map_append,List.append_assoc];rfl),cz hz aq (by unfold ql gx;rw[eh,O0 (by omega)];rfl)⟩ (by simp only;omega) ?_
       (exact wA))
 obtain rfl:q=h.Quar.Lst.length:=by omega
 rw[List.take_length]at hL5 aq
 repeat'(first|refine gD ?_|(conv=>whnf);first|refine Cl.mk (wV h.Mail hsm) ?_)
 (conv=>whnf)
 refine Lp.mk (ι:=Nat × List (Int × Value) × List Int) (fun q=>[(1,.hold .box (ab.enc .imm h)),(3,.hold .box [.m q.2.1]),(4,.fn 170 [3,1]),(75,.hold .one (aF .own (aL h.Mail))),(76,.hold .one [I ((aL h.Mail).length)]),(77,.hold .one [I ((q.1:Nat):Int)])]) (fun q=>q.1<=(aL h.Mail).length/\oM q.2.1 q.2.2/\q.2.2=L5++(aL h.Mail).take q.1/\((aL h.Mail).take q.1).all (jl h)=true) (fun q=>(aL h.Mail).length - q.1) ((0,es5,L5)) ?_ (⟨Q0 _,hes5,by simp,rfl⟩) fun q hq=>?_
 ·exact wB
 obtain⟨q,es6,L6⟩:=q;obtain⟨hq1,hes6,hL6,aq6⟩:=hq;simp only at hq1 hes6 hL6 aq6 |-;have hl6:L6.length=L5.length+q:=by rw[hL6,P2,C1];omega
 by_cases lq:q<(aL h.Mail).length
 ·have hz:=ah lq
  have hcal:=zg h hs1 hs2 es6 L6 (nth (aL h.Mail) q) (-1) hes6 (by omega);cases eh:cW h (nth (aL h.Mail) q) (-1)<;>rw[eh]at hcal
  ·repeat'(first|refine gD ?_|(conv=>whnf);first|with_reducible refine Ix.nat (aa hz) ?_|refine Rw.one rfl (aa hz) rfl ?_|refine cv.mk (hcal) (.inl rfl) ?_)
   exact hno (KL (dP hz eh))
  ·repeat'(first|refine gD ?_|(conv=>whnf);first|with_reducible refine Ix.nat (aa hz) ?_|refine Rw.one rfl (aa hz) rfl ?_|refine cv.mk (hcal) (.inl rfl) ?_)
   ((conv=>whnf)
    refine Nx.mk (q+1,inc es6 L6 (nth (aL h.Mail) q),L6++[nth (aL h.Mail) q]) ⟨(by simp only;omega),ou hes6 _,(by simp only;rw[hL6,List.take_add_one,hz,List.append_assoc];rfl),cz hz aq6 eh⟩ (by simp only;omega) ?_
    (exact wA))
 obtain rfl:q=(aL h.Mail).length:=by omega
 rw[List.take_length]at hL6 aq6
 repeat'(first|refine gD ?_|fail)
 (conv=>whnf)
 refine Lp.mk (ι:=Nat × List (Int × Value) × List Int) (fun q=>[(1,.hold .box (ab.enc .imm h)),(3,.hold .box [.m q.2.1]),(87,.hold .one (nG .imm h.Objs)),(88,.hold .one [I (h.Objs.length)]),(89,.hold .one [I ((q.1:Nat):Int)])]) (fun q=>q.1<=h.Objs.length/\oM q.2.1 q.2.2/\q.2.2=L6++(h.Objs.take q.1).map (·.Addr)) (fun q=>h.Objs.length - q.1) ((0,es6,L6)) ?_ (⟨Q0 _,hes6,by simp⟩) fun q hq=>?_
 ·exact wB
 obtain⟨q,es7,L7⟩:=q;obtain⟨hq1,hes7,hL7⟩:=hq;simp only at hq1 hes7 hL7 |-;have hl7:L7.length=L6.length+q:=by rw[hL7,P2,U0,C1];omega
 by_cases lq:q<h.Objs.length
 ·have hz:=ah lq
  have hcl:L7.count (nth h.Objs q).Addr<=L7.length:=List.count_le_length
  repeat'(first|refine gD ?_|(conv=>whnf);first|with_reducible refine Ix.nat (aa hz) ?_|refine Ml.mk (hes7 _) ?_|refine Mu.mk (es':=inc es7 L7 (nth h.Objs q).Addr) rfl ?_)
  ((conv=>whnf)
   refine Nx.mk (q+1,inc es7 L7 (nth h.Objs q).Addr,L7++[(nth h.Objs q).Addr]) ⟨(by simp only;omega),ou hes7 _,(by simp only;rw[hL7,List.take_add_one,hz,List.map_append,List.append_assoc];rfl)⟩ (by simp only;omega) ?_
   (exact wA))
 obtain rfl:q=h.Objs.length:=by omega
 rw[List.take_length]at hL7;have hall:L7=lc h:=by rw[hL7,hL6,hL5,hL];rfl
 have hlv:=FX hs1.1 hs2.1
 repeat'(first|refine gD ?_|(conv=>whnf);first|refine Cl.mk (uC h.Spans h.Larges hs1 hs2 hlay) ?_)
 (conv=>whnf)
 refine Lp.mk (ι:=Nat) (fun n=>[(3,.hold .box [.m es7]),(103,.hold .one (aF .own (m8 h.Spans h.Larges))),(104,.hold .one [I ((m8 h.Spans h.Larges).length)]),(105,.hold .one [I ((n:Nat):Int)])]) (fun n=>n<=(m8 h.Spans h.Larges).length/\((m8 h.Spans h.Larges).take n).all (fun a=>decide ((lc h).count a=1))=true) (fun n=>(m8 h.Spans h.Larges).length - n) (0) ?_ (⟨Q0 _,rfl⟩) fun n hn=>?_
 ·exact wB
 obtain⟨hn,an⟩:=hn;by_cases ln:n<(m8 h.Spans h.Larges).length
 ·have hz:=ah ln
  rw[hall]at hes7
  repeat'(first|refine gD ?_|(conv=>whnf);first|with_reducible (first|refine Ix.nat (aa hz) ?_|refine Bf.N (fun hq=>?_) (fun hq=>?_))|refine Rw.one rfl (aa hz) rfl ?_|refine Ml.mk (hes7 _) ?_)
  all_goals first
   |exact hno (LB (dP hz (P0 (by omega))))
   | ((conv=>whnf);refine Nx.mk (n+1) ⟨by omega,cz hz an (O0 (by omega))⟩ (by omega) ?_;(exact wB))
 ·repeat'(first|refine gD ?_|fail)
  exact R0 (fun z=>[B z]) ((by unfold iN;rw[ai,aq,aq6,gf (by omega) an];rfl))
set_option maxHeartbeats 8000000
def jd (h:ab):Bool:=(((((((a8 h.Kernel&&bx (dG h) h.Free)&&bg h.Spans h.Larges)&&(pages0 h&&mC h))&&cU h)&&h.Caches.all bn)&&(en h&&iN h))&&bU h)&&sU h
theorem jX (h:ab) (hs:ab.sml h):ao Tryz.prog 20 false [.val (some 24) (ab.enc .imm h)] .one [B (jd h)]:=by
 have hsA:=hs;obtain⟨hsk,hsf,hs1,hs2,hso,hsc,hsm,hsq,hsj⟩:=hs;have hst:wY h:=hsk.1.2;have hpn:dG h<=1048576:=hst.1;have hlo:h.Objs.length<=1048576:=hso.1;have hlc:h.Caches.length<=1048576:=hsc.1;have hlb:h.Mail.Buffers.length<=1048576:=hsm.1.1;have hlp:h.Job.Plan.Cells.length<=1048576:=hsj;have c1:=kN h.Kernel hsk;have c2:=xb (dG h) h.Free ⟨by omega,by omega⟩ hsf;have c3:=oU h.Spans h.Larges hs1 hs2;have c6:=sC h.Mail hsm;have c7:=BZ h.Quar hsq;cases e1:a8 h.Kernel<;>rw[e1]at c1
 ·refine fO 154 [] Tryz.func20 rfl ?_
  repeat'(first|refine gO ?_|(conv=>whnf);first|with_reducible refine Bf.N (fun hq=>?_) (fun hq=>?_)|refine Cl.mk c1 ?_)
  all_goals first
   | exact R0 (fun z=>[B z]) ((by unfold jd ;rw[e1];simp))
   |(exfalso;omega)
 cases e2:bx (dG h) h.Free<;>rw[e2]at c2
 ·refine fO 154 [] Tryz.func20 rfl ?_
  repeat'(first|refine gO ?_|(conv=>whnf);first|with_reducible refine Bf.N (fun hq=>?_) (fun hq=>?_)|refine Cl.mk c1 ?_|refine Cl.mk c2 ?_)
  all_goals first
   | exact R0 (fun z=>[B z]) ((by unfold jd ;rw[e2];simp))
   |(exfalso;omega)
 cases e3:bg h.Spans h.Larges<;>rw[e3]at c3
 ·refine fO 154 [] Tryz.func20 rfl ?_
  repeat'(first|refine gO ?_|(conv=>whnf);first|with_reducible refine Bf.N (fun hq=>?_) (fun hq=>?_)|refine Cl.mk c1 ?_|refine Cl.mk c2 ?_|refine Cl.mk c3 ?_)
  all_goals first
   | exact R0 (fun z=>[B z]) ((by unfold jd ;rw[e3];simp))
   |(exfalso;omega)
 have c4:=z7 h hs1 hs2 hst hsf e3;cases e4:(pages0 h&&mC h)<;>rw[e4]at c4
 ·refine fO 154 [] Tryz.func20 rfl ?_
  repeat'(first|refine gO ?_|(conv=>whnf);first|with_reducible refine Bf.N (fun hq=>?_) (fun hq=>?_)|refine Cl.mk c1 ?_|refine Cl.mk c2 ?_|refine Cl.mk c3 ?_|refine Cl.mk c4 ?_)
  all_goals first
   | exact R0 (fun z=>[B z]) ((by unfold jd ;rw[e4];simp))
   |(exfalso;omega)
 cases e6:bC h.Mail<;>rw[e6]at c6
 ·refine fO 154 [] Tryz.func20 rfl ?_
  repeat'(first|refine gO ?_|(conv=>whnf);first|with_reducible refine Bf.N (fun hq=>?_) (fun hq=>?_)|refine Cl.mk c1 ?_|refine Cl.mk c2 ?_|refine Cl.mk c3 ?_|refine Cl.mk c4 ?_|refine Cl.mk c6 ?_)
  all_goals first
   | exact R0 (fun z=>[B z]) ((by unfold jd cU;rw[e6];simp))
   |(exfalso;omega)
 by_cases hcl:h.Caches.length=h.Mail.Buffers.length;rotate_left
 ·refine fO 154 [] Tryz.func20 rfl ?_
  repeat'(first|refine gO ?_|(conv=>whnf);first|with_reducible refine Bf.N (fun hq=>?_) (fun hq=>?_)|refine Cl.mk c1 ?_|refine Cl.mk c2 ?_|refine Cl.mk c3 ?_|refine Cl.mk c4 ?_|refine Cl.mk c6 ?_)
  all_goals first
   | exact R0 (fun z=>[B z]) ((by unfold jd cU;rw[P0 hcl];simp))
   |(exfalso;omega)
 cases e7:eN h.Quar<;>rw[e7]at c7
 ·refine fO 154 [] Tryz.func20 rfl ?_
  repeat'(first|refine gO ?_|(conv=>whnf);first|with_reducible refine Bf.N (fun hq=>?_) (fun hq=>?_)|refine Cl.mk c1 ?_|refine Cl.mk c2 ?_|refine Cl.mk c3 ?_|refine Cl.mk c4 ?_|refine Cl.mk c6 ?_|refine Cl.mk c7 ?_)
  all_goals first
   | exact R0 (fun z=>[B z]) ((by unfold jd cU;rw[e7];simp))
   |(exfalso;omega)
 have hmc:cU h=true:=by unfold cU;rw[e6,O0 hcl,e7];rfl
 refine fO 154 [] Tryz.func20 rfl ?_
 repeat'(first|refine gA ?_|(conv=>whnf);first|with_reducible refine Bf.N (fun hq=>?_) (fun hq=>?_)|refine Cl.mk c1 ?_|refine Cl.mk c2 ?_|refine Cl.mk c3 ?_|refine Cl.mk c4 ?_|refine Cl.mk c6 ?_|refine Cl.mk c7 ?_)
 all_goals try(exfalso;omega)
 (conv=>whnf)
 refine Lp.mk (ι:=Nat) (fun k=>[(1,.hold .box (ab.enc .imm h)),(57,.hold .one (nI .imm h.Caches)),(58,.hold .one [I (h.Caches.length)]),(59,.hold .one [I ((k:Nat):Int)])]) (fun k=>k<=h.Caches.length/\(h.Caches.take k).all bn=true) (fun k=>h.Caches.length - k) (0) ?_ (⟨Q0 _,rfl⟩) fun k hk=>?_
 ·exact wB
 obtain⟨hk,ak⟩:=hk;by_cases lk:k<h.Caches.length
 ·have hx:=ah lk
  have c8:=zn (nth h.Caches k) (hsc.2 _ (am lk));cases e8:bn (nth h.Caches k)<;>rw[e8]at c8
  ·repeat'(first|refine gD ?_|(conv=>whnf);first|with_reducible refine Ix.nat (aa hx) ?_|refine Cl.mk c8 ?_)
   exact R0 (fun z=>[B z]) ((by unfold jd;rw[dP hx e8];simp))
  ·repeat'(first|refine gD ?_|(conv=>whnf);first|with_reducible refine Ix.nat (aa hx) ?_|refine Cl.mk c8 ?_)
   ((conv=>whnf);refine Nx.mk (k+1) ⟨by omega,cz hx ak e8⟩ (by omega) ?_;(exact wB))
 have hca:h.Caches.all bn=true:=gf (by omega) ak;have c9:=Bb h hs1 hs2 hlo hlc;have c10:=uA h hsA e3 e6 (z3.1 hca);have c12:=Ey h.Job hsj;have c13:=sX h h.Job.Plan.Keep hs1.1;have c14:=sX h h.Job.Plan.Move hs1.1;cases e9:en h<;>rw[e9]at c9
 ·repeat'(first|refine gD ?_|(conv=>whnf);first|refine Cl.mk c9 ?_)
  all_goals first
   | exact R0 (fun z=>[B z]) ((by unfold jd;rw[e9];simp))
   |(exfalso;omega)
 cases e10:iN h<;>rw[e10]at c10
 ·repeat'(first|refine gD ?_|(conv=>whnf);first|refine Cl.mk c9 ?_|refine Cl.mk c10 ?_)
  all_goals first
   | exact R0 (fun z=>[B z]) ((by unfold jd;rw[e10];simp))
   |(exfalso;omega)
 by_cases hn:bU h=true;rotate_left
 ·have hn2:bU h=false:=by simpa using hn
  have hn':=hn2;unfold bU at hn';rw[U3]at hn'
  repeat'(first|refine gD ?_|(conv=>whnf);first|with_reducible refine Bf.D (fun hq=>?_) (fun hq=>?_)|refine Cl.mk (aJ _ _ _) ?_|refine Cl.mk (mR _) ?_|refine Cl.mk c9 ?_|refine Cl.mk c10 ?_)
  all_goals first
   | exact R0 (fun z=>[B z]) ((by unfold jd;rw[hn2];simp))
   |(exfalso;omega)
 have hn':=hn;unfold bU at hn';rw[C0]at hn';have hfin:jd h=sU h:=by unfold jd;rw[e1,e2,e3,e4,hmc,hca,hn,e9,e10];rfl
 rw[hfin];unfold sU;cases em:h.Meshing
 ·repeat'(first|refine gD ?_|(conv=>whnf);first|with_reducible (first|refine Bf.D (fun hq=>?_) (fun hq=>?_)|refine Bf.E (fun hq=>?_) (fun hq=>?_))|refine Cl.mk (aJ _ _ _) ?_|refine Cl.mk (mR _) ?_|refine Cl.mk c9 ?_|refine Cl.mk c10 ?_|refine Bf.f em ?_)
  all_goals first
   | exact R0 (fun z=>[B z]) ((by unfold qw;simp only[Bool.false_eq_true,if_false];first|(symm;exact P0 (by omega))|(rw[V3,beq_iff_eq,C0];omega)))
   |(exfalso;omega)
 ·cases e12:iR h.Job<;>rw[e12]at c12
  all_goals
   repeat'(first|refine gD ?_|(conv=>whnf);first|with_reducible (first|refine Bf.D (fun hq=>?_) (fun hq=>?_)|refine Bf.D (fun hq=>?_) (fun hq=>?_))|refine Cl.mk (aJ _ _ _) ?_|refine Cl.mk (mR _) ?_|refine Cl.mk c9 ?_|refine Cl.mk c10 ?_|refine Cl.mk c12 ?_|refine Cl.mk c13 ?_|refine Cl.mk c14 ?_|refine Bf.t em ?_)
   all_goals first
    | exact R0 (fun z=>[B z]) ((by grind))
    |(exfalso;omega)
theorem gy {α:Type} [Inhabited α] {xs:List α} {f:α->Int} (hn:(xs.map f).Nodup) {i j:Nat} (hi:i<xs.length) (hj:j<xs.length) (h:f (nth xs i)=f (nth xs j)):i=j:=by
 have h1:=List.pairwise_iff_getElem.1 hn;rcases Nat.lt_trichotomy i j with hlt|rfl|hlt
 ·have:=h1 i j (by simpa using hi) (by simpa using hj) hlt
  simp only[List.getElem_map]at this;rw[bq (Q1 hi),bq (Q1 hj)]at h;exact absurd h this
 ·rfl
 ·have:=h1 j i (by simpa using hj) (by simpa using hi) hlt
  simp only[List.getElem_map]at this;rw[bq (Q1 hi),bq (Q1 hj)]at h;exact absurd h.symm this
theorem bc {α:Type} [Inhabited α] {xs:List α} {x:α} (h:x∈xs):∃ i,i<xs.length/\nth xs i=x:=by
 obtain⟨i,hi⟩:=List.mem_iff_getElem?.1 h;exact⟨i,(R1.1 hi).1,bq hi⟩
theorem w5:∀ {H L:List Int},H.Nodup->(∀ x∈H,x∈L)->L.length<=H.length->∀ x∈L,x∈H
 | [],L,_,_,hl,x,hx=>by
  have:L=[]:=List.eq_nil_of_length_eq_zero (by simpa using hl);subst this;exact hx
 | y::H,L,hn,hs,hl,x,hx=>by
  have hy:y∈L:=hs y (I1 ..);have hn2:=List.nodup_cons.1 hn;by_cases hxy:x=y
  ·subst hxy;exact I1 ..
  ·refine List.mem_cons_of_mem _ (w5 (L:=L.erase y) hn2.2 (fun z hz=>?_) ?_ x ((List.mem_erase_of_ne hxy).2 hx))
   ·exact(List.mem_erase_of_ne (fun e:z=y=>hn2.1 (by rw[<-e];exact hz))).2 (hs z (List.mem_cons_of_mem _ hz))
   ·rw[List.length_erase_of_mem hy]
    simp only[List.length_cons]at hl;omega
theorem yu {H L:List Int} (hL:L.Nodup) (hs:∀ x∈H,x∈L):(H.Nodup/\H.length=L.length)↔∀ a∈L,H.count a=1:=by
 constructor
 ·rintro⟨hn,hl⟩ a ha
  have hm:=w5 hn hs (by omega) a ha;have h1:=List.nodup_iff_count.1 hn a;have h2:=List.count_pos_iff.2 hm;omega
 ·intro hc
  have hn:H.Nodup:=List.nodup_iff_count.2 fun a=>by
   by_cases ha:a∈H
   ·rw[hc a (hs a ha)];exact I2 1
   ·rw[List.count_eq_zero_of_not_mem ha];exact Q0 _
  refine⟨hn,?_⟩;have:H.Perm L:=List.perm_iff_count.2 fun a=>by
   by_cases ha:a∈L
   ·rw[hc a ha]
    have h1:=List.nodup_iff_count.1 hL a;have h2:=List.count_pos_iff.2 ha;omega
   ·rw[List.count_eq_zero_of_not_mem ha,List.count_eq_zero_of_not_mem fun h=>ha (hs a h)]
  exact this.length_eq
theorem dc {l:aA} {n:Nat} {p:Int} : p∈lpgs l n↔∃ k:Nat,k<n/\p=l.Page+(k:Nat):=by
 unfold lpgs;simp only[P3,List.mem_range];constructor
 ·rintro⟨k,hk,rfl⟩;exact⟨k,hk,rfl⟩
 ·rintro⟨k,hk,rfl⟩;exact⟨k,hk,rfl⟩
structure qY (sp:List au) (la:List aA):Prop where
 sok:∀ s∈sp,bf s=true
 lok:∀ l∈la,bS l=true
 nd:(sp.map (·.Page)).Nodup
 dis:∀ s∈sp,∀ l∈la,∀ k:Nat,k<l.Pages.toNat->s.Page≠l.Page+(k:Nat)
 one:∀ i j,i<la.length->j<la.length->∀ k k':Nat,k<(nth la i).Pages.toNat->k'<(nth la j).Pages.toNat->(nth la i).Page+(k:Nat)=(nth la j).Page+(k':Nat)->i=j
theorem qY.of {sp:List au} {la:List aA} (h:bg sp la=true):qY sp la:=by
 obtain⟨h1,h2,h3⟩:=cZ h;unfold pgs at h3;rw[List.nodup_append]at h3;obtain⟨h4,h5,h6⟩:=h3;have h7:=List.pairwise_flatMap.1 h5;refine⟨fun s hs=>z3.1 h1 s hs,fun l hl=>z3.1 h2 l hl,h4,fun s hs l hl k hk e=>?_,fun i j hi hj k k' hk hk' e=>?_⟩
 ·exact h6 _ (P3.2 ⟨s,hs,rfl⟩) _ (List.mem_flatMap.2 ⟨l,hl,dc.2 ⟨k,hk,rfl⟩⟩) e
 ·have h8:=List.pairwise_iff_getElem.1 h7.2
  have ei:=bq (Q1 hi);have ej:=bq (Q1 hj);rw[ei]at hk e;rw[ej]at hk' e;rcases Nat.lt_trichotomy i j with hlt|heq|hlt
  ·exact absurd e (h8 i j hi hj hlt _ (dc.2 ⟨k,hk,rfl⟩) _ (dc.2 ⟨k',hk',rfl⟩))
  ·exact heq
  ·exact absurd e.symm (h8 j i hj hi hlt _ (dc.2 ⟨k',hk',rfl⟩) _ (dc.2 ⟨k,hk,rfl⟩))
theorem fI {s:au} {a:Int} (hs:bf s=true):cy s a=true↔16*s.Page<=a/\a<=16*s.Page+15:=by
 unfold cy;rw[hs];simp
theorem iE {sp:List au} {la:List aA} (hL:qY sp la) {a:Int} {i:Nat} (hi:i<sp.length) (h:16*(nth sp i).Page<=a/\a<=16*(nth sp i).Page+15):denotes sp la a=oE i (nth sp i) a:=by
 refine lL hi ((fI (hL.sok _ (am hi))).2 h) fun j z hj hz=>?_
 cases e:cy z a with
 | false=>rfl
 | true=>
  exfalso;have hjl:=(R1.1 hz).1;have h2:=(fI (hL.sok z (O1 hz))).1 e;have hzj:=bq hz;subst hzj;have:=gy (f:=(·.Page)) hL.nd hi hjl (by omega);omega
theorem Mx {sp:List au} {la:List aA} (hL:qY sp la) {a:Int} (h:∀ i,i<sp.length->¬(16*(nth sp i).Page<=a/\a<=16*(nth sp i).Page+15)):∀ (j:Nat) (z:au),j<sp.length->sp[j]? = some z->cy z a=false:=by
 intro j z hj hz;cases e:cy z a with
 | false=>rfl
 | true=>
  have h2:=(fI (hL.sok z (O1 hz))).1 e;have hzj:=bq hz;subst hzj;exact absurd h2 (h j hj)
theorem HR {sp:List au} {la:List aA} (hL:qY sp la) (a:Int):a∈live0 sp la↔a∈gH sp la:=by
 have hS:a∈gH sp la↔∃ n:Nat,n<512/\jc sp la n=true/\(n:Int)=a:=by
  unfold gH kf;simp only[P3,Q3,List.mem_range];constructor
  ·rintro⟨n,⟨h1,h2⟩,h3⟩;exact⟨n,h1,h2,h3⟩
  ·rintro⟨n,h1,h2,h3⟩;exact⟨n,⟨h1,h2⟩,h3⟩
 rw[hS];unfold live0 eE;rw[C2,List.mem_flatMap,P3];constructor
 ·rintro(⟨s,hs,ha⟩|⟨l,hl,rfl⟩)
  ·obtain⟨i,hi,rfl⟩:=bc hs
   unfold d7 at ha;obtain⟨k,hk,rfl⟩:=P3.1 ha;obtain⟨hk1,hk2⟩:=Q3.1 hk;have hk1:=List.mem_range.1 hk1;have hc:=aG (hL.sok _ hs);have hsc:=yx ⟨hc.2.2.1,hc.2.2.2⟩;have hsb:=qR (nth sp i).Class;unfold jC;have hbd:0<=(k:Int)*csz (nth sp i).Class/\(k:Int)*csz (nth sp i).Class<=15:=by
    rcases cj ⟨hc.2.2.1,hc.2.2.2⟩ with e|e|e|e<;>rw[e]at hsc |-<;>omega
   have hd:=iE hL hi (a:=16*(nth sp i).Page+(k:Nat)*csz (nth sp i).Class) (by omega);have hq:(16*(nth sp i).Page+(k:Nat)*csz (nth sp i).Class - 16*(nth sp i).Page) / csz (nth sp i).Class=(k:Nat)/\(16*(nth sp i).Page+(k:Nat)*csz (nth sp i).Class - 16*(nth sp i).Page) % csz (nth sp i).Class=0:=by
    rcases cj ⟨hc.2.2.1,hc.2.2.2⟩ with e|e|e|e<;>rw[e]<;>omega
   refine⟨(16*(nth sp i).Page+(k:Nat)*csz (nth sp i).Class).toNat,by omega,?_,by omega⟩;have hcast:(((16*(nth sp i).Page+(k:Nat)*csz (nth sp i).Class).toNat:Nat):Int)=16*(nth sp i).Page+(k:Nat)*csz (nth sp i).Class:=by omega
   unfold jc;rw[hcast,hd];simp only[oE,hq.1,hq.2,hk2]
   rfl
  ·obtain⟨i,hi,rfl⟩:=bc hl
   have hf:=aV (hL.lok _ hl);have hf2:=cw (hL.lok _ hl);have h1:=Mx hL (a:=16*(nth la i).Page) fun j hj he=>hL.dis _ (am hj) _ hl 0 (by omega) (by omega)
   have hh:bz (nth la i) (16*(nth la i).Page)=true:=by
    unfold bz;rw[hL.lok _ hl,O0 (by omega)];rfl
   have hd:=kP (a:=16*(nth la i).Page) (I2 _) h1 hi hh fun j z hj hz=>by
    cases e:bz z (16*(nth la i).Page) with
    | false=>rfl
    | true=>
     exfalso;have hjl:=(R1.1 hz).1;have hzm:=O1 hz;have hzj:=bq hz;subst hzj;have hf3:=aV (hL.lok _ hzm);have hlo:=hL.lok _ hzm;unfold bS at hlo;rw[C0]at hlo;unfold bz at e;rw[I0,C0]at e;have:=hL.one i j hi hjl 0 ((nth la i).Page - (nth la j).Page).toNat (by omega) (by omega) (by omega);omega
   refine⟨(16*(nth la i).Page).toNat,by omega,?_,by omega⟩;have hcast:(((16*(nth la i).Page).toNat:Nat):Int)=16*(nth la i).Page:=by omega
   unfold jc;rw[hcast,hd];simp
 ·rintro⟨n,hn,hl,rfl⟩
  cases h1:sp.findIdx? (cy · (n:Nat)) with
  | some i=>
   obtain⟨hi,hp,-⟩:=List.findIdx?_eq_some_iff_getElem.1 h1;have hi':=bq (Q1 hi);rw[<-hi']at hp;have hs:=hL.sok _ (am hi);have h2:=(fI hs).1 hp;have hc:=aG hs;have hsc:=yx ⟨hc.2.2.1,hc.2.2.2⟩;have hd:denotes sp la (n:Nat)=oE i (nth sp i) (n:Nat):=by unfold denotes;rw[h1]
   rw[pS hd]at hl;simp only[I0,Bool.or_eq_true,C0]at hl;simp only[oE]at hl;cases hh:aY (nth sp i).Bits (((n:Int) - 16*(nth sp i).Page) / csz (nth sp i).Class) with
   | false=>rw[hh]at hl;simp at hl
   | true=>
    have hz:((n:Int) - 16*(nth sp i).Page) % csz (nth sp i).Class=0:=hl.1;refine .inl ⟨nth sp i,am hi,?_⟩;unfold d7;refine P3.2 ⟨(((n:Int) - 16*(nth sp i).Page) / csz (nth sp i).Class).toNat,Q3.2 ⟨List.mem_range.2 ?_,?_⟩,?_⟩
    ·rcases cj ⟨hc.2.2.1,hc.2.2.2⟩ with e|e|e|e<;>rw[e]at hsc hz |-<;>omega
    ·have:((((n:Int) - 16*(nth sp i).Page) / csz (nth sp i).Class).toNat:Int)=((n:Int) - 16*(nth sp i).Page) / csz (nth sp i).Class:=by
      rcases cj ⟨hc.2.2.1,hc.2.2.2⟩ with e|e|e|e<;>rw[e]<;>omega
     rw[this];exact hh
    ·unfold jC
     rcases cj ⟨hc.2.2.1,hc.2.2.2⟩ with e|e|e|e<;>rw[e]at hz |-<;>omega
  | none=>
   cases h2:la.findIdx? (bz · (n:Nat)) with
   | some i=>
    obtain⟨hi,hp,-⟩:=List.findIdx?_eq_some_iff_getElem.1 h2;have hd:denotes sp la (n:Nat) = ⟨3,i,0,(n:Nat) - 16*(nth la i).Page⟩:=by unfold denotes;rw[h1,h2]
    rw[pS hd]at hl;simp only[I0,C0]at hl;exact .inr ⟨nth la i,am hi,by have:=hl.1;omega⟩
   | none=>
    have hd:denotes sp la (n:Nat) = ⟨0,0,0,0⟩:=by unfold denotes;rw[h1,h2]
    rw[pS hd]at hl;simp at hl
theorem tW {sp:List au} {la:List aA} (hL:qY sp la) {a:Int} (h0:(denotes sp la a).Offset=0) (hk:(denotes sp la a).Kind=1\/(denotes sp la a).Kind=3):a∈gH sp la:=by
 have hb:0<=a/\a<512:=by
  unfold denotes at h0 hk;cases h1:sp.findIdx? (cy · a) with
  | some i=>
   obtain⟨hi,hp,-⟩:=List.findIdx?_eq_some_iff_getElem.1 h1;have hm:=List.getElem_mem hi;have h2:=(fI (hL.sok _ hm)).1 hp;have hc:=aG (hL.sok _ hm);omega
  | none=>
   rw[h1]at h0 hk;cases h2:la.findIdx? (bz · a) with
   | some i=>
    obtain⟨hi,-⟩:=List.findIdx?_eq_some_iff_getElem.1 h2;rw[h2]at h0;have hf:=aV (hL.lok _ (am hi));simp only at h0;omega
   | none=>rw[h2]at hk;simp at hk
 have hc:((a.toNat:Nat):Int)=a:=by omega
 unfold gH kf;refine P3.2 ⟨a.toNat,Q3.2 ⟨List.mem_range.2 (by omega),?_⟩,hc⟩;unfold jc;rw[hc];simp only[I0,Bool.or_eq_true,C0];exact⟨h0,hk⟩
theorem nL (sp:List au) (la:List aA):(gH sp la).Nodup:=by
 unfold gH kf List.Nodup;rw[List.pairwise_map];exact(List.nodup_range.sublist List.filter_sublist).imp fun h e=>h (by omega)
theorem rH {h:ab} (hL:qY h.Spans h.Larges) {a c:Int} (hh:cW h a c=true):a∈gH h.Spans h.Larges:=by
 unfold cW at hh;simp only[I0,C0]at hh;exact tW hL hh.1.2 (.inl hh.1.1)
theorem Kh {h:ab} (hL:qY h.Spans h.Larges) {o:bO} (hh:jo h o=true):o.Addr∈gH h.Spans h.Larges:=by
 unfold jo at hh;simp only[I0,Bool.or_eq_true,C0]at hh;exact tW hL hh.1 (hh.2.elim (fun e=>.inl e.1) (fun e=>.inr e.1))
theorem EA (h:ab) (a:Int):(lc h).count a=(holders h).count a:=by
 unfold lc holders;simp only[List.count_append];omega
theorem kw (h:ab):fY h=true↔(h.Caches.all (dQ h)=true/\h.Quar.Lst.all (gx h)=true)/\(aL h.Mail).all (jl h)=true:=by
 unfold fY;simp only[I0]
theorem pY {h:ab} (hL:qY h.Spans h.Larges) (ho:en h=true) (hh:fY h=true):∀ a∈holders h,a∈gH h.Spans h.Larges:=by
 obtain⟨⟨h1,h2⟩,h3⟩:=(kw h).1 hh;intro a ha;unfold holders at ha;simp only[C2]at ha;rcases ha with((ha|ha)|ha)|ha
 ·obtain⟨o,hom,rfl⟩:=P3.1 ha
  obtain⟨i,hi,rfl⟩:=bc hom;have h4:=dB ho hi;unfold objAt at h4;rw[I0]at h4;exact Kh hL h4.2
 ·unfold ch at ha
  obtain⟨c,hc,ha⟩:=List.mem_flatMap.1 ha;obtain⟨l,hl,ha⟩:=List.mem_flatten.1 ha;obtain⟨k,hk,rfl⟩:=bc hl;have h4:=z3.1 h1 c hc;unfold dQ at h4;have h5:=z3.1 (show(nth c.Lists k).all _=true from dB h4 hk) a ha;exact rH hL h5
 ·obtain⟨x,hx,rfl⟩:=P3.1 ha
  exact rH hL (z3.1 h2 x hx)
 ·exact rH hL (z3.1 h3 a ha)
theorem Gf {h:ab} (hlay:bg h.Spans h.Larges=true) (ho:en h=true):(kx h&&gV h)=iN h:=by
 have hL:=qY.of hlay;have hq:(kx h=true/\h.Quar.Lst.all (gx h)=true)↔h.Quar.Lst.all (ql h)=true:=by
  unfold kx ql;simp only[z3,I0];exact⟨fun e x hx=>⟨e.2 x hx,e.1 x hx⟩,fun e=>⟨fun x hx=>(e x hx).2,fun x hx=>(e x hx).1⟩⟩
 have hI:iN h=true↔((h.Caches.all (dQ h)=true/\h.Quar.Lst.all (ql h)=true)/\(aL h.Mail).all (jl h)=true)/\∀ a∈gH h.Spans h.Larges,(holders h).count a=1:=by
  unfold iN;simp only[I0];refine and_congr Iff.rfl ?_;simp only[z3,C0,EA];unfold m8 sorted;simp only[List.mem_mergeSort,HR hL]
 have hSS:gV h=true↔fY h=true/\((holders h).Nodup/\(holders h).length=(gH h.Spans h.Larges).length):=by
  unfold gV;simp only[I0,C0,and_assoc]
 rw[V3,I0,hI,hSS];constructor
 ·rintro⟨h1,h2,h3⟩
  obtain⟨⟨h4,h5⟩,h6⟩:=(kw h).1 h2;exact⟨⟨⟨h4,hq.1 ⟨h1,h5⟩⟩,h6⟩,(yu (nL ..) (pY hL ho h2)).1 h3⟩
 ·rintro⟨⟨⟨h1,h2⟩,h3⟩,h4⟩
  obtain⟨h5,h6⟩:=hq.2 h2;have h7:fY h=true:=(kw h).2 ⟨⟨h1,h6⟩,h3⟩;exact⟨h5,h7,(yu (nL ..) (pY hL ho h7)).2 h4⟩
theorem iv (s t:au):meshable s t=meshable t s:=by
 unfold meshable;rw[Bool.and_comm (bf s)]
 congr 1
 refine decide_eq_decide.2 ?_;rw[Nat.and_comm];exact⟨fun h=>⟨h.1.symm,fun e=>h.2.1 e.symm,h.2.2⟩,fun h=>⟨h.1.symm,fun e=>h.2.1 e.symm,h.2.2⟩⟩
theorem dx {t:aE} {f:Int} {p:Nat} : (p:Int)∈pagesOn t f↔p<t.Entries.length/\(nth t.Entries p).Mode≠0/\(nth t.Entries p).Frame=f:=by
 unfold pagesOn im;simp only[P3,Q3,List.mem_range];constructor
 ·rintro⟨n,⟨h1,h2⟩,h3⟩
  obtain rfl:n=p:=by omega
  unfold GR at h2;rw[C0]at h2;exact⟨h1,h2⟩
 ·rintro⟨h1,h2⟩
  exact⟨p,⟨h1,by unfold GR;rw[C0];exact h2⟩,rfl⟩
theorem sI {t:aE} {f q:Int} (h:q∈pagesOn t f):∃ p:Nat,q=(p:Nat):=by
 unfold pagesOn im at h;obtain⟨n,-,rfl⟩:=P3.1 h;exact⟨n,rfl⟩
theorem qo {h:ab} (hp:pages0 h=true):(∀ i,i<h.Larges.length->∀ k:Nat,k<(nth h.Larges i).Pages.toNat->(aS h ((nth h.Larges i).Page+(k:Nat))).length=1)/\(∀ p∈pgs h.Spans h.Larges,p<dG h)/\∀ p:Nat,p<dG h->((nth (tbl h).Entries p).Mode≠0↔(p:Int)∈pgs h.Spans h.Larges):=by
 unfold pages0 at hp;simp only[I0]at hp;obtain⟨⟨⟨-,h1⟩,h2⟩,h3⟩:=hp;refine⟨fun i hi k hk=>?_,fun p hp=>?_,fun p hp=>?_⟩
 ·have h4:=dB h1 hi
  unfold rM at h4;rw[I0]at h4;have h5:=dB h4.2 hk;unfold uk at h5;rw[C0]at h5;exact h5
 ·have:=z3.1 h2 p hp
  rw[C0]at this;exact this
 ·have h4:=dB h3 hp
  unfold tI at h4;rw[I0,C0]at h4;exact h4.1
theorem u9 {h:ab} {p:Nat} (hp:p<dG h):ar (tbl h) (p:Nat)=nth (tbl h).Entries p:=kO hp
theorem ef {h:ab} {p:Nat} (hp:p<dG h) (hm:(nth (tbl h).Entries p).Mode≠0):aS h (p:Nat)=pagesOn (tbl h) (nth (tbl h).Entries p).Frame:=by
 unfold aS;rw[show h.Kernel.Machine.Table=tbl h from rfl,u9 hp,if_neg hm]
theorem sf {h:ab} (hL:qY h.Spans h.Larges) {j:Nat} (hj:j<h.Spans.length):fV h (nth h.Spans j).Page=(j:Nat):=by
 unfold fV;refine dR (ah hj) (by unfold ja;simp) fun k z hk hz=>?_
 have hzk:=bq hz;have hkl:=(R1.1 hz).1;subst hzk;unfold ja;refine P0 fun e=>?_
 have:=gy (f:=(·.Page)) hL.nd hkl hj e;omega
theorem xW {h:ab} (hlay:bg h.Spans h.Larges=true) (hp:pages0 h=true):qQ h=mC h:=by
 have hL:=qY.of hlay;obtain⟨f1,f2,f3⟩:=qo hp;have hpg:∀ i,i<h.Spans.length->∃ p:Nat,(nth h.Spans i).Page=(p:Nat)/\p<dG h/\(nth (tbl h).Entries p).Mode≠0:=fun i hi=>by
  have hc:=aG (hL.sok _ (am hi));have hm:(nth h.Spans i).Page∈pgs h.Spans h.Larges:=by
   unfold pgs;exact C2.2 (.inl (P3.2 ⟨_,am hi,rfl⟩))
  have hlt:=f2 _ hm;refine⟨(nth h.Spans i).Page.toNat,by omega,by omega,?_⟩;refine(f3 _ (by omega)).2 ?_;rw[show(((nth h.Spans i).Page.toNat:Nat):Int)=(nth h.Spans i).Page by omega];exact hm
 rw[V3];unfold qQ mC;rw[cn,cn];constructor
 ·intro hs i hi
  rw[cn];intro j hj;have hjl:j<h.Spans.length:=by omega
  unfold j8;rw[Bool.or_eq_true,C0];by_cases hfr:(ar (tbl h) (nth h.Spans i).Page).Frame=(ar (tbl h) (nth h.Spans j).Page).Frame
  ·right
   obtain⟨p,hp1,hp2,hp3⟩:=hpg i hi;obtain⟨q,hq1,hq2,hq3⟩:=hpg j hjl;have h1:=z3.1 (hs i hi);rw[hp1,hq1,u9 hp2,u9 hq2]at hfr;have h2:(q:Int)∈aS h (nth h.Spans i).Page:=by
    rw[hp1,ef hp2 hp3];exact dx.2 ⟨hq2,hq3,hfr.symm⟩
   have h3:=h1 _ h2;unfold kC at h3;rw[<-hq1,sf hL hjl]at h3;rw[Bool.or_eq_true,I0,C0]at h3;rcases h3 with h3|h3
   ·omega
   ·simpa using h3.2
  ·exact .inl hfr
 ·intro hi0 i hi
  rw[z3];intro q hq;obtain⟨p,hp1,hp2,hp3⟩:=hpg i hi;have hq0:=hq;rw[hp1,ef hp2 hp3]at hq;obtain⟨q',rfl⟩:=sI hq;obtain⟨hq2,hq3,hq4⟩:=dx.1 hq;have hqm:=(f3 q' hq2).1 hq3;unfold pgs at hqm;rw[C2,P3,List.mem_flatMap]at hqm;rcases hqm with⟨s,hs,hsp⟩|⟨l,hl,hlp⟩
  ·obtain⟨j,hj,rfl⟩:=bc hs
   unfold kC;rw[<-hsp,sf hL hj];rw[Bool.or_eq_true,I0,C0,C0];have hfr:(ar (tbl h) (nth h.Spans i).Page).Frame=(ar (tbl h) (nth h.Spans j).Page).Frame:=by
    rw[hp1,hsp,u9 hp2,u9 hq2,hq4]
   rcases Nat.lt_trichotomy j i with hlt|heq|hlt
   ·have h1:=dB (hi0 i hi) hlt
    unfold j8 at h1;rw[Bool.or_eq_true,C0]at h1;exact .inr ⟨by omega,by simpa using h1.resolve_left fun e=>e hfr⟩
   ·exact .inl (by omega)
   ·have h1:=dB (hi0 j hj) hlt
    unfold j8 at h1;rw[Bool.or_eq_true,C0]at h1;exact .inr ⟨by omega,by rw[iv];simpa using h1.resolve_left fun e=>e hfr.symm⟩
  ·exfalso
   obtain⟨i2,hi2,rfl⟩:=bc hl;obtain⟨k,hk,hkp⟩:=dc.1 hlp;have h1:=f1 i2 hi2 k hk;rw[<-hkp,ef hq2 hq3]at h1;have m1:(q':Int)∈pagesOn (tbl h) (nth (tbl h).Entries q').Frame:=dx.2 ⟨hq2,hq3,rfl⟩;have m2:(p:Int)∈pagesOn (tbl h) (nth (tbl h).Entries q').Frame:=dx.2 ⟨hp2,hp3,hq4.symm⟩;obtain⟨z,hz⟩:=List.length_eq_one_iff.1 h1;rw[hz]at m1 m2;simp only[X0]at m1 m2;have:=hL.dis _ (am hi) _ (am hi2) k hk;omega
theorem oB (h:ab):jd h=dm h:=by
 unfold jd dm iV;cases e1:a8 h.Kernel with
 | false=>rfl
 | true=>
  cases e2:bx (dG h) h.Free with
  | false=>rfl
  | true=>
   cases e3:bg h.Spans h.Larges with
   | false=>rfl
   | true=>
    cases e4:pages0 h with
    | false=>rfl
    | true=>
     rw[xW e3 e4];cases e5:en h with
     | false=>simp
     | true=>
      have:=Gf e3 e5;rw[<-this];cases mC h<;>cases cU h<;>cases kx h<;>cases h.Caches.all bn<;>cases bU h<;>cases gV h<;>cases sU h<;>rfl
def ovl (y r:a7):Bool:=decide (y.At<r.At+r.Len/\r.At<y.At+y.Len)
def lb (r:a7):List a7->Bool->Option (List a7)
 | [],put=>some (if put then [] else [r])
 | y::ys,put=>if ovl y r then none else if !put&&decide (y.At > r.At) then(lb r ys true).map fun t=>r::y::t else(lb r ys put).map fun t=>y::t
def cT (out:List a7):List a7->List a7
 | []=>out
 | y::ys=>match out.getLast? with
  | some z=>if z.At+z.Len=y.At then cT (out.dropLast++[⟨z.At,z.Len+y.Len⟩]) ys else cT (out++[y]) ys
  | none=>cT (out++[y]) ys
def iX:List a7->a7->List a7->Bool->Option (List a7)
 | [],r,out,done=>some (if done then out else out++[r])
 | y::ys,r,out,done=>
  if ovl y r then none
  else if y.At+y.Len=r.At then iX ys ⟨y.At,y.Len+r.Len⟩ out done
  else if r.At+r.Len=y.At then iX ys ⟨r.At,r.Len+y.Len⟩ out done
  else if y.At > r.At/\done=false then iX ys r (out++[r,y]) true
  else iX ys r (out++[y]) done
def nH (xs:List a7):Prop:=xs.Pairwise (fun a b=>a.At+a.Len<b.At)/\∀ y∈xs,1<=y.Len
theorem nH.tail {y:a7} {ys:List a7} (h:nH (y::ys)):nH ys:=⟨(List.pairwise_cons.1 h.1).2,fun z hz=>h.2 z (List.mem_cons_of_mem _ hz)⟩
theorem nH.head {y:a7} {ys:List a7} (h:nH (y::ys)):∀ z∈ys,y.At+y.Len<z.At:=(List.pairwise_cons.1 h.1).1
theorem iz:∀ (ys out:List a7),nH ys->(∀ z,out.getLast? = some z->∀ y∈ys,z.At+z.Len≠y.At)->cT out ys=out++ys
 | [],out,_,_=>by simp[cT]
 | y::ys,out,hg,hl=>by
  have hrec:cT (out++[y]) ys=out++y::ys:=by
   rw[iz ys (out++[y]) hg.tail fun z hz w hw=>by
     simp at hz;subst hz;have:=hg.head w hw;omega]
   simp
  unfold cT;split
  ·rename_i z hz
   rw[if_neg (hl z hz y (I1 ..))];exact hrec
  ·exact hrec
theorem wc {r:a7} : ∀ {ys:List a7},nH ys->(∀ y∈ys,r.At+r.Len<=y.At)->lb r ys true=some ys
 | [],_,_=>rfl
 | y::ys,hg,hr=>by
  have h1:=hr y (I1 ..);unfold lb;rw[if_neg (by unfold ovl;rw[C0];omega)];simp only[Bool.not_true,Bool.false_and,Bool.false_eq_true,if_false];rw[wc hg.tail fun z hz=>hr z (List.mem_cons_of_mem _ hz)]
  rfl
theorem sY {r:a7} (h1:1<=r.Len) {ys:List a7} (hg:nH ys) (hr:∀ y∈ys,r.At+r.Len<=y.At):lb r ys false=some (r::ys):=by
 cases ys with
 | nil=>rfl
 | cons y ys=>
  have h2:=hr y (I1 ..);unfold lb;rw[if_neg (by unfold ovl;rw[C0];omega),if_pos (by simp;omega),wc hg.tail fun z hz=>hr z (List.mem_cons_of_mem _ hz)]
  rfl
theorem nY {r:a7} : ∀ {ys out:List a7},nH ys->1<=r.Len->(∀ y∈ys,r.At+r.Len<y.At)->iX ys r out true=some (out++ys)
 | [],out,_,_,_=>by simp[iX]
 | y::ys,out,hg,h1,hr=>by
  have h2:=hr y (I1 ..);have h3:=hg.2 y (I1 ..);unfold iX;rw[if_neg (by unfold ovl;rw[C0];omega),if_neg (by omega),if_neg (by omega),if_neg (by simp),nY hg.tail h1 fun z hz=>hr z (List.mem_cons_of_mem _ hz)];simp
theorem wy {r:a7} (h1:1<=r.Len) {ys out:List a7} (hg:nH ys) (hr:∀ y∈ys,r.At+r.Len<=y.At):iX ys r out false=some (out++match ys with|[]=>[r]|y::zs=>if r.At+r.Len=y.At then⟨r.At,r.Len+y.Len⟩::zs else r::y::zs):=by
 cases ys with
 | nil=>simp[iX]
 | cons y ys=>
  have h2:=hr y (I1 ..);have h3:=hg.2 y (I1 ..);unfold iX;rw[if_neg (by unfold ovl;rw[C0];omega),if_neg (by omega)];by_cases e:r.At+r.Len=y.At
  ·rw[if_pos e]
   simp only[e,if_true];cases ys with
   | nil=>simp[iX]
   | cons z ys=>
    have h4:=hg.head z (I1 ..);have h5:=hg.tail.2 z (I1 ..);unfold iX;simp only;rw[if_neg (by unfold ovl;rw[C0];simp only;omega),if_neg (by omega),if_neg (by omega),if_pos (by simp;omega),nY hg.tail.tail (by simp only;omega) fun w hw=>by
      have:=hg.tail.head w hw;simp only;omega]
    simp
  ·rw[if_neg e,if_pos (by simp;omega),nY hg.tail h1 fun z hz=>by have:=hg.head z hz;omega]
   simp[e]
theorem yF {pages:Int} : ∀ {ys:List a7} {r:a7} {out:List a7},nH ys->1<=r.Len->(∀ z,out.getLast? = some z->(∀ y∈ys,z.At+z.Len<y.At)/\z.At+z.Len<r.At)->(lb r ys false).map (cT out)=iX ys r out false
 | [],r,out,_,h1,hl=>by
  show some (cT out [r])=some (out++[r]);rw[iz [r] out ⟨List.pairwise_singleton ..,fun y hy=>by rw[X0.1 hy];exact h1⟩ fun z hz y hy=>by rw[X0.1 hy];have:=(hl z hz).2;omega]
 | y::ys,r,out,hg,h1,hl=>by
  have h3:=hg.2 y (I1 ..);by_cases ho:ovl y r=true
  ·unfold lb iX
   rw[if_pos ho,if_pos ho];rfl
  ·have ho':=ho
   unfold ovl at ho';rw[C0]at ho';by_cases hlr:r.At+r.Len<=y.At
   ·-- all to the right
    have hall:∀ w∈y::ys,r.At+r.Len<=w.At:=fun w hw=>by
     rcases List.mem_cons.1 hw with rfl|hw
     ·exact hlr
     ·have:=hg.head w hw;omega
    rw[sY h1 hg hall,wy h1 hg hall];show some (cT out (r::y::ys))=_;have hfirst:cT out (r::y::ys)=cT (out++[r]) (y::ys):=by
     conv=>lhs;unfold cT
     split
     ·rename_i z hz;rw[if_neg (by have:=(hl z hz).2;omega)]
     ·rfl
    rw[hfirst];by_cases e:r.At+r.Len=y.At
    ·have:cT (out++[r]) (y::ys)=cT (out++[⟨r.At,r.Len+y.Len⟩]) ys:=by
      conv=>lhs;unfold cT
      simp[e]
     rw[this,iz ys _ hg.tail fun z hz w hw=>by
       simp at hz;subst hz;have:=hg.head w hw;simp only;omega]
     simp[e]
    ·rw[iz (y::ys) (out++[r]) hg fun z hz w hw=>by
       simp at hz;subst hz;rcases List.mem_cons.1 hw with rfl|hw
       · exact e
       · have:=hg.head w hw;omega]
     simp[e]
   ·have hyl:y.At+y.Len<=r.At:=by omega
    have hstep:∀ t,cT out (y::t)=cT (out++[y]) t:=fun t=>by
     conv=>lhs;unfold cT
     split
     ·rename_i z hz;rw[if_neg (by have:=(hl z hz).1 y (I1 ..);omega)]
     ·rfl
    have hs:(lb r (y::ys) false).map (cT out)=(lb r ys false).map (cT (out++[y])):=by
     conv=>lhs;unfold lb
     rw[if_neg ho,if_neg (by simp;omega),Option.map_map]
     congr 1
     funext t
     exact hstep t
    rw[hs];unfold iX;rw[if_neg ho];by_cases e:y.At+y.Len=r.At
    ·rw[if_pos e]
     by_cases hov:∃ w,ys.head? = some w/\ovl w r=true
     ·obtain⟨w,hw,ho2⟩:=hov
      cases ys with
      | nil=>cases hw
      | cons w2 ws=>
       obtain rfl:w2=w:=by simpa using hw
       have g1:=hg.head w2 (I1 ..);have g2:=hg.tail.2 w2 (I1 ..);have ho3:=ho2;unfold ovl at ho3;rw[C0]at ho3;unfold lb iX;rw[if_pos ho2,if_pos (by unfold ovl;rw[C0];simp only;omega)]
       rfl
     ·have hall:∀ w∈ys,r.At+r.Len<=w.At:=by
       cases ys with
       | nil=>intro w hw;cases hw
       | cons w2 ws=>
        have g1:=hg.head w2 (I1 ..);have g2:=hg.tail.2 w2 (I1 ..);have h5:¬ovl w2 r=true:=fun h=>hov ⟨w2,rfl,h⟩
        unfold ovl at h5;rw[C0]at h5;intro w hw;rcases List.mem_cons.1 hw with rfl|hw
        ·omega
        ·have:=hg.tail.head w hw;omega
      rw[sY h1 hg.tail hall,wy (r:=⟨y.At,y.Len+r.Len⟩) (by simp only;omega) hg.tail fun w hw=>by have:=hall w hw;simp only;omega];show some (cT (out++[y]) (r::ys))=_;have hj:cT (out++[y]) (r::ys)=cT (out++[⟨y.At,y.Len+r.Len⟩]) ys:=by
       conv=>lhs;unfold cT
       simp[e]
      rw[hj];cases ys with
      | nil=>simp[cT]
      | cons w2 ws=>
       by_cases e2:y.At+(y.Len+r.Len)=w2.At
       ·have hj2:cT (out++[⟨y.At,y.Len+r.Len⟩]) (w2::ws)=cT (out++[⟨y.At,y.Len+r.Len+w2.Len⟩]) ws:=by
         conv=>lhs;unfold cT
         simp[e2]
        rw[hj2,iz ws _ hg.tail.tail fun z hz w hw=>by
          simp at hz;subst hz;have:=hg.tail.head w hw;simp only;omega]
        simp[e2]
       ·rw[iz (w2::ws) _ hg.tail fun z hz w hw=>by
          simp at hz;subst hz;simp only;rcases List.mem_cons.1 hw with rfl|hw
          · exact e2
          · have:=hg.tail.head w hw
            have:=hall w2 (I1 ..);have:=hg.tail.2 w2 (I1 ..);omega]
        simp[e2]
    ·rw[if_neg e,if_neg (by omega),if_neg (by omega)]
     exact yF (pages:=pages) hg.tail h1 fun z hz=>by
      simp at hz;subst hz;exact⟨hg.head,by omega⟩
def gk (k:af) (f:Int):af:=if(pagesOn k.Machine.Table f).length=0 then {k with Machine:=⟨⟨k.Machine.Frames.Cells.set f.toNat (List.replicate 16 0),k.Machine.Frames.Used.set f.toNat false⟩,k.Machine.Table⟩} else k
def jM (k:af) (p:Int):af:={k with Machine:=⟨k.Machine.Frames,⟨k.Machine.Table.Entries.set p.toNat ⟨0,0⟩⟩⟩}
def bZ (k:af) (p:Int):af:=if(ar k.Machine.Table p).Mode=0 then k else gk (jM k p) (ar k.Machine.Table p).Frame
def destr (k:af):Nat->af × Int
 | 0=>(k,0)
 | n+1=>if(ar (destr k n).1.Machine.Table n).Mode=0 then destr k n else(bZ (destr k n).1 n,(destr k n).2+1)
def destroyed (h:ab):af × Int:=if dm h=true/\h.Kernel.Calls≠100000 then destr h.Kernel h.Kernel.Machine.Table.Entries.length else(h.Kernel,0)
theorem cx {α:Type} [Inhabited α] (xs:List α) (i j:Nat) (x:α):nth (xs.set i x) j=if i=j/\j<xs.length then x else nth xs j:=by
 unfold nth;rw[V1,V1,Z2];by_cases h:i=j
 ·subst h
  by_cases h2:i<xs.length
  ·simp[h2]
  ·simp[h2]
 ·simp[h]
theorem oe (k:af) (f:Int):(gk k f).Machine.Table=k.Machine.Table/\(gk k f).Calls=k.Calls/\(gk k f).Refuse=k.Refuse/\(gk k f).Machine.Frames.Cells.length=k.Machine.Frames.Cells.length/\(gk k f).Machine.Frames.Used.length=k.Machine.Frames.Used.length:=by
 unfold gk;split<;>simp
theorem lF (k:af) (p:Int):(bZ k p).Machine.Table.Entries.length=k.Machine.Table.Entries.length/\(bZ k p).Calls=k.Calls/\(bZ k p).Refuse=k.Refuse:=by
 unfold bZ;split
 ·exact⟨rfl,rfl,rfl⟩
 ·obtain⟨h1,h2,h3,-⟩:=oe (jM k p) (ar k.Machine.Table p).Frame
  rw[h1,h2,h3];simp[jM]
theorem ot (k:af):∀ n,(destr k n).1.Machine.Table.Entries.length=k.Machine.Table.Entries.length/\(destr k n).1.Calls=k.Calls/\(destr k n).1.Refuse=k.Refuse/\0<=(destr k n).2/\(destr k n).2<=n
 | 0=>⟨rfl,rfl,rfl,Y3 _,Y3 _⟩
 | n+1=>by
  obtain⟨h1,h2,h3,h4,h5⟩:=ot k n;obtain⟨g1,g2,g3⟩:=lF (destr k n).1 n;unfold destr;split
  ·exact⟨h1,h2,h3,h4,by omega⟩
  ·exact⟨g1.trans h1,g2.trans h2,g3.trans h3,by simp only;omega,by simp only;omega⟩
theorem aB {k:af} : a8 k=true↔(∀ j,j<k.Refuse.length->0<=nth k.Refuse j)/\cq k.Machine.Frames=true/\f7 k.Machine.Table k.Machine.Frames.Used.length=true/\(∀ j,j<k.Machine.Frames.Used.length->nth k.Machine.Frames.Used j=decide (0<(pagesOn k.Machine.Table (j:Int)).length))/\0<=k.Calls/\k.Calls<=100000/\k.Refuse.length<=40:=by
 unfold a8 cX;simp only[I0,cn,C0,ne,beq_iff_eq,and_assoc]
theorem aU {f:aQ} : cq f=true↔1<=f.Cells.length/\f.Cells.length<=32/\f.Used.length=f.Cells.length/\∀ j,j<f.Cells.length->gM (nth f.Cells j) (nth f.Used j)=true:=by
 unfold cq;simp only[I0,C0,z3,and_assoc];refine and_congr Iff.rfl (and_congr Iff.rfl (and_congr_right fun hu=>⟨fun h j hj=>?_,fun h q hq=>?_⟩))
 ·exact h _ (O1 (tN (ah hj) (ah (by omega))))
 ·obtain⟨j,hj⟩:=List.mem_iff_getElem?.1 hq
  obtain⟨h1,h2⟩:=List.getElem?_zip_eq_some.1 hj;have:=h j (R1.1 h1).1
  rwa [bq h1,bq h2]at this
theorem bt {t:aE} {fr:Int} : f7 t fr=true↔(∀ j,j<t.Entries.length->jQ fr (nth t.Entries j)=true)/\1<=t.Entries.length/\t.Entries.length<=32:=by
 unfold f7;simp only[I0,cn,C0]
theorem ed {t:aE} {f:Int} : 0<(pagesOn t f).length↔∃ q,q<t.Entries.length/\(nth t.Entries q).Mode≠0/\(nth t.Entries q).Frame=f:=by
 unfold pagesOn im;rw[U0,List.length_pos_iff_exists_mem];simp[GR]
theorem ce {k:af} {p:Int} (h:a8 k=true) (hm:(ar k.Machine.Table p).Mode≠0):0<=p/\p<k.Machine.Table.Entries.length/\ar k.Machine.Table p=nth k.Machine.Table.Entries p.toNat/\0<=(ar k.Machine.Table p).Frame/\(ar k.Machine.Table p).Frame<k.Machine.Frames.Used.length:=by
 obtain⟨-,-,h3,-⟩:=aB.1 h;have hp:0<=p/\p<k.Machine.Table.Entries.length:=by
  by_cases hp:0<=p/\p<k.Machine.Table.Entries.length
  ·exact hp
  ·unfold ar at hm;rw[if_neg hp]at hm;exact absurd rfl hm
 have he:ar k.Machine.Table p=nth k.Machine.Table.Entries p.toNat:=by unfold ar;rw[if_pos hp]
 have:=(bt.1 h3).1 p.toNat (by omega);rw[he]at hm |-;unfold jQ at this;rw[C0]at this;exact⟨hp.1,hp.2,rfl,this.2.2.2 hm⟩
theorem mO {k:af} (p:Int) (h:a8 k=true):a8 (bZ k p)=true:=by
 unfold bZ;split
 ·exact h
 rename_i hm;obtain⟨hp0,hp1,he,hf0,hf1⟩:=ce h hm;obtain⟨h1,h2,h3,h4,h5,h6,h7⟩:=aB.1 h;obtain⟨g1,g2,g3,g4⟩:=aU.1 h2;obtain⟨t1,t2,t3⟩:=bt.1 h3;rw[he]at hm hf0 hf1 |-;generalize hfe:(nth k.Machine.Table.Entries p.toNat).Frame=f at hf0 hf1;have hent:∀ q,nth (k.Machine.Table.Entries.set p.toNat ⟨0,0⟩) q=if p.toNat=q then⟨0,0⟩ else nth k.Machine.Table.Entries q:=fun q=>by
  rw[cx];by_cases hq:p.toNat=q
  ·rw[if_pos ⟨hq,by omega⟩,if_pos hq]
  ·rw[if_neg (fun e=>hq e.1),if_neg hq]
 have hpos:∀ j:Int,0<(pagesOn (⟨k.Machine.Table.Entries.set p.toNat ⟨0,0⟩⟩ : aE) j).length↔∃ q,q<k.Machine.Table.Entries.length/\q≠p.toNat/\(nth k.Machine.Table.Entries q).Mode≠0/\(nth k.Machine.Table.Entries q).Frame=j:=fun j=>by
  rw[ed];simp only[Z0,hent]
  grind
 have hold:∀ j:Int,0<(pagesOn k.Machine.Table j).length↔∃ q,q<k.Machine.Table.Entries.length/\(nth k.Machine.Table.Entries q).Mode≠0/\(nth k.Machine.Table.Entries q).Frame=j:=fun j=>ed
 have htab:f7 ⟨k.Machine.Table.Entries.set p.toNat ⟨0,0⟩⟩ k.Machine.Frames.Used.length=true:=by
  rw[bt];simp only[Z0,hent];refine⟨fun j hj=>?_,t2,t3⟩;split
  ·unfold jQ;simp
  ·exact t1 j hj
 unfold gk;split
 ·rename_i hz
  rw[aB];simp only[jM,Z0]at hz |-;refine⟨h1,?_,htab,fun j hj=>?_,h5,h6,h7⟩
  ·rw[aU]
   simp only[Z0,cx];refine⟨g1,g2,g3,fun j hj=>?_⟩;by_cases hjf:f.toNat=j
   ·rw[if_pos ⟨hjf,hj⟩,if_pos ⟨hjf,by omega⟩];decide
   ·rw[if_neg (fun e=>hjf e.1),if_neg (fun e=>hjf e.1)];exact g4 j hj
  ·rw[cx]
   by_cases hjf:f.toNat=j
   ·rw[if_pos ⟨hjf,hj⟩]
    have:(j:Int)=f:=by omega
    rw[this];exact(P0 fun hh=>absurd hz (Nat.ne_of_gt hh)).symm
   ·rw[if_neg (fun e=>hjf e.1),h4 j hj]
    refine decide_eq_decide.2 ?_;rw[hold,hpos]
    grind
 ·rename_i hz
  rw[aB];simp only[jM]at hz |-;refine⟨h1,h2,htab,fun j hj=>?_,h5,h6,h7⟩;rw[h4 j hj];refine decide_eq_decide.2 ?_;by_cases hjf:f=j
  ·have h0:0<(pagesOn (⟨k.Machine.Table.Entries.set p.toNat ⟨0,0⟩⟩ : aE) j).length:=by rw[<-hjf];exact Nat.pos_of_ne_zero hz
   have:=(hpos j).1 h0;constructor
   ·intro _;exact h0
   ·intro _;rw[hold];grind
  ·rw[hold,hpos];grind
theorem eB {k:af} (h:a8 k=true):∀ n,a8 (destr k n).1=true
 | 0=>h
 | n+1=>by
  unfold destr;split
  ·exact eB h n
  ·exact mO _ (eB h n)
theorem bp {k:af} (h:a8 k=true):af.sml k:=by
 obtain⟨h1,h2,h3,h4,h5,h6,h7⟩:=aB.1 h;obtain⟨g1,g2,g3,g4⟩:=aU.1 h2;obtain⟨t1,t2,t3⟩:=bt.1 h3;refine⟨⟨⟨⟨by omega,fun r hr=>?_⟩,(by omega:_<=1048576)⟩,⟨by omega,fun e _=>trivial⟩⟩,(by omega:_<=1048576)⟩;obtain⟨j,hj⟩:=List.mem_iff_getElem?.1 hr;have:=g4 j (R1.1 hj).1;rw[bq hj]at this;unfold gM at this;simp only[I0,C0]at this;show r.length<=1048576;omega
theorem qz {h:ab} (hh:dm h=true):a8 h.Kernel=true:=by
 unfold dm iV at hh;simp only[I0]at hh
 grind
theorem Ap.cp {α:Type} {e:α->List C} {xs:List α} {sz by_:Nat} {K:List (List C)->Prop} (h2:∀ x,(e x).length=sz) (h3:∀ x,aW (e x)=true) (hl:xs.length<=1048576) (hb:by_<=1000) (hK:K (xs.map e)):Ap true [] (xs.map e) sz by_ K:=
 Ap.mk (fun r hr=>by cases hr) (fun r hr=>by obtain⟨y,-,rfl⟩:=P3.1 hr;exact h2 y) (fun _ r hr=>by obtain⟨y,-,rfl⟩:=P3.1 hr;exact h3 y) (by simp;omega) (by simp only[U0,List.length_nil,Nat.zero_add];exact wK hl hb) rfl hK
theorem Fl.cp {α:Type} {e:α->List C} {xs:List α} {sz by_:Nat} {X:Prop} (h2:∀ x,(e x).length=sz) (h3:∀ x,aW (e x)=true) (hl:xs.length<=1048576) (hb:by_<=1000) (hK:X):Fl (xs.map e) sz by_ X:=
 Fl.mk (fun r hr=>by obtain⟨y,-,rfl⟩:=P3.1 hr;exact⟨h2 y,h3 y⟩) (by simp;omega) (by simp only[U0];exact wK hl hb) hK
theorem Ap.sn {rows rs:List (List C)} {r:List C} {sz by_:Nat} {K:List (List C)->Prop} (h1:∀ r∈rows,r.length=sz) (h2:r.length=sz) (hl:rows.length+1<=1048576) (hb:by_<=1000) (hr:rs=rows++[r]) (hK:K rs):Ap false rows [r] sz by_ K:=
 Ap.mk h1 (fun r' hr=>by rw[X0.1 hr];exact h2) (fun h=>by cases h) (by simp;omega) (wK (by simpa using hl) hb) hr hK
theorem iB (xs:List Int) (hl:xs.length<=1048576):ao Tryz.prog 187 false [.val none (aF .imm xs)] .one (aF .own xs):=by
 refine fO 6 [] Tryz.func187 rfl ?_ (.inr (bK _))
 repeat'(first|refine gO ?_|(conv=>whnf);first|refine Ap.cp (fun _=>rfl) (fun _=>rfl) hl (by decide) ?_)
 rfl
theorem zV (t:aE) (hs:aE.sml t):ao Tryz.prog 339 false [.val (some 1) (aE.enc .imm t)] .agg (aE.enc .own t):=by
 have hl:=hs.1;refine fO 8 [] Tryz.func339 rfl ?_ (.inr (aE.enc_fr _))
 repeat'(first|refine gO ?_|(conv=>whnf);first|refine Ap.cp (fun _=>rfl) (fun _=>rfl) hl (by decide) ?_)
 rfl
theorem uM (t:aE) (hs:aE.sml t):ao Tryz.prog 262 false [.val (some 1) (aE.enc .imm t)] .agg (aE.enc .own t):=by
 have hl:=hs.1;refine fO 8 [] Tryz.func262 rfl ?_ (.inr (aE.enc_fr _))
 repeat'(first|refine gO ?_|(conv=>whnf);first|refine Ap.cp (fun _=>rfl) (fun _=>rfl) hl (by decide) ?_)
 rfl
theorem aO {α:Type} {e:α->List C} {l:List α} {n:Nat} (h:∀ x,(e x).length=n):∀ r∈l.map e,r.length=n:=fun r hr=>by
 obtain⟨y,-,rfl⟩:=P3.1 hr;exact h y
theorem eG {α β:Type} [Inhabited α] {xs:List α} {f:α->β} {i:Nat} (hi:i<xs.length):(xs.take (i+1)).map f=(xs.take i).map f++[f (nth xs i)]:=by
 rw[List.take_add_one,ah hi];simp
theorem Ao (f:aQ) (hs:aQ.sml f):ao Tryz.prog 338 false [.val (some 2) (aQ.enc .imm f)] .agg (aQ.enc .own f):=by
 have hl:=hs.1.1;have hu:f.Used.length<=1048576:=hs.2;refine fO 30 [(5,10,[17,18,19,20,21,22,23,24,25,26])] Tryz.func338 rfl ?_ (.inr (aQ.enc_fr _))
 repeat'(first|refine gO ?_|(conv=>whnf);first|refine Ap.cp (fun _=>rfl) (fun _=>rfl) hu (by decide) ?_)
 (conv=>whnf)
 refine Lp.mk (ι:=Nat) (fun i=>[(1,.hold .box (aQ.enc .imm f)),(2,.hold .box [.z,.z]),(3,.hold .box [.s .own ((f.Cells.take i).map (aF .own)),.s .own (f.Used.map (rB .own))]),(4,.hold .one [I ((i:Nat):Int)])]) (fun i=>i<=f.Cells.length) (fun i=>f.Cells.length - i) (0) ?_ (Q0 _) fun i hi=>?_
 ·exact wB
 by_cases li:i<f.Cells.length
 ·have hx:=ah li
  have hxl:(nth f.Cells i).length<=1048576:=hs.1.2 _ (am li)
  repeat'(first|refine gD ?_|(conv=>whnf);first|with_reducible refine Ix.nat (aa hx) ?_|refine Fl.cp (fun _=>rfl) (fun _=>rfl) hxl (by decide) ?_|refine Ap.sn (aO fun _=>rfl) rfl (by simp;omega) (by decide) (eG li) ?_)
  ((conv=>whnf);refine Nx.mk (i+1) (by omega) (by omega) ?_;(exact wB))
 ·repeat'(first|refine gD ?_|fail)
  obtain rfl:i=f.Cells.length:=by omega
  rw[List.take_length]
  rfl
theorem tA (f:aQ) (hs:aQ.sml f):ao Tryz.prog 261 false [.val (some 2) (aQ.enc .imm f)] .agg (aQ.enc .own f):=by
 have hl:=hs.1.1;have hu:f.Used.length<=1048576:=hs.2;refine fO 27 [(5,5,[18,19,20,21,22])] Tryz.func261 rfl ?_ (.inr (aQ.enc_fr _))
 repeat'(first|refine gO ?_|(conv=>whnf);first|refine Ap.cp (fun _=>rfl) (fun _=>rfl) hu (by decide) ?_)
 (conv=>whnf)
 refine Lp.mk (ι:=Nat) (fun i=>[(2,.hold .box [.z,.z]),(3,.hold .box [.s .own ((f.Cells.take i).map (aF .own)),.s .own (f.Used.map (rB .own))]),(12,.hold .one (ix .imm f.Cells)),(13,.hold .one [I (f.Cells.length)]),(14,.hold .one [I ((i:Nat):Int)])]) (fun i=>i<=f.Cells.length) (fun i=>f.Cells.length - i) (0) ?_ (Q0 _) fun i hi=>?_
 ·exact wB
 by_cases li:i<f.Cells.length
 ·have hx:=ah li
  have hxl:(nth f.Cells i).length<=1048576:=hs.1.2 _ (am li)
  repeat'(first|refine gD ?_|(conv=>whnf);first|with_reducible refine Ix.nat (aa hx) ?_|refine Cl.mk (iB (nth f.Cells i) hxl) ?_|refine Ap.sn (aO fun _=>rfl) rfl (by simp;omega) (by decide) (eG li) ?_)
  ((conv=>whnf);refine Nx.mk (i+1) (by omega) (by omega) ?_;(exact wB))
 ·repeat'(first|refine gD ?_|fail)
  obtain rfl:i=f.Cells.length:=by omega
  rw[List.take_length]
  rfl
theorem qG (m:aP) (hs:aP.sml m):ao Tryz.prog 288 false [.val (some 3) (aP.enc .imm m)] .agg (aP.enc .own m):=by
 refine fO 10 [(1,5,[3,4,5,6,7])] Tryz.func288 rfl ?_ (.inr (aP.enc_fr _))
 repeat'(first|refine gO ?_|(conv=>whnf);first|refine Cl.mk (Ao m.Frames hs.1) ?_|refine Cl.mk (zV m.Table hs.2) ?_)
 rfl
theorem ss (m:aP) (hs:aP.sml m):ao Tryz.prog 197 false [.val (some 3) (aP.enc .imm m)] .agg (aP.enc .own m):=by
 refine fO 10 [(1,5,[3,4,5,6,7])] Tryz.func197 rfl ?_ (.inr (aP.enc_fr _))
 repeat'(first|refine gO ?_|(conv=>whnf);first|refine Cl.mk (tA m.Frames hs.1) ?_|refine Cl.mk (uM m.Table hs.2) ?_)
 rfl
theorem zb (k:af) (hs:af.sml k):ao Tryz.prog 228 false [.val (some 5) (af.enc .imm k)] .agg (af.enc .own k):=by
 have hr:k.Refuse.length<=1048576:=hs.2;refine fO 13 [(1,9,[3,4,5,6,7,8,9,10,11])] Tryz.func228 rfl ?_ (.inr (af.enc_fr _))
 repeat'(first|refine gO ?_|(conv=>whnf);first|refine Cl.mk (qG k.Machine hs.1) ?_|refine Fl.cp (fun _=>rfl) (fun _=>rfl) hr (by decide) ?_)
 rfl
theorem iW (k:af) (hs:af.sml k):ao Tryz.prog 140 false [.val (some 5) (af.enc .imm k)] .agg (af.enc .own k):=by
 refine fO 12 [(1,8,[3,4,5,6,7,8,9,10])] Tryz.func140 rfl ?_ (.inr (af.enc_fr _))
 repeat'(first|refine gO ?_|(conv=>whnf);first|refine Cl.mk (ss k.Machine hs.1) ?_|refine Cl.mk (iB k.Refuse hs.2) ?_)
 rfl
theorem dD (k:af) (p:Int) (hs:aE.sml k.Machine.Table):ao Tryz.prog 348 false [.ptr (af.enc .imm k),.val none [I p]] .one [I (ar k.Machine.Table p).Mode]:=by
 refine fO 13 [] Tryz.func348 rfl ?_
 repeat'(first|refine gO ?_|(conv=>whnf);first|refine Cl.mk (cP k.Machine.Table p hs) ?_)
 rfl
theorem ky (k:af) (hs:af.sml k):ao Tryz.prog 305 false [.val (some 5) (af.enc .imm k)] .one [B (a8 k&&decide (k.Calls<100000))]:=by
 have h1:=kJ k hs;cases e:a8 k<;>rw[e]at h1
 ·refine fO 10 [] Tryz.func305 rfl ?_
  repeat'(first|refine gO ?_|(conv=>whnf);first|with_reducible refine Bf.D (fun hq=>?_) (fun hq=>?_)|refine Cl.mk (h1) ?_)
  all_goals rfl
 ·refine fO 10 [] Tryz.func305 rfl ?_
  repeat'(first|refine gO ?_|(conv=>whnf);first|refine Cl.mk (h1) ?_)
  all_goals rfl
theorem zO (k:af) (hs:af.sml k):ao Tryz.prog 226 false [.val (some 5) (af.enc .imm k)] .one [B (decide (k.Calls≠100000)&&a8 k)]:=by
 have h1:=kN k hs;refine fO 10 [] Tryz.func226 rfl ?_
 repeat'(first|refine gO ?_|(conv=>whnf);first|with_reducible (first|refine Bf.N (fun hq=>?_) (fun hq=>?_)|refine Bf.D (fun hq=>?_) (fun hq=>?_))|refine Cl.mk (h1) ?_)
 all_goals(exact R0 (fun z=>[B z]) ((by simp[*])))
theorem rP {k:af} {f:Int} (h:(pagesOn k.Machine.Table f).length=0):af.enc .own (gk k f)=[.s .own ((k.Machine.Frames.Cells.map (aF .own)).set f.toNat (aF .own (List.replicate 16 0))),.s .own ((k.Machine.Frames.Used.map (rB .own)).set f.toNat (rB .own false)),.s .own (k.Machine.Table.Entries.map (bj.enc .own)),I k.Calls,.s .own (k.Refuse.map (rI .own))]:=by
 unfold gk;rw[if_pos h];simp only[af.enc,List.map_set]
theorem wo {k:af} {f:Int} (h:¬(pagesOn k.Machine.Table f).length=0):af.enc .own (gk k f)=af.enc .own k:=by
 unfold gk;rw[if_neg h]
theorem qW (k:af) (f:Int) (hs:aE.sml k.Machine.Table) (hf:0<=f/\f<k.Machine.Frames.Cells.length/\f<k.Machine.Frames.Used.length) :
  aT Tryz.prog 349 false [.ptr (af.enc .own k),.val none [I f]] [.ptr (af.enc .own (gk k f)),.val none [I f]] (.tup []) []:=by
 have h1:=ah (xs:=k.Machine.Frames.Cells) (i:=f.toNat) (by omega);have h2:=ah (xs:=k.Machine.Frames.Used) (i:=f.toNat) (by omega);by_cases hz:(pagesOn k.Machine.Table f).length=0
 ·rw[rP hz]
  refine fM 30 [] [(2,8,[21,22,23,24,25,26,27,28])] [(0,0),(0,0)] Tryz.func349 rfl (fun u q=>?_) (.inr trivial)
  repeat'(first|refine gA ?_|(conv=>whnf);first|with_reducible (first|refine Ix.mk hf.1 (aa h2) ?_|refine Ix.mk hf.1 (aa h1) ?_)|refine Cl.eq (fZ k.Machine.Table f hs) ⟨⟨rfl,aE.enc_fz k.Machine.Table⟩,⟨rfl,rfl⟩,trivial⟩ ?_|refine Pu.one rfl rfl (aa h1) rfl (W0 rfl) rfl ?_|refine Pu.one rfl rfl (aa h2) rfl (W0 rfl) rfl ?_|refine Mk.mk 16 rfl rfl (by decide) (by decide) rfl ?_)
  refine aR.mk rfl rfl ?_;exact wB
 ·rw[wo hz]
  refine fM 30 [] [(2,8,[21,22,23,24,25,26,27,28])] [(0,0),(0,0)] Tryz.func349 rfl (fun u q=>?_) (.inr trivial)
  repeat'(first|refine gA ?_|(conv=>whnf);first|refine Cl.eq (fZ k.Machine.Table f hs) ⟨⟨rfl,aE.enc_fz k.Machine.Table⟩,⟨rfl,rfl⟩,trivial⟩ ?_)
  refine aR.mk rfl rfl ?_;exact wB
theorem yU (k:af) (f:Int) (hs:aE.sml k.Machine.Table) (hf:0<=f/\f<k.Machine.Frames.Cells.length/\f<k.Machine.Frames.Used.length) :
  aT Tryz.prog 227 false [.ptr (af.enc .own k),.val none [I f]] [.ptr (af.enc .own (gk k f)),.val none [I f]] (.tup []) []:=by
 have h1:=ah (xs:=k.Machine.Frames.Cells) (i:=f.toNat) (by omega);have h2:=ah (xs:=k.Machine.Frames.Used) (i:=f.toNat) (by omega);by_cases hz:(pagesOn k.Machine.Table f).length=0
 ·rw[rP hz]
  refine fM 30 [] [(2,8,[21,22,23,24,25,26,27,28])] [(0,0),(0,0)] Tryz.func227 rfl (fun u q=>?_) (.inr trivial)
  repeat'(first|refine gA ?_|(conv=>whnf);first|with_reducible (first|refine Ix.mk hf.1 (aa h2) ?_|refine Ix.mk hf.1 (aa h1) ?_)|refine Cl.eq (jh k.Machine.Table f hs) ⟨⟨rfl,aE.enc_fz k.Machine.Table⟩,⟨rfl,rfl⟩,trivial⟩ ?_|refine Pu.one rfl rfl (aa h1) rfl (W0 rfl) rfl ?_|refine Pu.one rfl rfl (aa h2) rfl (W0 rfl) rfl ?_|refine Mk.mk 16 rfl rfl (by decide) (by decide) rfl ?_)
  refine aR.mk rfl rfl ?_;exact wB
 ·rw[wo hz]
  refine fM 30 [] [(2,8,[21,22,23,24,25,26,27,28])] [(0,0),(0,0)] Tryz.func227 rfl (fun u q=>?_) (.inr trivial)
  repeat'(first|refine gA ?_|(conv=>whnf);first|refine Cl.eq (jh k.Machine.Table f hs) ⟨⟨rfl,aE.enc_fz k.Machine.Table⟩,⟨rfl,rfl⟩,trivial⟩ ?_)
  refine aR.mk rfl rfl ?_;exact wB
theorem uB (k:af) (p:Int):af.enc .own (jM k p)=[.s .own (k.Machine.Frames.Cells.map (aF .own)),.s .own (k.Machine.Frames.Used.map (rB .own)),.s .own ((k.Machine.Table.Entries.map (bj.enc .own)).set p.toNat (bj.enc .own ⟨0,0⟩)),I k.Calls,.s .own (k.Refuse.map (rI .own))]:=by
 unfold jM;simp only[af.enc,List.map_set]
theorem vG {k:af} {p:Int} (h:a8 k=true):aE.sml (jM k p).Machine.Table:=by
 obtain⟨t1,t2,t3⟩:=bt.1 (aB.1 h).2.2.1;exact⟨by simp only[jM,Z0];omega,fun _ _=>trivial⟩
theorem KG (k:af) (p:Int) (hk:a8 k=true) :
  aT Tryz.prog 297 false [.ptr (af.enc .own k),.val none [I p]] [.ptr (af.enc .own (bZ k p)),.val none [I p]] .one [B (decide ((ar k.Machine.Table p).Mode≠0))]:=by
 have hs:=bp hk;have c1:=dD k p hs.1.2;by_cases hm:(ar k.Machine.Table p).Mode=0
 ·rw[show bZ k p=k by unfold bZ;rw[if_pos hm]]
  refine fM 32 [(349,[2,0])] [] [(0,0),(0,0)] Tryz.func297 rfl (fun u q=>?_)
  repeat'(first|refine gA ?_|(conv=>whnf);first|refine Cl.eq (c1) ⟨af.enc_fz k,⟨rfl,rfl⟩,trivial⟩ ?_)
  refine aR.mk rfl ?_ ?_
  ·exact R0 (fun z=>[B z]) ((by simp[hm]))
  ·exact wB
 ·obtain⟨h0,h1,he,hf0,hf1⟩:=ce hk hm
  have hlen:=(aU.1 (aB.1 hk).2.1).2.2.1;rw[show bZ k p=gk (jM k p) (ar k.Machine.Table p).Frame by unfold bZ;rw[if_neg hm]];have c2:=qW (jM k p) (ar k.Machine.Table p).Frame (vG hk) ⟨hf0,by simp only[jM];omega,by simp only[jM];omega⟩;rw[uB]at c2;have hx:=ah (xs:=k.Machine.Table.Entries) (i:=p.toNat) (by omega);rw[he]at c1 c2 hm |-;refine fM 32 [(349,[2,0])] [] [(0,0),(0,0)] Tryz.func297 rfl (fun u q=>?_)
  repeat'(first|refine gA ?_|(conv=>whnf);first|with_reducible refine Ix.mk h0 (aa hx) ?_|refine Cl.eq (c1) ⟨af.enc_fz k,⟨rfl,rfl⟩,trivial⟩ ?_|refine Pu.one rfl rfl (aa hx) rfl (W0 rfl) rfl ?_|refine Rw.one rfl (aa hx) rfl ?_|refine cv.mk (c2) (.inl rfl) ?_)
  refine aR.mk rfl ?_ ?_
  ·exact R0 (fun z=>[B z]) ((by simp[hm]))
  ·exact wB
theorem Dc (k:af) (p:Int) (hk:a8 k=true) (hc:k.Calls≠100000) :
  ao Tryz.prog 141 false [.val (some 5) (af.enc .imm k),.val none [I p]] (.tup [some 5,none]) (af.enc .own (bZ k p)++[B (decide ((ar k.Machine.Table p).Mode≠0))]):=by
 have hs:=bp hk;have c1:=iW k hs;have c2:=zO k hs;have c3:=sA k p hs.1.2;rw[hk,O0 hc]at c2;by_cases hm:(ar k.Machine.Table p).Mode=0
 ·rw[show bZ k p=k by unfold bZ;rw[if_pos hm]]
  rw[P0 (by simpa using hm)]at c3 |-;refine fP 38 [(227,[2,0])] [] Tryz.func141 rfl ?_ (.inr (aK (af.enc_fr k) ⟨trivial,trivial⟩))
  repeat'(first|refine gO ?_|(conv=>whnf);first|refine Cl.mk (c1) ?_|refine Cl.mk (c2) ?_|refine Cl.mk (c3) ?_)
  all_goals rfl
 ·obtain⟨h0,h1,he,hf0,hf1⟩:=ce hk hm
  have hlen:=(aU.1 (aB.1 hk).2.1).2.2.1;rw[show bZ k p=gk (jM k p) (ar k.Machine.Table p).Frame by unfold bZ;rw[if_neg hm]];have c4:=yU (jM k p) (ar k.Machine.Table p).Frame (vG hk) ⟨hf0,by simp only[jM];omega,by simp only[jM];omega⟩;rw[uB]at c4;have hx:=ah (xs:=k.Machine.Table.Entries) (i:=p.toNat) (by omega);rw[O0 hm]at c3 |-;rw[he]at c4 |-;refine fP 38 [(227,[2,0])] [] Tryz.func141 rfl ?_ (.inr (aK (af.enc_fr _) ⟨trivial,trivial⟩))
  repeat'(first|refine gO ?_|(conv=>whnf);first|with_reducible refine Ix.mk h0 (aa hx) ?_|refine Cl.mk (c1) ?_|refine Cl.mk (c2) ?_|refine Cl.mk (c3) ?_|refine Pu.one rfl rfl (aa hx) rfl (W0 rfl) rfl ?_|refine Rw.one rfl (aa hx) rfl ?_|refine cv.mk (c4) (.inl rfl) ?_)
  all_goals rfl
theorem Gr {k:af} {n:Nat} (h:(ar (destr k n).1.Machine.Table n).Mode≠0):destr k (n+1)=(bZ (destr k n).1 n,(destr k n).2+1):=by
 rw[destr,if_neg h]
theorem Ku {k:af} {n:Nat} (h:(ar (destr k n).1.Machine.Table n).Mode=0):destr k (n+1)=destr k n:=by
 rw[destr,if_pos h]
theorem GV {k:af} {n:Int} (h:(ar k.Machine.Table n).Mode=0):bZ k n=k:=by
 unfold bZ;rw[if_pos h]
theorem si (h:ab) (hs:ab.sml h):ao Tryz.prog 54 false [.val (some 24) (ab.enc .imm h)] (.tup [some 5,none]) (af.enc .own (destroyed h).1++[I (destroyed h).2]):=by
 have c1:=jX h hs;rw[oB]at c1;have c2:=iW h.Kernel hs.1;have hlen:h.Kernel.Machine.Table.Entries.length<=1048576:=hs.1.1.2.1;cases e1:dm h<;>rw[e1]at c1
 ·rw[show destroyed h=(h.Kernel,0) by unfold destroyed;rw[if_neg (by simp[e1])]]
  refine fO 44 [] Tryz.func54 rfl ?_ (.inr (aK (af.enc_fr _) ⟨trivial,trivial⟩))
  repeat'(first|refine gO ?_|(conv=>whnf);first|refine Cl.mk (c1) ?_|refine Cl.mk (c2) ?_)
  all_goals rfl
 ·have hk:=qz e1
  by_cases hc:h.Kernel.Calls=100000
  ·rw[show destroyed h=(h.Kernel,0) by unfold destroyed;rw[if_neg (fun e=>e.2 hc)]]
   refine fO 44 [] Tryz.func54 rfl ?_ (.inr (aK (af.enc_fr _) ⟨trivial,trivial⟩))
   repeat'(first|refine gA ?_|(conv=>whnf);first|refine Cl.mk (c1) ?_|refine Cl.mk (c2) ?_)
   all_goals rfl
  ·rw[show destroyed h=destr h.Kernel h.Kernel.Machine.Table.Entries.length by unfold destroyed;rw[if_pos ⟨e1,hc⟩]]
   refine fO 44 [] Tryz.func54 rfl ?_ (.inr (aK (af.enc_fr _) ⟨trivial,trivial⟩))
   repeat'(first|refine gA ?_|(conv=>whnf);first|refine Cl.mk (c1) ?_|refine Cl.mk (c2) ?_)
   (conv=>whnf)
   refine Lp.mk (ι:=Nat) (fun i=>[(4,.hold .box (af.enc .own (destr h.Kernel i).1)),(2,.hold .box [.z,.z,.z,I 0,.z]),(3,.hold .one [I (0)]),(5,.hold .one [I ((destr h.Kernel i).2)]),(27,.hold .one [I (h.Kernel.Machine.Table.Entries.length)]),(28,.hold .one [I ((i:Nat):Int)])]) (fun i=>i<=h.Kernel.Machine.Table.Entries.length) (fun i=>h.Kernel.Machine.Table.Entries.length - i) (0) ?_ (Q0 _) fun i hi=>?_
   ·exact wB
   obtain⟨l1,l2,l3,l4,l5⟩:=ot h.Kernel i;by_cases li:i<h.Kernel.Machine.Table.Entries.length
   ·have c4:=Dc (destr h.Kernel i).1 i (eB hk i) (by rw[l2];exact hc)
    by_cases hm:(ar (destr h.Kernel i).1.Machine.Table i).Mode=0
    ·rw[P0 (by simpa using hm),GV hm]at c4
     have hd:=Ku hm
     repeat'(first|refine gD ?_|(conv=>whnf);first|refine Cl.eq (c4) ⟨⟨rfl,af.enc_fz _⟩,⟨rfl,rfl⟩,trivial⟩ ?_)
     (conv=>whnf)
     refine Nx.mk (i+1) (by omega) (by omega) ?_;rw[hd];exact wB
    ·rw[O0 hm]at c4
     have hd:=Gr hm
     repeat'(first|refine gD ?_|(conv=>whnf);first|refine Cl.eq (c4) ⟨⟨rfl,af.enc_fz _⟩,⟨rfl,rfl⟩,trivial⟩ ?_)
     (conv=>whnf)
     refine Nx.mk (i+1) (by omega) (by omega) ?_;rw[hd];exact wB
   ·obtain rfl:i=h.Kernel.Machine.Table.Entries.length:=by omega
    repeat'(first|refine gD ?_|fail)
    rfl
theorem Hd {h:ab} (hh:dm h=true):a8 h.Kernel=true/\bg h.Spans h.Larges=true/\pages0 h=true/\qQ h=true/\bC h.Mail=true/\(h.Caches.all bn=true/\h.Caches.length=h.Mail.Buffers.length)/\eN h.Quar=true/\en h=true/\fY h=true/\(holders h).Nodup/\(holders h).length=(gH h.Spans h.Larges).length:=by
 unfold dm iV cU gV at hh;simp only[I0,C0]at hh;obtain⟨⟨⟨⟨⟨⟨⟨⟨⟨⟨k1,-⟩,k2⟩,k3⟩,k4⟩,⟨⟨k5,k6⟩,k7⟩⟩,-⟩,k8⟩,-⟩,k9,⟨k10,k11⟩,k12⟩,-⟩:=hh;exact⟨k1,k2,k3,k4,k5,⟨k8,k6⟩,k7,k9,k10,k11,k12⟩
theorem Hm {h:ab} (hh:dm h=true):bU h=true:=by
 unfold dm at hh;simp only[I0]at hh;exact hh.1.1.2
def dz (n:Nat):aQ:=⟨List.replicate n (List.replicate 16 0),List.replicate n false⟩
def cV (n:Nat):aE:=⟨List.replicate n ⟨0,0⟩⟩
def bv (p f:Nat) (rf:List Int):af:=⟨⟨dz f,cV p⟩,0,rf⟩
def d6:aC:=⟨List.replicate 4 []⟩
def dy (n:Nat):aH:=⟨List.replicate n [],List.replicate n []⟩
def kv (p f t:Nat) (lim:Int) (rf:List Int):ab:=⟨bv p f rf,[⟨0,p⟩],[],[],[],List.replicate t d6,dy t,⟨16,[]⟩,0,0,lim,1,false,⟨⟨0,0,[]⟩,0,0⟩⟩
theorem cQ {α:Type} [Inhabited α] {n j:Nat} {y:α} (hj:j<n):nth (List.replicate n y) j=y:=bq (by rw[List.getElem?_replicate,if_pos hj])
theorem Jb (n:Nat) (f:Int):pagesOn (cV n) f=[]:=by
 unfold pagesOn im;rw[List.map_eq_nil_iff,List.filter_eq_nil_iff];intro i hi;have hi':i<n:=by simpa[cV] using hi
 unfold GR;rw[show nth (cV n).Entries i = ⟨0,0⟩ from cQ hi'];simp
theorem qe {p f:Nat} (hp:1<=p/\p<=32) (hf:1<=f/\f<=32):a8 (bv p f [])=true:=by
 rw[aB];refine⟨fun j hj=>by simp[bv]at hj,aU.2 ⟨by simp[bv,dz];omega,by simp[bv,dz];omega,by simp[bv,dz],fun j hj=>?_⟩,bt.2 ⟨fun j hj=>?_,by simp[bv,cV];omega,by simp[bv,cV];omega⟩,fun j hj=>?_,by simp[bv],by simp[bv],by simp[bv]⟩
 ·have hj':j<f:=by simpa[bv,dz] using hj
  rw[show nth (bv p f []).Machine.Frames.Cells j=List.replicate 16 0 from cQ hj',show nth (bv p f []).Machine.Frames.Used j=false from cQ hj']
  decide
 ·have hj':j<p:=by simpa[bv,cV] using hj
  rw[show nth (bv p f []).Machine.Table.Entries j = ⟨0,0⟩ from cQ hj'];unfold jQ;rw[C0];exact⟨by decide,by decide,fun _=>rfl,fun h=>absurd rfl h⟩
 ·have hj':j<f:=by simpa[bv,dz] using hj
  rw[show nth (bv p f []).Machine.Frames.Used j=false from cQ hj',show(bv p f []).Machine.Table=cV p from rfl,Jb]
  rfl
def lO (h:ab):ab:={kv (dG h) h.Kernel.Machine.Frames.Used.length h.Caches.length h.Limit [] with Kernel:=(destroyed h).1,Seed:=h.Seed,Clock:=h.Clock}
def eS (h:ab):Bool:=dm h&&decide (h.Kernel.Calls≠100000)
def reset (h:ab):ab:=if eS h then lO h else h
theorem nl {h:ab} (hh:dm h=true):1<=dG h/\dG h<=32/\1<=h.Kernel.Machine.Frames.Used.length/\h.Kernel.Machine.Frames.Used.length<=32/\1<=h.Caches.length/\h.Caches.length<=4/\0<=h.Limit/\h.Limit<=1000/\0<=h.Kernel.Calls/\h.Kernel.Calls<=100000:=by
 obtain⟨k1,-,-,-,k5,⟨-,k6⟩,-⟩:=Hd hh;obtain⟨-,q1,q2,-,q3,q4,-⟩:=aB.1 k1;obtain⟨f1,f2,f3,-⟩:=aU.1 q1;obtain⟨-,t1,t2⟩:=bt.1 q2;have hml:=jr k5;have hnm:=Hm hh;unfold bU at hnm;rw[C0]at hnm;exact⟨t1,t2,by omega,by omega,by omega,by omega,by omega,by omega,q3,q4⟩
theorem BB {p f t:Nat} {lim:Int} (hp:p<=32) (hf:f<=32) (ht:t<=4):ab.sml (kv p f t lim []):=by
 have hrep:∀ n:Nat,n<=1048576->∀ {α:Type} (a:α),(List.replicate n a).length<=1048576:=fun n hn α a=>by rw[W2];exact hn
 have e1:lr (List.replicate f (List.replicate 16 (0:Int))):=⟨hrep _ (by omega) _,fun y hy=>by rw[(List.mem_replicate.1 hy).2];exact hrep 16 (by decide) _⟩
 have e2:lr (List.replicate 4 ([]:List Int)):=⟨hrep _ (by decide) _,fun y hy=>by rw[(List.mem_replicate.1 hy).2];exact Q0 _⟩
 have e3:lr (List.replicate t ([]:List Int)):=⟨hrep _ (by omega) _,fun y hy=>by rw[(List.mem_replicate.1 hy).2];exact Q0 _⟩
 have e4:Bz (List.replicate f false):=hrep _ (by omega) _;have e5:wd (List.replicate p ⟨0,0⟩):=⟨hrep _ (by omega) _,fun _ _=>trivial⟩
 have e6:fT [⟨0,p⟩]:=⟨by show 1<=1048576;decide,fun _ _=>trivial⟩
 have e7:w9 (List.replicate t d6):=⟨hrep _ (by omega) _,fun y hy=>by rw[(List.mem_replicate.1 hy).2];exact e2⟩
 have e8:wG (List.replicate t ([]:List cS)):=⟨hrep _ (by omega) _,fun y hy=>by rw[(List.mem_replicate.1 hy).2];exact⟨Q0 _,fun _ _=>trivial⟩⟩
 exact⟨⟨⟨⟨e1,e4⟩,e5⟩,Q0 _⟩,e6,⟨Q0 _,fun _ _=>trivial⟩,⟨Q0 _,fun _ _=>trivial⟩,⟨Q0 _,fun _ _=>trivial⟩,e7,⟨e8,e3⟩,⟨Q0 _,fun _ _=>trivial⟩,Q0 _⟩
theorem D8 (w:World) (q:Nat) (os:Array Obj):bH NO w (Sort.grow (w.drewN q) os):=by
 have hb:∀ b,b<w.heap.size->(Sort.grow (w.drewN q) os).heap[b]? = w.heap[b]?:=fun b hb=>Sort.heap_grow_old (w.drewN q) os hb
 refine⟨rfl,rfl,rfl,by show w.heap.size<=(w.heap++os).size;simp,fun b h _=>hb b h,fun b o h _=>?_,fun b o h _=>?_⟩
 ·show World.cell? _ _=World.cell? w _
  unfold World.cell?;simp only[hb b h]
 ·refine Prod.ext ?_ ?_
  ·show World.frozen? _ _=World.frozen? w _
   unfold World.frozen?;simp only[hb b h]
  ·show mp _ b=mp w b
   unfold mp;rw[hb b h]
theorem Gt (c:Nat) (W:World):Calls Tryz.prog 259 #[.slice none 0 c] W fun e w'=>∃ B q os,e=.returned (.slice B 0 0)/\w'=Sort.grow (W.drewN q) os:=by
 have q22:∀ (w:World) (a:Option Addr) (n c n' c':Nat),(binOp .eql 33 (.slice a n c) (.slice none n' c')).run Tryz.prog w=.ok (.bool a.isNone) w:=fun w a n c n' c'=>Lib.run_eql_slice_nil w _ _ a n c n' c' Tryz.underlying33
 go_enter Tryz.func259,Tryz.ntmps259
 go_wp2
 go_ret
 exact⟨none,0,#[],rfl,by simp[Sort.grow,World.drewN]⟩
theorem DK (a:Addr) (c:Nat) (W:World):Calls Tryz.prog 259 #[.slice (some a) 0 c] W fun e w'=>∃ B q os,e=.returned (.slice B 0 0)/\w'=Sort.grow (W.drewN q) os:=by
 have q22:∀ (w:World) (a:Option Addr) (n c n' c':Nat),(binOp .eql 33 (.slice a n c) (.slice none n' c')).run Tryz.prog w=.ok (.bool a.isNone) w:=fun w a n c n' c'=>Lib.run_eql_slice_nil w _ _ a n c n' c' Tryz.underlying33
 go_enter Tryz.func259,Tryz.ntmps259
 go_wp2
 go_ret
 exact⟨some ⟨W.heap.size,0,none⟩,0,#[.cells #[] 3],rfl,by rw[Sort.alloc_eq_grow];rfl⟩
theorem DS (xs:List Int) (hl:xs.length<=1048576):ao Tryz.prog 259 false [.val none (aF .imm xs)] .one (aF .own xs):=by
 by_cases he:xs=[]
 ·subst he
  refine⟨⟨_,Tryz.func259,by kernel_rfl,by kernel_rfl⟩,fun w S vs hS hA=>?_⟩
  match vs,hA with
  | [v],⟨hA,_⟩=>
   have hrep:=bP.rep1 (show bP w S NO none [C.s .imm []] v from hA);obtain⟨ad,cap,rfl⟩:=hrep.slice;have hz:Calls Tryz.prog 259 #[.slice ad 0 cap] w fun e w'=>∃ B q os,e=.returned (.slice B 0 0)/\w'=Sort.grow (w.drewN q) os:=by
    cases ad with
    | none=>exact Gt cap w
    | some a=>exact DK a cap w
   refine hz.mono fun e w' ⟨B,q,os,he,hw'⟩=>?_
   subst hw';exact⟨.slice B 0 0,he,D8 w q os,NO,NO,fun _ _ h=>h.elim,fun _ _ h=>h.elim,fun _ _ h=>h.elim,rfl,row1 (.nil _ .own B trivial)⟩
 ·have hne:xs.map (rI .imm)≠[]:=fun e=>he (List.map_eq_nil_iff.1 e)
  refine fO 8 [] Tryz.func259 rfl ?_ (.inr (bK _))
  repeat'(first|refine gO ?_|(conv=>whnf);first|refine Nn.mk hne ?_|refine Ap.cp (fun _=>rfl) (fun _=>rfl) hl (by decide) ?_)
  rfl
theorem wM (p:cg) (hs:cg.sml p):ao Tryz.prog 191 false [.val (some 3) (cg.enc .imm p)] .agg (cg.enc .own p):=by
 have hl:p.Cells.length<=1048576:=hs;refine fO 8 [] Tryz.func191 rfl ?_ (.inr (cg.enc_fr _))
 repeat'(first|refine gO ?_|(conv=>whnf);first|refine Cl.mk (DS p.Cells hl) ?_)
 rfl
theorem zh (j:co) (hs:co.sml j):ao Tryz.prog 158 false [.val (some 5) (co.enc .imm j)] .agg (co.enc .own j):=by
 refine fO 8 [] Tryz.func158 rfl ?_ (.inr (co.enc_fr _))
 repeat'(first|refine gO ?_|(conv=>whnf);first|refine Cl.mk (wM j.Plan hs) ?_)
 rfl
theorem ib (c:aC) (hs:aC.sml c):ao Tryz.prog 229 false [.val (some 1) (aC.enc .imm c)] .agg (aC.enc .own c):=by
 have hl:=hs.1;refine fO 26 [(5,10,[13,14,15,16,17,18,19,20,21,22])] Tryz.func229 rfl ?_ (.inr (aC.enc_fr _))
 repeat'(first|refine gO ?_|fail)
 (conv=>whnf)
 refine Lp.mk (ι:=Nat) (fun i=>[(1,.hold .box (aC.enc .imm c)),(2,.hold .box [.z]),(3,.hold .box [.s .own ((c.Lists.take i).map (aF .own))]),(4,.hold .one [I ((i:Nat):Int)])]) (fun i=>i<=c.Lists.length) (fun i=>c.Lists.length - i) (0) ?_ (Q0 _) fun i hi=>?_
 ·exact wB
 by_cases li:i<c.Lists.length
 ·have hx:=ah li
  have hxl:(nth c.Lists i).length<=1048576:=hs.2 _ (am li)
  repeat'(first|refine gD ?_|(conv=>whnf);first|with_reducible refine Ix.nat (aa hx) ?_|refine Fl.cp (fun _=>rfl) (fun _=>rfl) hxl (by decide) ?_|refine Ap.sn (aO fun _=>rfl) rfl (by simp;omega) (by decide) (eG li) ?_)
  ((conv=>whnf);refine Nx.mk (i+1) (by omega) (by omega) ?_;(exact wB))
 ·repeat'(first|refine gD ?_|fail)
  obtain rfl:i=c.Lists.length:=by omega
  rw[List.take_length]
  rfl
theorem vO (c:aC) (hs:aC.sml c):ao Tryz.prog 155 false [.val (some 1) (aC.enc .imm c)] .agg (aC.enc .own c):=by
 have hl:=hs.1;refine fO 23 [(5,5,[14,15,16,17,18])] Tryz.func155 rfl ?_ (.inr (aC.enc_fr _))
 repeat'(first|refine gO ?_|fail)
 (conv=>whnf)
 refine Lp.mk (ι:=Nat) (fun i=>[(2,.hold .box [.z]),(3,.hold .box [.s .own ((c.Lists.take i).map (aF .own))]),(8,.hold .one (ix .imm c.Lists)),(9,.hold .one [I (c.Lists.length)]),(10,.hold .one [I ((i:Nat):Int)])]) (fun i=>i<=c.Lists.length) (fun i=>c.Lists.length - i) (0) ?_ (Q0 _) fun i hi=>?_
 ·exact wB
 by_cases li:i<c.Lists.length
 ·have hx:=ah li
  have hxl:(nth c.Lists i).length<=1048576:=hs.2 _ (am li)
  repeat'(first|refine gD ?_|(conv=>whnf);first|with_reducible refine Ix.nat (aa hx) ?_|refine Cl.mk (iB (nth c.Lists i) hxl) ?_|refine Ap.sn (aO fun _=>rfl) rfl (by simp;omega) (by decide) (eG li) ?_)
  ((conv=>whnf);refine Nx.mk (i+1) (by omega) (by omega) ?_;(exact wB))
 ·repeat'(first|refine gD ?_|fail)
  obtain rfl:i=c.Lists.length:=by omega
  rw[List.take_length]
  rfl
theorem eM (m:aH) (hs:aH.sml m):ao Tryz.prog 230 false [.val (some 2) (aH.enc .imm m)] .agg (aH.enc .own m):=by
 have hl:=hs.1.1;have hl2:=hs.2.1;refine fO 46 [(5,10,[14,15,16,17,18,19,20,21,22,23]),(9,10,[33,34,35,36,37,38,39,40,41,42])] Tryz.func230 rfl ?_ (.inr (aH.enc_fr _))
 repeat'(first|refine gO ?_|fail)
 (conv=>whnf)
 refine Lp.mk (ι:=Nat) (fun i=>[(1,.hold .box (aH.enc .imm m)),(2,.hold .box [.z,.z]),(3,.hold .box [.s .own ((m.Buffers.take i).map (cA .own)),.z]),(4,.hold .one [I ((i:Nat):Int)])]) (fun i=>i<=m.Buffers.length) (fun i=>m.Buffers.length - i) (0) ?_ (Q0 _) fun i hi=>?_
 ·exact wB
 by_cases li:i<m.Buffers.length
 ·have hx:=ah li
  have hxl:(nth m.Buffers i).length<=1048576:=(hs.1.2 _ (am li)).1
  repeat'(first|refine gD ?_|(conv=>whnf);first|with_reducible refine Ix.nat (aa hx) ?_|refine Fl.cp (fun _=>rfl) (fun _=>rfl) hxl (by decide) ?_|refine Ap.sn (aO fun _=>rfl) rfl (by simp;omega) (by decide) (eG li) ?_)
  ((conv=>whnf);refine Nx.mk (i+1) (by omega) (by omega) ?_;(exact wB))
 obtain rfl:i=m.Buffers.length:=by omega
 rw[List.take_length]
 repeat'(first|refine gD ?_|fail)
 (conv=>whnf)
 refine Lp.mk (ι:=Nat) (fun k=>[(1,.hold .box (aH.enc .imm m)),(2,.hold .box [.z,.z]),(3,.hold .box [.s .own (m.Buffers.map (cA .own)),.s .own ((m.Inbox.take k).map (aF .own))]),(5,.hold .one [I ((k:Nat):Int)])]) (fun k=>k<=m.Inbox.length) (fun k=>m.Inbox.length - k) (0) ?_ (Q0 _) fun k hk=>?_
 ·exact wB
 by_cases lk:k<m.Inbox.length
 ·have hx:=ah lk
  have hxl:(nth m.Inbox k).length<=1048576:=hs.2.2 _ (am lk)
  repeat'(first|refine gD ?_|(conv=>whnf);first|with_reducible refine Ix.nat (aa hx) ?_|refine Fl.cp (fun _=>rfl) (fun _=>rfl) hxl (by decide) ?_|refine Ap.sn (aO fun _=>rfl) rfl (by simp;omega) (by decide) (eG lk) ?_)
  ((conv=>whnf);refine Nx.mk (k+1) (by omega) (by omega) ?_;(exact wB))
 ·repeat'(first|refine gD ?_|fail)
  obtain rfl:k=m.Inbox.length:=by omega
  rw[List.take_length]
  rfl
theorem xa (m:aH) (hs:aH.sml m):ao Tryz.prog 156 false [.val (some 2) (aH.enc .imm m)] .agg (aH.enc .own m):=by
 have hl:=hs.1.1;have hl2:=hs.2.1;refine fO 41 [(5,6,[16,17,18,19,20,21]),(10,5,[32,33,34,35,36])] Tryz.func156 rfl ?_ (.inr (aH.enc_fr _))
 repeat'(first|refine gO ?_|fail)
 (conv=>whnf)
 refine Lp.mk (ι:=Nat) (fun i=>[(1,.hold .box (aH.enc .imm m)),(2,.hold .box [.z,.z]),(3,.hold .box [.s .own ((m.Buffers.take i).map (cA .own)),.z]),(10,.hold .one (v7 .imm m.Buffers)),(11,.hold .one [I (m.Buffers.length)]),(12,.hold .one [I ((i:Nat):Int)])]) (fun i=>i<=m.Buffers.length) (fun i=>m.Buffers.length - i) (0) ?_ (Q0 _) fun i hi=>?_
 ·exact wB
 by_cases li:i<m.Buffers.length
 ·have hx:=ah li
  have hxl:(nth m.Buffers i).length<=1048576:=(hs.1.2 _ (am li)).1
  repeat'(first|refine gD ?_|(conv=>whnf);first|with_reducible refine Ix.nat (aa hx) ?_|refine Fl.cp (fun _=>rfl) (fun _=>rfl) hxl (by decide) ?_|refine Ap.sn (aO fun _=>rfl) rfl (by simp;omega) (by decide) (eG li) ?_)
  ((conv=>whnf);refine Nx.mk (i+1) (by omega) (by omega) ?_;(exact wB))
 obtain rfl:i=m.Buffers.length:=by omega
 rw[List.take_length]
 repeat'(first|refine gD ?_|fail)
 (conv=>whnf)
 refine Lp.mk (ι:=Nat) (fun k=>[(2,.hold .box [.z,.z]),(3,.hold .box [.s .own (m.Buffers.map (cA .own)),.s .own ((m.Inbox.take k).map (aF .own))]),(26,.hold .one (ix .imm m.Inbox)),(27,.hold .one [I (m.Inbox.length)]),(28,.hold .one [I ((k:Nat):Int)])]) (fun k=>k<=m.Inbox.length) (fun k=>m.Inbox.length - k) (0) ?_ (Q0 _) fun k hk=>?_
 ·exact wB
 by_cases lk:k<m.Inbox.length
 ·have hx:=ah lk
  have hxl:(nth m.Inbox k).length<=1048576:=hs.2.2 _ (am lk)
  repeat'(first|refine gD ?_|(conv=>whnf);first|with_reducible refine Ix.nat (aa hx) ?_|refine Cl.mk (iB (nth m.Inbox k) hxl) ?_|refine Ap.sn (aO fun _=>rfl) rfl (by simp;omega) (by decide) (eG lk) ?_)
  ((conv=>whnf);refine Nx.mk (k+1) (by omega) (by omega) ?_;(exact wB))
 ·repeat'(first|refine gD ?_|fail)
  obtain rfl:k=m.Inbox.length:=by omega
  rw[List.take_length]
  rfl
theorem q7 (q:bB) (hs:bB.sml q):ao Tryz.prog 231 false [.val (some 2) (bB.enc .imm q)] .agg (bB.enc .own q):=by
 have hl:q.Lst.length<=1048576:=hs.1;refine fO 10 [(1,6,[3,4,5,6,7,8])] Tryz.func231 rfl ?_ (.inr (bB.enc_fr _))
 repeat'(first|refine gO ?_|(conv=>whnf);first|refine Fl.cp (fun _=>rfl) (fun _=>rfl) hl (by decide) ?_|refine Ap.cp (fun _=>rfl) (fun _=>rfl) hl (by decide) ?_)
 rfl
theorem xw (q:bB) (hs:bB.sml q):ao Tryz.prog 157 false [.val (some 2) (bB.enc .imm q)] .agg (bB.enc .own q):=by
 have hl:q.Lst.length<=1048576:=hs.1;refine fO 10 [(1,6,[3,4,5,6,7,8])] Tryz.func157 rfl ?_ (.inr (bB.enc_fr _))
 repeat'(first|refine gO ?_|(conv=>whnf);first|refine Fl.cp (fun _=>rfl) (fun _=>rfl) hl (by decide) ?_|refine Ap.cp (fun _=>rfl) (fun _=>rfl) hl (by decide) ?_)
 rfl
theorem qa (j:co) (hs:co.sml j):ao Tryz.prog 232 false [.val (some 5) (co.enc .imm j)] .agg (co.enc .own j):=by
 have hl:j.Plan.Cells.length<=1048576:=hs;refine fO 11 [] Tryz.func232 rfl ?_ (.inr (co.enc_fr _))
 repeat'(first|refine gO ?_|(conv=>whnf);first|refine Ap.cp (fun _=>rfl) (fun _=>rfl) hl (by decide) ?_)
 rfl
theorem t8 (xs:List a7) (hs:fT xs):ao Tryz.prog 154 false [.val none (bD .imm xs)] .one (bD .own xs):=by
 have hl:=hs.1;refine fO 6 [] Tryz.func154 rfl ?_ (.inr (jW _))
 repeat'(first|refine gO ?_|(conv=>whnf);first|refine Ap.cp (fun _=>rfl) (fun _=>rfl) hl (by decide) ?_)
 rfl
def N1 (h:ab) (cc:C):List C:=[.s .own (h.Kernel.Machine.Frames.Cells.map (aF .own)),.s .own (h.Kernel.Machine.Frames.Used.map (rB .own)),.s .own (h.Kernel.Machine.Table.Entries.map (bj.enc .own)),I h.Kernel.Calls,.s .own (h.Kernel.Refuse.map (rI .own)),.s .own (h.Free.map (a7.enc .own)),.s .own (h.Spans.map (au.enc .own)),.s .own (h.Larges.map (aA.enc .own)),.s .own (h.Objs.map (bO.enc .own)),cc,.s .imm (h.Mail.Buffers.map (cA .imm)),.s .imm (h.Mail.Inbox.map (aF .imm)),I h.Quar.Room,.s .imm (h.Quar.Lst.map (aM.enc .imm)),I h.Seed,I h.Clock,I h.Limit,I h.Next,B h.Meshing,I h.Job.Plan.Keep,I h.Job.Plan.Move,.s .imm (h.Job.Plan.Cells.map (rI .imm)),I h.Job.Phase,I h.Job.Next]
def Mg:List C:=[.z,.z,.z,I 0,.z,.z,.z,.z,.z,.z,.z,.z,I 0,.z,I 0,I 0,I 0,I 0,B false,I 0,I 0,.z,I 0,I 0]
theorem zQ (h:ab) (hs:ab.sml h):ao Tryz.prog 142 false [.val (some 24) (ab.enc .imm h)] .agg (ab.enc .own h):=by
 obtain⟨s1,s2,s3,s4,s5,s6,s7,s8,s9⟩:=hs;have l2:=s2.1;have l3:=s3.1;have l4:=s4.1;have l5:=s5.1;have l6:=s6.1;refine fO 61 [] Tryz.func142 rfl ?_ (.inr (ab.enc_fr _))
 repeat'(first|refine gO ?_|(conv=>whnf);first|refine Cl.mk (zb h.Kernel s1) ?_|refine Ap.cp (fun _=>rfl) (fun _=>rfl) l2 (by decide) ?_|refine Ap.cp (fun _=>rfl) (fun _=>rfl) l3 (by decide) ?_|refine Ap.cp (fun _=>rfl) (fun _=>rfl) l4 (by decide) ?_|refine Ap.cp (fun _=>rfl) (fun _=>rfl) l5 (by decide) ?_)
 (conv=>whnf)
 refine Lp.mk (ι:=Nat) (fun i=>[(1,.hold .box (N1 h (.s .imm (h.Caches.map (aC.enc .imm))))),(2,.hold .box Mg),(3,.hold .one ([.s .own ((h.Caches.take i).map (aC.enc .own))])),(4,.hold .one [I ((i:Nat):Int)])]) (fun i=>i<=h.Caches.length) (fun i=>h.Caches.length - i) (0) ?_ (Q0 _) fun i hi=>?_
 ·exact wB
 by_cases li:i<h.Caches.length
 ·have hx:=ah li
  repeat'(first|refine gD ?_|(conv=>whnf);first|with_reducible refine Ix.nat (aa hx) ?_|refine Cl.mk (ib (nth h.Caches i) (s6.2 _ (am li))) ?_|refine Ap.sn (aO fun _=>rfl) rfl (by simp;omega) (by decide) (eG li) ?_)
  ((conv=>whnf);refine Nx.mk (i+1) (by omega) (by omega) ?_;(exact wB))
 ·obtain rfl:i=h.Caches.length:=by omega
  rw[List.take_length]
  repeat'(first|refine gD ?_|(conv=>whnf);first|refine Cl.mk (eM h.Mail s7) ?_|refine Cl.mk (q7 h.Quar s8) ?_|refine Cl.mk (qa h.Job s9) ?_)
  rfl
theorem xC (h:ab) (hs:ab.sml h):ao Tryz.prog 65 false [.val (some 24) (ab.enc .imm h)] .agg (ab.enc .own h):=by
 obtain⟨s1,s2,s3,s4,s5,s6,s7,s8,s9⟩:=hs;have l3:=s3.1;have l4:=s4.1;have l5:=s5.1;have l6:=s6.1;refine fO 59 [(11,5,[38,39,40,41,42])] Tryz.func65 rfl ?_ (.inr (ab.enc_fr _))
 repeat'(first|refine gO ?_|(conv=>whnf);first|refine Cl.mk (iW h.Kernel s1) ?_|refine Cl.mk (t8 h.Free s2) ?_|refine Ap.cp (fun _=>rfl) (fun _=>rfl) l3 (by decide) ?_|refine Ap.cp (fun _=>rfl) (fun _=>rfl) l4 (by decide) ?_|refine Ap.cp (fun _=>rfl) (fun _=>rfl) l5 (by decide) ?_)
 (conv=>whnf)
 refine Lp.mk (ι:=Nat) (fun i=>[(1,.hold .box (ab.enc .imm h)),(2,.hold .box Mg),(3,.hold .box (N1 h (.s .own ((h.Caches.take i).map (aC.enc .own))))),(32,.hold .one (nI .imm h.Caches)),(33,.hold .one [I (h.Caches.length)]),(34,.hold .one [I ((i:Nat):Int)])]) (fun i=>i<=h.Caches.length) (fun i=>h.Caches.length - i) (0) ?_ (Q0 _) fun i hi=>?_
 ·exact wB
 by_cases li:i<h.Caches.length
 ·have hx:=ah li
  repeat'(first|refine gD ?_|(conv=>whnf);first|with_reducible refine Ix.nat (aa hx) ?_|refine Cl.mk (vO (nth h.Caches i) (s6.2 _ (am li))) ?_|refine Ap.sn (aO fun _=>rfl) rfl (by simp;omega) (by decide) (eG li) ?_)
  ((conv=>whnf);refine Nx.mk (i+1) (by omega) (by omega) ?_;(exact wB))
 ·obtain rfl:i=h.Caches.length:=by omega
  rw[List.take_length]
  repeat'(first|refine gD ?_|(conv=>whnf);first|refine Cl.mk (xa h.Mail s7) ?_|refine Cl.mk (xw h.Quar s8) ?_|refine Cl.mk (zh h.Job s9) ?_)
  rfl
theorem Ap.sm {rows rs:List (List C)} {r:List C} {sz by_:Nat} {K:List (List C)->Prop} (h1:∀ r∈rows,r.length=sz) (h2:r.length=sz) (hl:rows.length+1<=1073741824) (hb:by_<=1000) (hr:rs=rows++[r]) (hK:K rs):Ap false rows [r] sz by_ K:=
 Ap.mk h1 (fun r' hr=>by rw[X0.1 hr];exact h2) (fun h=>by cases h) (by simp;omega) (W3 (Nat.mul_le_mul (show rows.length+[r].length<=1073741824 by simpa using hl) hb) (by decide)) hr hK
theorem GE (y:a7) (ys:List a7) (r:a7) (out:List a7) (done:Bool):iX (y::ys) r out done=if ovl y r then none
  else if y.At+y.Len=r.At then iX ys ⟨y.At,y.Len+r.Len⟩ out done
  else if r.At+r.Len=y.At then iX ys ⟨r.At,r.Len+y.Len⟩ out done
  else if y.At > r.At/\done=false then iX ys r (out++[r,y]) true
  else iX ys r (out++[y]) done:=by rw[iX]
theorem Au {pages:Int} {xs:List a7} (h:bx pages xs=true):nH xs/\∀ y∈xs,0<=y.At/\1<=y.Len/\y.At+y.Len<=pages:=by
 unfold bx at h;simp only[I0,C0]at h;have hin:∀ i,i<xs.length->1<=(nth xs i).Len/\0<=(nth xs i).At/\(nth xs i).At<=pages - (nth xs i).Len:=fun i hi=>by
  have:=dB h.1 hi;unfold f6 rangeIn at this;simp only[I0,C0]at this;omega
 have hnx:∀ i,i+1<xs.length->(nth xs i).At+(nth xs i).Len<(nth xs (i+1)).At:=fun i hi=>by
  have:=dB h.1 hi;unfold f6 at this;simp only[I0,C0]at this;have:=this.2.resolve_left (by omega);simpa using this
 have hp:∀ j i,i<j->j<xs.length->(nth xs i).At+(nth xs i).Len<(nth xs j).At:=fun j=>by
  induction j with
  | zero=>intro i hi;omega
  | succ j ih=>
   intro i hi hj;have h1:=hnx j hj;by_cases e:i=j
   ·subst e;exact h1
   ·have h2:=ih i (by omega) (by omega)
    have h3:=hin j (by omega);omega
 refine⟨⟨?_,fun y hy=>?_⟩,fun y hy=>?_⟩
 ·rw[List.pairwise_iff_getElem]
  intro i j hi hj hij;have:=hp j i hij hj
  rwa [bq (Q1 hi),bq (Q1 hj)]at this
 ·obtain⟨i,hi,rfl⟩:=bc hy
  exact(hin i hi).1
 ·obtain⟨i,hi,rfl⟩:=bc hy
  have:=hin i hi;omega
theorem iG {α:Type} [Inhabited α] {xs:List α} {i:Nat} (hi:i<xs.length):xs.drop i=nth xs i::xs.drop (i+1):=by
 rw[List.drop_eq_getElem_cons hi,bq (Q1 hi)]
def dn (pages:Int) (xs:List a7) (r:a7):Option (List a7):=if bx pages xs=true/\rangeIn pages r=true then iX xs r [] false else none
def Ee (xs:List a7) (o:Option (List a7)):List C:=bD .own (o.getD xs)++[B o.isSome]
theorem rZ (xs:List a7) (o:Option (List a7)):gG (Ee xs o):=aK (jW _) ⟨trivial,trivial⟩
theorem tU {α:Type} [Inhabited α] (R:Int->Int->Prop) (tr:∀ a b c,R a b->R b c->R a c) (f:α->Int) (xs:List α):(∀ i,i<xs.length->i=0\/R (f (nth xs (i - 1))) (f (nth xs i)))↔xs.Pairwise (fun a b=>R (f a) (f b)):=by
 constructor
 ·intro h
  have hp:∀ j i,i<j->j<xs.length->R (f (nth xs i)) (f (nth xs j)):=fun j=>by
   induction j with
   | zero=>intro i hi;omega
   | succ j ih=>
    intro i hi hj;have h1:=(h (j+1) hj).resolve_left (by omega);rw[show j+1 - 1=j from rfl]at h1;by_cases e:i=j
    ·subst e;exact h1
    ·exact tr _ _ _ (ih i (by omega) (by omega)) h1
  rw[List.pairwise_iff_getElem];intro i j hi hj hij;have:=hp j i hij hj
  rwa [bq (Q1 hi),bq (Q1 hj)]at this
 ·intro h i hi
  by_cases e:i=0
  ·exact .inl e
  ·right
   have:=List.pairwise_iff_getElem.1 h (i - 1) i (by omega) hi (by omega)
   rwa [<-bq (Q1 (show i - 1<xs.length by omega)),<-bq (Q1 hi)]at this
theorem yh {α:Type} [Inhabited α] (f:α->Int) (xs:List α):(∀ i,i<xs.length->∀ o∈xs.take i,f o≠f (nth xs i))↔(xs.map f).Nodup:=by
 unfold List.Nodup;rw[List.pairwise_map,List.pairwise_iff_getElem];constructor
 ·intro h i j hi hj hij
  have:=h j hj xs[i] (List.mem_take_iff_getElem.2 ⟨i,by omega,rfl⟩)
  rwa [bq (Q1 hj)]at this
 ·intro h i hi o ho
  obtain⟨j,hj,rfl⟩:=List.mem_take_iff_getElem.1 ho;rw[bq (Q1 hi)];exact h j i (by omega) hi (by omega)
def eP (s:au) (a:Int):Prop:=16*s.Page<=a/\a<=16*s.Page+15/\(a - 16*s.Page) % csz s.Class=0/\aY s.Bits ((a - 16*s.Page) / csz s.Class)=true
def iU (sp:List au) (a c:Int):Prop:=∃ s∈sp,eP s a/\(c<0\/s.Class=c)
def NU (la:List aA) (a z:Int):Prop:=∃ l∈la,a=16*l.Page/\l.Size=z
def Ks (sp:List au) (la:List aA) (o:bO):Prop:=(∃ s∈sp,eP s o.Addr/\s.Class=aN o.Size)\/NU la o.Addr o.Size
def lw (sp:List au) (la:List aA) (a:Int):Prop:=iU sp a (-1)\/∃ l∈la,a=16*l.Page
theorem ll {sp:List au} {la:List aA} (hL:qY sp la) (a:Int):(∃ i,i<sp.length/\(16*(nth sp i).Page<=a/\a<=16*(nth sp i).Page+15)/\denotes sp la a=oE i (nth sp i) a)\/((∀ s∈sp,¬(16*s.Page<=a/\a<=16*s.Page+15))/\((∃ i,i<la.length/\bz (nth la i) a=true/\denotes sp la a = ⟨3,i,0,a - 16*(nth la i).Page⟩)\/((∀ l∈la,bz l a=false)/\denotes sp la a = ⟨0,0,0,0⟩))):=by
 cases h1:sp.findIdx? (cy · a) with
 | some i=>
  obtain⟨hi,hp,-⟩:=List.findIdx?_eq_some_iff_getElem.1 h1;rw[<-bq (Q1 hi)]at hp;exact .inl ⟨i,hi,(fI (hL.sok _ (am hi))).1 hp,by unfold denotes;rw[h1]⟩
 | none=>
  have h2:=List.findIdx?_eq_none_iff.1 h1;refine .inr ⟨fun s hs hr=>?_,?_⟩
  ·have:=h2 s hs
   rw[(fI (hL.sok _ hs)).2 hr]at this;cases this
  cases h3:la.findIdx? (bz · a) with
  | some i=>
   obtain⟨hi,hp,-⟩:=List.findIdx?_eq_some_iff_getElem.1 h3;rw[<-bq (Q1 hi)]at hp;exact .inl ⟨i,hi,hp,by unfold denotes;rw[h1,h3]⟩
  | none=>exact .inr ⟨List.findIdx?_eq_none_iff.1 h3,by unfold denotes;rw[h1,h3]⟩
theorem JR {h:ab} (hL:qY h.Spans h.Larges) {a c:Int} : cW h a c=true↔iU h.Spans a c:=by
 unfold cW;simp only[I0,Bool.or_eq_true,C0];constructor
 ·rintro⟨⟨hk,ho⟩,hc⟩
  rcases ll hL a with⟨i,hi,hr,hd⟩|⟨-,⟨i,hi,-,hd⟩|⟨-,hd⟩⟩
  ·rw[hd]at hk ho hc
   simp only[oE]at hk ho hc;refine⟨_,am hi,⟨hr.1,hr.2,ho,?_⟩,by simpa using hc⟩;cases e:aY (nth h.Spans i).Bits ((a - 16*(nth h.Spans i).Page) / csz (nth h.Spans i).Class) with
   | true=>rfl
   | false=>rw[e]at hk;simp at hk
  ·rw[hd]at hk;simp at hk
  ·rw[hd]at hk;simp at hk
 ·rintro⟨s,hs,⟨h1,h2,h3,h4⟩,hc⟩
  obtain⟨i,hi,rfl⟩:=bc hs;rw[iE hL hi ⟨h1,h2⟩];simp only[oE,h3,h4,if_true,true_and];simpa using hc
theorem un {sp:List au} {la:List aA} (hL:qY sp la) {l:aA} (hl:l∈la):(∀ s∈sp,¬(16*s.Page<=16*l.Page/\16*l.Page<=16*s.Page+15))/\bz l (16*l.Page)=true/\∀ i,i<la.length->bz (nth la i) (16*l.Page)=true->nth la i=l:=by
 have hf:=aV (hL.lok _ hl);have hf2:=cw (hL.lok _ hl);refine⟨fun s hs hr=>?_,?_,fun i hi hh=>?_⟩
 ·exact hL.dis s hs l hl 0 (by omega) (by omega)
 ·unfold bz;rw[hL.lok _ hl,O0 (by omega)];rfl
 ·obtain⟨j,hj,rfl⟩:=bc hl
  have hg:=aV (hL.lok _ (am hi));have hlo:=hL.lok _ (am hi);unfold bS at hlo;rw[C0]at hlo;unfold bz at hh;rw[I0,C0]at hh;rw[hL.one i j hi hj ((nth la j).Page - (nth la i).Page).toNat 0 (by omega) (by omega) (by omega)]
theorem H4 {h:ab} (hL:qY h.Spans h.Larges) {o:bO} : jo h o=true↔Ks h.Spans h.Larges o:=by
 unfold jo;simp only[I0,Bool.or_eq_true,C0];constructor
 ·rintro⟨ho,hk⟩
  rcases ll hL o.Addr with⟨i,hi,hr,hd⟩|⟨-,⟨i,hi,-,hd⟩|⟨-,hd⟩⟩
  ·rw[hd]at hk ho
   simp only[oE]at hk ho;have hs:aY (nth h.Spans i).Bits ((o.Addr - 16*(nth h.Spans i).Page) / csz (nth h.Spans i).Class)=true:=by
    cases e:aY (nth h.Spans i).Bits ((o.Addr - 16*(nth h.Spans i).Page) / csz (nth h.Spans i).Class) with
    | true=>rfl
    | false=>rw[e]at hk;simp at hk
   rw[hs]at hk;exact .inl ⟨_,am hi,⟨hr.1,hr.2,ho,hs⟩,by simpa using hk⟩
  ·rw[hd]at hk ho
   simp only at hk ho;exact .inr ⟨_,am hi,by omega,by simpa using hk⟩
  ·rw[hd]at hk;simp at hk
 ·rintro(⟨s,hs,⟨h1,h2,h3,h4⟩,hc⟩|⟨l,hl,ha,hz⟩)
  ·obtain⟨i,hi,rfl⟩:=bc hs
   rw[iE hL hi ⟨h1,h2⟩];simp only[oE,h3,h4,if_true,true_and];simp[hc]
  ·obtain⟨g1,g2,g3⟩:=un hL hl
   rw[ha];rcases ll hL (16*l.Page) with⟨i,hi,hr,hd⟩|⟨-,⟨i,hi,hh,hd⟩|⟨hn,hd⟩⟩
   ·exact absurd hr (g1 _ (am hi))
   ·rw[hd]
    have:=g3 i hi hh;simp only[this,W1];exact⟨by omega,.inr ⟨trivial,hz⟩⟩
   ·rw[hn l hl]at g2;cases g2
theorem Ju {sp:List au} {la:List aA} (hL:qY sp la) (a:Int):a∈gH sp la↔lw sp la a:=by
 constructor
 ·intro h
  unfold gH kf at h;obtain⟨n,hn,rfl⟩:=P3.1 h;have h2:=(Q3.1 hn).2;unfold jc at h2;simp only[I0,Bool.or_eq_true,C0]at h2;obtain⟨ho,hk⟩:=h2;rcases ll hL (n:Int) with⟨i,hi,hr,hd⟩|⟨-,⟨i,hi,-,hd⟩|⟨-,hd⟩⟩
  ·rw[hd]at hk ho
   simp only[oE]at hk ho;refine .inl ⟨_,am hi,⟨hr.1,hr.2,ho,?_⟩,.inl (by omega)⟩;cases e:aY (nth sp i).Bits (((n:Int) - 16*(nth sp i).Page) / csz (nth sp i).Class) with
   | true=>rfl
   | false=>rw[e]at hk;simp at hk
  ·rw[hd]at ho
   simp only at ho;exact .inr ⟨_,am hi,by omega⟩
  ·rw[hd]at hk;simp at hk
 ·rintro(⟨s,hs,⟨h1,h2,h3,h4⟩,-⟩|⟨l,hl,rfl⟩)
  ·obtain⟨i,hi,rfl⟩:=bc hs
   have hd:=iE hL hi ⟨h1,h2⟩;exact tW hL (by rw[hd];exact h3) (.inl (by rw[hd];simp only[oE,h4,if_true]))
  ·obtain⟨g1,g2,g3⟩:=un hL hl
   rcases ll hL (16*l.Page) with⟨i,hi,hr,hd⟩|⟨-,⟨i,hi,hh,hd⟩|⟨hn,hd⟩⟩
   ·exact absurd hr (g1 _ (am hi))
   ·have:=g3 i hi hh
    exact tW hL (by rw[hd];simp only[this];omega) (.inr (by rw[hd]))
   ·rw[hn l hl]at g2;cases g2
def RH (xs:List a7) (p:Int):Prop:=∃ r∈xs,r.At<=p/\p<r.At+r.Len
theorem eU {pages:Int} {xs:List a7} : bx pages xs=true↔nH xs/\(∀ y∈xs,0<=y.At/\1<=y.Len/\y.At+y.Len<=pages)/\1<=pages/\pages<=32:=by
 constructor
 ·intro h
  obtain⟨h1,h2⟩:=Au h;unfold bx at h;simp only[I0,C0]at h;exact⟨h1,h2,h.2⟩
 ·rintro⟨h1,h2,h3⟩
  unfold bx;simp only[I0,C0];refine⟨cn.2 fun i hi=>?_,h3⟩;have h4:=h2 _ (am hi);unfold f6 rangeIn;simp only[I0,C0];refine⟨by omega,?_⟩;by_cases e:i=0
  ·exact .inl e
  ·right
   have:=List.pairwise_iff_getElem.1 h1.1 (i - 1) i (by omega) hi (by omega)
   rwa [<-bq (Q1 (show i - 1<xs.length by omega)),<-bq (Q1 hi)]at this
theorem Du {pages:Int} {xs:List a7} (h:bx pages xs=true) (p:Int):xs.any (pN p)=true↔RH xs p:=by
 obtain⟨-,h2,h3⟩:=eU.1 h;rw[v3];refine⟨fun⟨r,hr,hh⟩=>⟨r,hr,?_⟩,fun⟨r,hr,hh⟩=>⟨r,hr,?_⟩⟩
 ·have:=h2 r hr
  unfold pN at hh;rw[dS (by omega) (by omega)]at hh;simpa using hh
 ·have:=h2 r hr
  unfold pN;rw[dS (by omega) (by omega)];simpa using hh
theorem tV (hi:Int):∀ (ys:List a7) (r:a7) (out:List a7),nH ys->1<=r.Len->(∀ y∈ys,ovl y r=false)->(∀ z∈out,z.At+z.Len<r.At/\∀ y∈ys,z.At+z.Len<y.At)->nH out->(∀ y∈r::(out++ys),0<=y.At/\y.At+y.Len<=hi)->∃ o,iX ys r out false=some o/\nH o/\(∀ y∈o,0<=y.At/\y.At+y.Len<=hi)/\∀ p,RH o p↔RH out p\/RH ys p\/(r.At<=p/\p<r.At+r.Len)
 | [],r,out,_,h1,_,ho,hg,hb=>by
  refine⟨out++[r],by simp[iX],⟨List.pairwise_append.2 ⟨hg.1,List.pairwise_singleton ..,fun a ha b hb=>by rw[X0.1 hb];exact(ho a ha).1⟩,fun y hy=>?_⟩,fun y hy=>hb y (by simp at hy |-;grind),fun p=>by unfold RH;simp[or_and_right,exists_or]⟩;rcases C2.1 hy with hy|hy
  ·exact hg.2 y hy
  ·rw[X0.1 hy];exact h1
 | y::ys,r,out,hgy,h1,hv,ho,hg,hb=>by
  have h3:=hgy.2 y (I1 ..);have hv0:=hv y (I1 ..);have hhd:=hgy.head;have hby:=hb y (by simp);have hbr:=hb r (by simp);have hvw:∀ w∈ys,¬(w.At<r.At+r.Len/\r.At<w.At+w.Len):=fun w hw=>by
   have:=hv w (List.mem_cons_of_mem _ hw);unfold ovl at this;simpa using this
  have h3w:∀ w∈ys,1<=w.Len:=fun w hw=>hgy.2 w (List.mem_cons_of_mem _ hw)
  rw[GE,if_neg (by rw[hv0];simp)];unfold ovl at hv0;rw[U3]at hv0;by_cases e1:y.At+y.Len=r.At
  ·rw[if_pos e1]
   obtain⟨o,o1,o2,o3,o4⟩:=tV hi ys ⟨y.At,y.Len+r.Len⟩ out hgy.tail (by simp only;omega) (fun w hw=>by
     have a:=hhd w hw;have b:=hvw w hw;have c:=h3w w hw;unfold ovl;rw[U3];simp only;omega) (fun z hz=>⟨(ho z hz).2 y (I1 ..),fun w hw=>(ho z hz).2 w (List.mem_cons_of_mem _ hw)⟩) hg (fun w hw=>by
     rcases List.mem_cons.1 hw with rfl|hw
     · simp only;omega
     · exact hb w (by simp at hw |-;grind))
   refine⟨o,o1,o2,o3,fun p=>?_⟩;rw[o4];unfold RH;simp only[List.mem_cons,exists_eq_or_imp]
   grind
  rw[if_neg e1];by_cases e2:r.At+r.Len=y.At
  ·rw[if_pos e2]
   obtain⟨o,o1,o2,o3,o4⟩:=tV hi ys ⟨r.At,r.Len+y.Len⟩ out hgy.tail (by simp only;omega) (fun w hw=>by
     have a:=hhd w hw;have b:=hvw w hw;have c:=h3w w hw;unfold ovl;rw[U3];simp only;omega) (fun z hz=>⟨(ho z hz).1,fun w hw=>(ho z hz).2 w (List.mem_cons_of_mem _ hw)⟩) hg (fun w hw=>by
     rcases List.mem_cons.1 hw with rfl|hw
     · simp only;omega
     · exact hb w (by simp at hw |-;grind))
   refine⟨o,o1,o2,o3,fun p=>?_⟩;rw[o4];unfold RH;simp only[List.mem_cons,exists_eq_or_imp]
   grind
  rw[if_neg e2];by_cases e3:y.At > r.At
  ·have hlt:r.At+r.Len<y.At:=by omega
   rw[if_pos ⟨e3,rfl⟩,nY hgy.tail h1 fun w hw=>by have:=hhd w hw;omega];refine⟨_,rfl,⟨?_,fun w hw=>?_⟩,fun w hw=>hb w (by simp at hw |-;grind),fun p=>by unfold RH;simp[or_and_right,exists_or];grind⟩
   ·rw[List.append_assoc]
    refine List.pairwise_append.2 ⟨hg.1,?_,fun a ha b hb=>?_⟩
    ·show(r::y::ys).Pairwise _
     refine List.pairwise_cons.2 ⟨fun w hw=>?_,hgy.1⟩;rcases List.mem_cons.1 hw with rfl|hw
     ·exact hlt
     ·have:=hhd w hw;omega
    ·obtain⟨a1,a2⟩:=ho a ha
     have hb:b∈r::y::ys:=hb;rcases List.mem_cons.1 hb with rfl|hb
     ·exact a1
     ·exact a2 b hb
   ·simp only[C2,List.mem_cons,List.not_mem_nil,or_false]at hw
    rcases hw with(hw|rfl|rfl)|hw
    ·exact hg.2 w hw
    ·exact h1
    ·exact h3
    ·exact h3w w hw
  rw[if_neg fun e=>e3 e.1];obtain⟨o,o1,o2,o3,o4⟩:=tV hi ys r (out++[y]) hgy.tail h1 (fun w hw=>hv w (List.mem_cons_of_mem _ hw)) (fun z hz=>by
    rcases C2.1 hz with hz|hz
    · exact⟨(ho z hz).1,fun w hw=>(ho z hz).2 w (List.mem_cons_of_mem _ hw)⟩
    · rw[X0.1 hz];exact⟨by omega,hhd⟩) ⟨List.pairwise_append.2 ⟨hg.1,List.pairwise_singleton ..,fun a ha b hb=>by rw[X0.1 hb];exact(ho a ha).2 y (I1 ..)⟩,fun w hw=>by
      rcases C2.1 hw with hw|hw
      · exact hg.2 w hw
      · rw[X0.1 hw];exact h3⟩ (fun w hw=>hb w (by simp at hw |-;grind))
  refine⟨o,o1,o2,o3,fun p=>?_⟩;rw[o4];unfold RH;simp[or_and_right,exists_or]
  grind
theorem tf {pages:Int} {xs:List a7} {r:a7} (h:bx pages xs=true) (hr:0<=r.At/\1<=r.Len/\r.At+r.Len<=pages) (hd:∀ p,r.At<=p->p<r.At+r.Len->¬RH xs p):∃ o,dn pages xs r=some o/\bx pages o=true/\∀ p,RH o p↔RH xs p\/(r.At<=p/\p<r.At+r.Len):=by
 obtain⟨h1,h2,h3⟩:=eU.1 h;have hin:rangeIn pages r=true:=by unfold rangeIn;rw[C0];omega
 unfold dn;rw[if_pos ⟨h,hin⟩];obtain⟨o,o1,o2,o3,o4⟩:=tV pages xs r [] h1 hr.2.1 (fun y hy=>by
   have:=h2 y hy;unfold ovl;rw[U3];intro hc;by_cases e:r.At<=y.At
   · exact hd y.At e hc.1 ⟨y,hy,by omega,by omega⟩
   · exact hd r.At (by omega) (by omega) ⟨y,hy,by omega,hc.2⟩) (fun z hz=>by cases hz) ⟨List.Pairwise.nil,fun y hy=>by cases hy⟩ (fun y hy=>by
   rcases List.mem_cons.1 hy with rfl|hy
   · omega
   · have:=h2 y (by simpa using hy);omega)
 refine⟨o,o1,eU.2 ⟨o2,fun y hy=>⟨(o3 y hy).1,o2.2 y hy,(o3 y hy).2⟩,h3⟩,fun p=>?_⟩;rw[o4];unfold RH;simp
structure Pg (t:aE) (fr:List a7) (sp:List au) (la:List aA):Prop where
 one:∀ l∈la,∀ p:Nat,(p:Int)∈lpgs l l.Pages.toNat->∀ q:Nat,q<t.Entries.length->(nth t.Entries q).Mode≠0->(nth t.Entries q).Frame=(nth t.Entries p).Frame->q=p
 bnd:∀ p∈pgs sp la,p<t.Entries.length
 own:∀ p:Nat,p<t.Entries.length->((nth t.Entries p).Mode≠0↔(p:Int)∈pgs sp la)
 fre:∀ p:Nat,p<t.Entries.length->((nth t.Entries p).Mode≠0↔¬RH fr p)
 mesh:∀ s∈sp,∀ u∈sp,s.Page≠u.Page->(nth t.Entries s.Page.toNat).Frame=(nth t.Entries u.Page.toNat).Frame->meshable s u=true
structure bm (h:ab) (E:List Int):Prop where
 ker:a8 h.Kernel=true
 rng:bx (dG h) h.Free=true
 lay:bg h.Spans h.Larges=true
 srs:h.Spans.Pairwise fun a b=>a.Page<b.Page
 srl:h.Larges.Pairwise fun a b=>a.Page<b.Page
 pg:Pg (tbl h) h.Free h.Spans h.Larges
 mail:bC h.Mail=true
 nc:h.Caches.length=h.Mail.Buffers.length
 quar:eN h.Quar=true
 snc:∀ x∈h.Quar.Lst,x.Since<=h.Clock
 cach:∀ c∈h.Caches,bn c=true
 nums:bU h=true
 osr:h.Objs.Pairwise fun a b=>a.Addr<b.Addr
 onu:∀ o∈h.Objs,1<=o.Id/\o.Id<=h.Next - 1/\0<=o.Thread/\o.Thread<=h.Caches.length - 1
 oid:(h.Objs.map (·.Id)).Nodup
 oow:∀ o∈h.Objs,Ks h.Spans h.Larges o
 hca:∀ c∈h.Caches,∀ k:Nat,k<c.Lists.length->∀ a∈nth c.Lists k,iU h.Spans a k
 hqu:∀ x∈h.Quar.Lst,iU h.Spans x.Addr x.Class
 hfl:∀ a∈aL h.Mail,iU h.Spans a (-1)
 hin:∀ a∈E,iU h.Spans a (-1)
 nd:(E++holders h).Nodup
 mem:∀ a,a∈E++holders h↔lw h.Spans h.Larges a
 job:h.Meshing=true->iR h.Job=true/\(∃ s∈h.Spans,s.Page=h.Job.Plan.Keep)/\∃ s∈h.Spans,s.Page=h.Job.Plan.Move
 noj:h.Meshing=false->qw h.Job=true
theorem bm.L {h:ab} {E:List Int} (hi:bm h E):qY h.Spans h.Larges:=qY.of hi.lay
theorem wX (t:aE) (f:Int):(pagesOn t f).Nodup:=by
 unfold pagesOn im List.Nodup;rw[List.pairwise_map];exact(List.nodup_range.sublist List.filter_sublist).imp fun h e=>h (by omega)
theorem LM {l:List Int} {a:Int} (hn:l.Nodup) (ha:a∈l) (hh:∀ x∈l,x=a):l.length=1:=by
 match l with
 | []=>cases ha
 | [_]=>rfl
 | x::y::r=>
  exfalso;have h1:=hh x (by simp);have h2:=hh y (by simp);rw[h1,h2]at hn;simp at hn
theorem du {sp:List au} {la:List aA} {s:au} (hs:s∈sp):s.Page∈pgs sp la:=by
 unfold pgs;exact C2.2 (.inl (P3.2 ⟨s,hs,rfl⟩))
theorem eY {sp:List au} {la:List aA} {l:aA} (hl:l∈la) {p:Int} (hp:p∈lpgs l l.Pages.toNat):p∈pgs sp la:=by
 unfold pgs;exact C2.2 (.inr (List.mem_flatMap.2 ⟨l,hl,hp⟩))
theorem NX {h:ab} (hlay:bg h.Spans h.Larges=true) (hr:bx (dG h) h.Free=true) (hp:pages0 h=true) (hm:mC h=true):Pg (tbl h) h.Free h.Spans h.Larges:=by
 have hL:=qY.of hlay;obtain⟨f1,f2,f3⟩:=qo hp;have f4:∀ p:Nat,p<dG h->((nth (tbl h).Entries p).Mode≠0↔¬RH h.Free p):=fun p hpn=>by
  have hp':=hp;unfold pages0 at hp';simp only[I0]at hp';have h4:=dB hp'.2 hpn;unfold tI at h4;rw[I0]at h4;have h5:=h4.2;rw[<-Du hr];cases e:h.Free.any (pN (p:Int))<;>rw[e]at h5<;>simpa using h5
 refine⟨fun l hl p hpl q hq hqm hqf=>?_,f2,f3,f4,fun s hs u hu hne hf=>?_⟩
 ·obtain⟨i,hi,rfl⟩:=bc hl
  obtain⟨k,hk,hpk⟩:=dc.1 hpl;have hpn:p<dG h:=by have:=f2 _ (eY (sp:=h.Spans) hl hpl);omega
  have hpm:=(f3 p hpn).2 (eY hl hpl);have h1:=f1 i hi k hk;rw[<-hpk,ef hpn hpm]at h1;have m1:(p:Int)∈pagesOn (tbl h) (nth (tbl h).Entries p).Frame:=dx.2 ⟨hpn,hpm,rfl⟩;have m2:(q:Int)∈pagesOn (tbl h) (nth (tbl h).Entries p).Frame:=dx.2 ⟨hq,hqm,hqf⟩;obtain⟨z,hz⟩:=List.length_eq_one_iff.1 h1;rw[hz]at m1 m2;simp only[X0]at m1 m2;omega
 ·obtain⟨i,hi,rfl⟩:=bc hs
  obtain⟨j,hj,rfl⟩:=bc hu;have hpe:∀ k,k<h.Spans.length->ar (tbl h) (nth h.Spans k).Page=nth (tbl h).Entries (nth h.Spans k).Page.toNat:=fun k hk=>by
   have hc:=aG (hL.sok _ (am hk));have hb:=f2 _ (du (la:=h.Larges) (am hk));rw[show(nth h.Spans k).Page=(((nth h.Spans k).Page.toNat:Nat):Int) by omega];exact u9 (by omega)
  unfold mC at hm;rw[cn]at hm;rcases Nat.lt_trichotomy i j with hlt|heq|hlt
  ·have h1:=dB (hm j hj) hlt
   unfold j8 at h1;rw[hpe i hi,hpe j hj,Bool.or_eq_true,C0]at h1;rw[iv];exact h1.resolve_left fun e=>e hf.symm
  ·subst heq;exact absurd rfl hne
  ·have h1:=dB (hm i hi) hlt
   unfold j8 at h1;rw[hpe i hi,hpe j hj,Bool.or_eq_true,C0]at h1;exact h1.resolve_left fun e=>e hf
theorem Hu (sp:List au):cH sp.length (uz sp)=true↔sp.Pairwise fun a b=>a.Page<b.Page:=by
 rw[cn];refine Iff.trans ?_ (tU (fun a b:Int=>a<b) (fun a b c=>Int.lt_trans) (fun s:au=>s.Page) sp);unfold uz;simp only[C0]
theorem Gc (la:List aA):cH la.length (vR la)=true↔la.Pairwise fun a b=>a.Page<b.Page:=by
 rw[cn];refine Iff.trans ?_ (tU (fun a b:Int=>a<b) (fun a b c=>Int.lt_trans) (fun s:aA=>s.Page) la);unfold vR;simp only[C0]
theorem Nw {h:ab} (hlay:bg h.Spans h.Larges=true) (hr:bx (dG h) h.Free=true) (h1:h.Spans.Pairwise fun a b=>a.Page<b.Page) (h2:h.Larges.Pairwise fun a b=>a.Page<b.Page) (hg:Pg (tbl h) h.Free h.Spans h.Larges):pages0 h=true/\mC h=true:=by
 have hL:=qY.of hlay;constructor
 ·unfold pages0
  simp only[I0];refine⟨⟨⟨(Hu _).2 h1,cn.2 fun i hi=>?_⟩,z3.2 fun p hp=>O0 (hg.bnd p hp)⟩,cn.2 fun p hp=>?_⟩
  ·unfold rM
   rw[I0];refine⟨dB ((Gc _).2 h2) hi,cn.2 fun k hk=>?_⟩;have hl:=am hi;have hf:=aV (hL.lok _ hl);obtain⟨p,hp⟩ : ∃ p:Nat,(nth h.Larges i).Page+(k:Nat)=(p:Nat):=⟨((nth h.Larges i).Page+k).toNat,by omega⟩
   have hpl:(p:Int)∈lpgs (nth h.Larges i) (nth h.Larges i).Pages.toNat:=dc.2 ⟨k,hk,hp.symm⟩;have hpn:p<dG h:=by have:=hg.bnd _ (eY (sp:=h.Spans) hl hpl);exact Int.ofNat_lt.1 this
   have hpm:=(hg.own p hpn).2 (eY hl hpl);unfold uk;rw[C0,hp,ef hpn hpm];refine LM (wX ..) (dx.2 ⟨hpn,hpm,rfl⟩) fun x hx=>?_
   obtain⟨q,rfl⟩:=sI hx;obtain⟨g1,g2,g3⟩:=dx.1 hx;rw[hg.one _ hl p hpl q g1 g2 g3]
  ·unfold tI
   rw[I0,C0];refine⟨hg.own p hp,?_⟩;have h5:=hg.fre p hp;rw[<-Du hr]at h5;cases e:h.Free.any (pN (p:Int))<;>rw[e]at h5<;>simpa using h5
 ·unfold mC
  refine cn.2 fun i hi=>cn.2 fun j hj=>?_
  have hjl:j<h.Spans.length:=by omega
  have hpe:∀ k,k<h.Spans.length->ar (tbl h) (nth h.Spans k).Page=nth (tbl h).Entries (nth h.Spans k).Page.toNat:=fun k hk=>by
   have hc:=aG (hL.sok _ (am hk));have hb:=hg.bnd _ (du (la:=h.Larges) (am hk));rw[show(nth h.Spans k).Page=(((nth h.Spans k).Page.toNat:Nat):Int) by omega];exact u9 (by unfold dG;unfold tbl at hb;omega)
  unfold j8;rw[hpe i hi,hpe j hjl,Bool.or_eq_true,C0];by_cases e:(nth (tbl h).Entries (nth h.Spans i).Page.toNat).Frame=(nth (tbl h).Entries (nth h.Spans j).Page.toNat).Frame
  ·refine .inr (hg.mesh _ (am hi) _ (am hjl) (fun e2=>?_) e)
   have:=gy (f:=(·.Page)) hL.nd hi hjl e2;omega
  ·exact .inl e
theorem JX {h:ab} (hn:bU h=true) (hL:qY h.Spans h.Larges):en h=true↔(h.Objs.Pairwise fun a b=>a.Addr<b.Addr)/\(∀ o∈h.Objs,1<=o.Id/\o.Id<=h.Next - 1/\0<=o.Thread/\o.Thread<=h.Caches.length - 1)/\(h.Objs.map (·.Id)).Nodup/\∀ o∈h.Objs,Ks h.Spans h.Larges o:=by
 unfold bU at hn;rw[C0]at hn;refine Iff.trans ?_ (and_congr (tU (fun a b:Int=>a<b) (fun a b c=>Int.lt_trans) (fun o:bO=>o.Addr) h.Objs) (and_congr Iff.rfl (and_congr (yh (fun o:bO=>o.Id) h.Objs) Iff.rfl)));unfold en;rw[dS (by omega) (by omega),cn];have hk:∀ i,i<h.Objs.length->(objAt (h.Next - 1) h i=true↔(i=0\/(nth h.Objs (i - 1)).Addr<(nth h.Objs i).Addr)/\(1<=(nth h.Objs i).Id/\(nth h.Objs i).Id<=h.Next - 1/\0<=(nth h.Objs i).Thread/\(nth h.Objs i).Thread<=h.Caches.length - 1)/\(∀ o∈h.Objs.take i,o.Id≠(nth h.Objs i).Id)/\Ks h.Spans h.Larges (nth h.Objs i)):=fun i hi=>by
  unfold objAt gz;rw[I0,I0,C0,H4 hL,Bool.not_eq_true',List.any_eq_false];simp only[jT,C0];constructor
  ·rintro⟨⟨⟨a1,a2⟩,a3⟩,a4⟩;exact⟨a1,a2,a3,a4⟩
  ·rintro⟨a1,a2,a3,a4⟩;exact⟨⟨⟨a1,a2⟩,a3⟩,a4⟩
 constructor
 ·intro h1
  have h2:=fun i hi=>(hk i hi).1 (h1 i hi)
  refine⟨fun i hi=>(h2 i hi).1,fun o ho=>?_,fun i hi=>(h2 i hi).2.2.1,fun o ho=>?_⟩
  ·obtain⟨i,hi,rfl⟩:=bc ho;exact(h2 i hi).2.1
  ·obtain⟨i,hi,rfl⟩:=bc ho;exact(h2 i hi).2.2.2
 ·rintro⟨a1,a2,a3,a4⟩ i hi
  exact(hk i hi).2 ⟨a1 i hi,a2 _ (am hi),a3 i hi,a4 _ (am hi)⟩
theorem Ej {h:ab} (hL:qY h.Spans h.Larges):fY h=true↔(∀ c∈h.Caches,∀ k:Nat,k<c.Lists.length->∀ a∈nth c.Lists k,iU h.Spans a k)/\(∀ x∈h.Quar.Lst,iU h.Spans x.Addr x.Class)/\∀ a∈aL h.Mail,iU h.Spans a (-1):=by
 rw[kw];simp only[z3,dQ,cn,qA,gx,jl,JR hL,and_assoc]
theorem Fo {p:Int} {h:ab} : 0<=fV h p↔∃ s∈h.Spans,s.Page=p:=by
 unfold fV;rw[show(0<=dw (ja p) h.Spans)↔(decide (dw (ja p) h.Spans≥0)=true) by simp,kS,v3];simp[ja]
theorem bm.to {h:ab} (hi:bm h []):dm h=true:=by
 have hL:=hi.L;obtain⟨p1,p2⟩:=Nw hi.lay hi.rng hi.srs hi.srl hi.pg;have hob:=(JX hi.nums hL).2 ⟨hi.osr,hi.onu,hi.oid,hi.oow⟩;have hhe:=(Ej hL).2 ⟨hi.hca,hi.hqu,hi.hfl⟩;unfold dm iV;simp only[I0];refine⟨⟨⟨⟨⟨⟨⟨⟨⟨⟨hi.ker,hi.rng⟩,hi.lay⟩,p1⟩,by rw[xW hi.lay p1];exact p2⟩,?_⟩,?_⟩,z3.2 hi.cach⟩,hi.nums⟩,hob,?_⟩,?_⟩
 ·unfold cU
  rw[hi.mail,hi.quar,O0 hi.nc];rfl
 ·unfold kx
  exact z3.2 fun x hx=>O0 (hi.snc x hx)
 ·unfold gV
  have hn:(holders h).Nodup:=by simpa using hi.nd
  have hm:∀ a,a∈holders h↔a∈gH h.Spans h.Larges:=fun a=>by rw[Ju hL,<-hi.mem a];simp
  have hp:(holders h).Perm (gH h.Spans h.Larges):=(List.perm_ext_iff_of_nodup hn (nL ..)).2 hm;rw[hhe,O0 hn,O0 hp.length_eq];rfl
 ·unfold sU
  cases hm:h.Meshing with
  | true=>
   obtain⟨j1,j2,j3⟩:=hi.job hm;rw[if_pos rfl,j1,O0 (Fo.2 j2),O0 (Fo.2 j3)];rfl
  | false=>rw[if_neg (by simp)];exact hi.noj hm
def dele {α:Type} (xs:List α) (i:Nat):List α:=xs.take i++xs.drop (i+1)
theorem fe {α:Type} (xs:List α) (i:Nat):(dele xs i).Sublist xs:=by
 unfold dele;rw[<-List.eraseIdx_eq_take_drop_succ];exact List.eraseIdx_sublist ..
theorem xZ {α:Type} [Inhabited α] {xs:List α} {i:Nat} (hi:i<xs.length):xs.Perm (nth xs i::dele xs i):=by
 have:xs=xs.take i++nth xs i::xs.drop (i+1):=by rw[<-iG hi,List.take_append_drop]
 conv=>lhs;rw[this]
 exact List.perm_middle
theorem ic {α:Type} [Inhabited α] (f:α->List Int) (a:Int):∀ (xs:List α) (i:Nat) (y:α),i<xs.length->((xs.set i y).flatMap f).count a+(f (nth xs i)).count a=(xs.flatMap f).count a+(f y).count a
 | [],i,_,h=>by cases h
 | x::xs,0,y,_=>by
  show((y::xs).flatMap f).count a+(f x).count a=((x::xs).flatMap f).count a+(f y).count a;rw[List.flatMap_cons,List.flatMap_cons,List.count_append,List.count_append];omega
 | x::xs,i+1,y,h=>by
  have:=ic f a xs i y (by simpa using h);show((x::xs.set i y).flatMap f).count a+(f (nth xs i)).count a=((x::xs).flatMap f).count a+(f y).count a;rw[List.flatMap_cons,List.flatMap_cons,List.count_append,List.count_append];omega
theorem jD (ls:List (List Int)):ls.flatten=ls.flatMap fun x=>x:=by
 induction ls with
 | nil=>rfl
 | cons x xs ih=>rw[List.flatten_cons,List.flatMap_cons,ih]
theorem iU.any {sp:List au} {a c:Int} (h:iU sp a c):iU sp a (-1):=by
 obtain⟨s,hs,h1,-⟩:=h;exact⟨s,hs,h1,.inl (by decide)⟩
theorem bm.cells {h:ab} {E:List Int} (hi:bm h E) {k:af} (hk:a8 k=true) (ht:k.Machine.Table=h.Kernel.Machine.Table):bm {h with Kernel:=k} E:=
 {hi with
   ker:=hk
   rng:=by show bx ((k.Machine.Table.Entries.length:Nat):Int) h.Free=true;rw[ht];exact hi.rng
   pg:=by show Pg k.Machine.Table h.Free h.Spans h.Larges;rw[ht];exact hi.pg}
theorem bm.dropO {h:ab} {E:List Int} {i:Nat} (hi:bm h E) (li:i<h.Objs.length) (hs:iU h.Spans (nth h.Objs i).Addr (-1)):bm {h with Objs:=dele h.Objs i} ((nth h.Objs i).Addr::E):=by
 have hp:(E++holders h).Perm (((nth h.Objs i).Addr::E)++holders {h with Objs:=dele h.Objs i}):=by
  have h0:=(xZ li).map (·.Addr);refine List.perm_iff_count.2 fun a=>?_
  have h1:=h0.count_eq a;simp only[List.map_cons,List.count_cons]at h1;simp only[holders,ch,List.count_append,List.cons_append,List.count_cons];omega
 have hd:(dele h.Objs i).Sublist h.Objs:=fe ..;exact {hi with
   osr:=hi.osr.sublist hd
   onu:=fun o ho=>hi.onu o (hd.subset ho)
   oid:=hi.oid.sublist (hd.map _)
   oow:=fun o ho=>hi.oow o (hd.subset ho)
   hin:=fun a ha=>by
     rcases List.mem_cons.1 ha with rfl|ha
     · exact hs
     · exact hi.hin a ha
   nd:=hp.nodup_iff.1 hi.nd
   mem:=fun a=>by rw[<-hp.mem_iff];exact hi.mem a}
def mt (c:aC) (k:Nat) (a:Int):aC:=⟨c.Lists.set k (nth c.Lists k++[a])⟩
theorem bm.put {h:ab} {E:List Int} {a:Int} {t k:Nat} (hi:bm h (a::E)) (ht:t<h.Caches.length) (hk:k<(nth h.Caches t).Lists.length) (hs:iU h.Spans a k) (hc:bn (mt (nth h.Caches t) k a)=true):bm {h with Caches:=h.Caches.set t (mt (nth h.Caches t) k a)} E:=by
 have hp:(a::E++holders h).Perm (E++holders {h with Caches:=h.Caches.set t (mt (nth h.Caches t) k a)}):=by
  refine List.perm_iff_count.2 fun b=>?_
  have h1:=ic (fun c:aC=>c.Lists.flatten) b h.Caches t (mt (nth h.Caches t) k a) ht;have h2:=ic (fun x:List Int=>x) b (nth h.Caches t).Lists k (nth (nth h.Caches t).Lists k++[a]) hk;rw[<-jD,<-jD]at h2;simp only[List.count_append,List.count_singleton]at h2;simp only[mt]at h1;simp only[holders,ch,mt,List.count_append,List.cons_append,List.count_cons];omega
 exact {hi with
   nc:=by show(h.Caches.set ..).length=_;rw[Z0];exact hi.nc
   cach:=fun c hcm=>by
     rcases List.mem_or_eq_of_mem_set hcm with hcm|rfl
     · exact hi.cach c hcm
     · exact hc
   onu:=by show ∀ o∈h.Objs,1<=o.Id/\o.Id<=h.Next - 1/\0<=o.Thread/\o.Thread<=(h.Caches.set t _).length - 1;rw[Z0];exact hi.onu
   hca:=fun c hcm j hj b hb=>by
     rcases List.mem_or_eq_of_mem_set hcm with hcm|rfl
     · exact hi.hca c hcm j hj b hb
     · simp only[mt,Z0]at hj
       simp only[mt,cx]at hb;by_cases e:k=j
       · subst e
         rw[if_pos ⟨rfl,hj⟩]at hb;rcases C2.1 hb with hb|hb
         · exact hi.hca _ (am ht) _ hj b hb
         · rw[X0.1 hb];exact hs
       · rw[if_neg fun x=>e x.1]at hb
         exact hi.hca _ (am ht) _ hj b hb
   hin:=fun b hb=>hi.hin b (List.mem_cons_of_mem _ hb)
   nd:=hp.nodup_iff.1 hi.nd
   mem:=fun b=>by rw[<-hp.mem_iff];exact hi.mem b}
theorem bm.toQuar {h:ab} {E:List Int} {x:aM} {q:bB} {out:List aM} (hi:bm h (x.Addr::E)) (hq:eN q=true) (he:h.Quar.Lst++[x]=out++q.Lst) (hx:x.Since<=h.Clock) (hs:iU h.Spans x.Addr x.Class):bm {h with Quar:=q} (out.map (·.Addr)++E):=by
 have hall:∀ y∈out++q.Lst,y.Since<=h.Clock/\iU h.Spans y.Addr y.Class:=fun y hy=>by
  rw[<-he]at hy;rcases C2.1 hy with hy|hy
  ·exact⟨hi.snc y hy,hi.hqu y hy⟩
  ·rw[X0.1 hy];exact⟨hx,hs⟩
 have hp:(x.Addr::E++holders h).Perm ((out.map (·.Addr)++E)++holders {h with Quar:=q}):=by
  refine List.perm_iff_count.2 fun b=>?_
  have h1:=R0 (fun l:List aM=>(l.map (·.Addr)).count b) he;simp only[List.map_append,List.count_append,List.map_cons,List.map_nil,List.count_singleton]at h1;simp only[holders,ch,List.count_append,List.cons_append,List.count_cons];omega
 exact {hi with
   quar:=hq
   snc:=fun y hy=>(hall y (C2.2 (.inr hy))).1
   hqu:=fun y hy=>(hall y (C2.2 (.inr hy))).2
   hin:=fun b hb=>by
     rcases C2.1 hb with hb|hb
     · obtain⟨y,hy,rfl⟩:=P3.1 hb
       exact(hall y (C2.2 (.inl hy))).2.any
     · exact hi.hin b (List.mem_cons_of_mem _ hb)
   nd:=hp.nodup_iff.1 hi.nd
   mem:=fun b=>by rw[<-hp.mem_iff];exact hi.mem b}
def x8 (b i:Int):Int:=((BitVec.ofInt IntKind.i64.bits b &&& ~~~BitVec.ofInt IntKind.i64.bits (2 ^ i.toNat)).toNat:Nat)
def lK (s:au) (i:Int):au:={s with Bits:=x8 s.Bits i}
theorem fU (b i:Int):aY b i=true↔0<=b/\0<=i/\i<=15/\b.toNat.testBit i.toNat=true:=by
 unfold aY;rw[C0];refine and_congr_right fun hb=>and_congr_right fun hi=>and_congr_right fun _=>?_
 obtain⟨n,rfl⟩:=Z1 hb;rw[Nat.testBit_eq_decide_div_mod_eq,C0,W1]
 norm_cast
theorem Bi {b i:Int} (hb:0<=b/\b<=65535) (hi:0<=i/\i<=15) (j:Nat):(x8 b i).toNat.testBit j=(b.toNat.testBit j&&decide (i.toNat≠j)):=by
 have h2:(2:Int) ^ i.toNat<=32768/\0<=(2:Int) ^ i.toNat:=by
  obtain⟨n,rfl⟩:=Z1 hi.1;rw[W1];have:(2:Nat) ^ n<=2 ^ 15:=Nat.pow_le_pow_right (by decide) (by omega);have h3:((2 ^ n:Nat):Int)=(2:Int) ^ n:=Int.natCast_pow 2 n;rw[<-h3];exact⟨Int.ofNat_le.2 this,Int.natCast_nonneg _⟩
 unfold x8;rw[W1,BitVec.testBit_toNat,BitVec.getLsbD_and,BitVec.getLsbD_not,<-BitVec.testBit_toNat,<-BitVec.testBit_toNat,lC (by omega),lC (by omega)];rw[show((2:Int) ^ i.toNat).toNat=2 ^ i.toNat by rw[show(2:Int) ^ i.toNat=((2 ^ i.toNat:Nat):Int) by norm_cast,W1],Nat.testBit_two_pow];by_cases hj:j<64
 ·rw[show decide (j<IntKind.i64.bits)=true from O0 hj,Bool.true_and]
  congr 1
  by_cases e:i.toNat=j
  ·rw[O0 e,P0 (fun x=>x e)];rfl
  ·rw[P0 e,O0 e];rfl
 ·rw[Nat.testBit_lt_two_pow (x:=b.toNat) (i:=j) (X2 (show b.toNat<2 ^ 16 by omega) (Nat.pow_le_pow_right (by decide) (by omega)))]
  rfl
theorem Al {b i:Int} (hb:0<=b/\b<=65535):0<=x8 b i/\x8 b i<=b:=by
 unfold x8;refine⟨by omega,?_⟩;rw[BitVec.toNat_and,lC (by omega)];have:=Nat.and_le_left (n:=b.toNat) (m:=(~~~BitVec.ofInt IntKind.i64.bits (2 ^ i.toNat)).toNat);omega
theorem Kk {b i:Int} (hb:0<=b/\b<=65535) (hi:0<=i/\i<=15) (j:Int):aY (x8 b i) j=true↔aY b j=true/\j≠i:=by
 rw[fU,fU,Bi hb hi,I0,C0];have:=Al (i:=i) hb;constructor
 ·rintro⟨a1,a2,a3,a4,a5⟩;exact⟨⟨hb.1,a2,a3,a4⟩,fun e=>a5 (by rw[e])⟩
 ·rintro⟨⟨a1,a2,a3,a4⟩,a5⟩;exact⟨this.1,a2,a3,a4,fun e=>a5 (by omega)⟩
theorem eg {s:au} (h:bf s=true):0<=s.Bits/\s.Bits<=65535:=by
 unfold bf at h;simp only[C0]at h;have:=Eb s.Class;omega
theorem Fy {s:au} (h:bf s=true) (i:Int):bf (lK s i)=true:=by
 have h1:=eg h;have h2:=Al (i:=i) h1;unfold bf at h;rw[C0]at h;obtain⟨a1,a2,a3,a4,a5,a6⟩:=h;exact O0 ⟨a1,a2,a3,a4,h2.1,X3 h2.2 a6⟩
theorem rE {s u:au} (hs:bf s=true) {i:Int} (hi:0<=i/\i<=15) (h:meshable s u=true):meshable (lK s i) u=true:=by
 unfold meshable at h |-;simp only[I0,C0]at h |-;obtain⟨⟨h1,h2⟩,h3,h4,h5⟩:=h;refine⟨⟨Fy h1 i,h2⟩,h3,h4,?_⟩;refine Nat.eq_of_testBit_eq fun j=>?_
 have:=R0 (fun n=>Nat.testBit n j) h5;simp only[Nat.testBit_and,Nat.zero_testBit,lK,Bi (eg hs) hi]at this |-;cases e1:s.Bits.toNat.testBit j<;>cases e2:u.Bits.toNat.testBit j<;>rw[e1,e2]at this<;>simp_all
def dN (s:au) (a:Int):Int:=(a - 16*s.Page) / csz s.Class
theorem rC {s:au} (h:bf s=true) {a:Int} (ha:16*s.Page<=a/\a<=16*s.Page+15):0<=dN s a/\dN s a<=15:=by
 have hc:=aG h;unfold dN;rcases cj ⟨hc.2.2.1,hc.2.2.2⟩ with e|e|e|e<;>rw[e]<;>omega
theorem Ec {s:au} (h:bf s=true) {a b:Int} (ha:(a - 16*s.Page) % csz s.Class=0) (hb:(b - 16*s.Page) % csz s.Class=0) (e:dN s a=dN s b):a=b:=by
 have hc:=aG h;unfold dN at e;rcases cj ⟨hc.2.2.1,hc.2.2.2⟩ with z|z|z|z<;>rw[z]at ha hb e<;>omega
theorem y9 {s:au} (h:bf s=true) {a:Int} (ha:eP s a) (b:Int):eP (lK s (dN s a)) b↔eP s b/\b≠a:=by
 obtain⟨a1,a2,a3,a4⟩:=ha;have hbd:=rC h ⟨a1,a2⟩;unfold eP;simp only[lK];rw[Kk (eg h) hbd];constructor
 ·rintro⟨b1,b2,b3,b4,b5⟩
  exact⟨⟨b1,b2,b3,b4⟩,fun e=>b5 (by rw[e];rfl)⟩
 ·rintro⟨⟨b1,b2,b3,b4⟩,b5⟩
  exact⟨b1,b2,b3,b4,fun e=>b5 (Ec h b3 a3 e)⟩
theorem eI {α:Type} [Inhabited α] {xs:List α} {i:Nat} {y z:α} (h:z∈xs.set i y):z=y\/∃ j,j<xs.length/\j≠i/\nth xs j=z:=by
 obtain⟨j,hj,rfl⟩:=List.mem_iff_getElem.1 h;rw[List.getElem_set];by_cases e:i=j
 ·subst e;simp
 ·rw[if_neg e]
  rw[Z0]at hj;exact .inr ⟨j,hj,fun x=>e x.symm,bq (Q1 hj)⟩
theorem iP {α:Type} [Inhabited α] {xs:List α} {i j:Nat} (y:α) (hj:j<xs.length) (e:j≠i):nth xs j∈xs.set i y:=by
 have:nth (xs.set i y) j=nth xs j:=by rw[cx,if_neg fun x=>e x.1.symm]
 rw[<-this];exact am (by rw[Z0];exact hj)
theorem ij {α:Type} {xs:List α} {i:Nat} (y:α) (hi:i<xs.length):y∈xs.set i y:=by
 refine List.mem_iff_getElem.2 ⟨i,by rw[Z0];exact hi,by simp⟩
theorem HG {sp:List au} {i:Nat} (k:Int) (hi:i<sp.length):(sp.set i (lK (nth sp i) k)).map (·.Page)=sp.map (·.Page):=by
 rw[List.map_set];refine List.ext_getElem (by simp) fun j h1 h2=>?_
 rw[List.getElem_set];split
 ·rename_i e;subst e
  rw[List.getElem_map];show(nth sp i).Page=_;rw[bq (Q1 hi)]
 ·rfl
theorem iU.set {sp:List au} {la:List aA} (hL:qY sp la) {i:Nat} (hi:i<sp.length) {a:Int} (ha:eP (nth sp i) a) (b c:Int):iU (sp.set i (lK (nth sp i) (dN (nth sp i) a))) b c↔iU sp b c/\b≠a:=by
 have hsi:=hL.sok _ (am hi);constructor
 ·rintro⟨s,hs,h1,h2⟩
  rcases eI hs with rfl|⟨j,hj,hji,rfl⟩
  ·have:=(y9 hsi ha b).1 h1
   exact⟨⟨_,am hi,this.1,h2⟩,this.2⟩
  ·refine⟨⟨_,am hj,h1,h2⟩,fun e=>?_⟩
   subst e;have:=gy (f:=(·.Page)) hL.nd hi hj (by have a1:=ha.1;have a2:=ha.2.1;have b1:=h1.1;have b2:=h1.2.1;omega);omega
 ·rintro⟨⟨s,hs,h1,h2⟩,hne⟩
  obtain⟨j,hj,rfl⟩:=bc hs;by_cases e:j=i
  ·subst e
   exact⟨_,ij _ hi,(y9 hsi ha b).2 ⟨h1,hne⟩,h2⟩
  ·exact⟨_,iP _ hj e,h1,h2⟩
theorem bm.give {h:ab} {E:List Int} {a:Int} {i:Nat} (hi:bm h (a::E)) (li:i<h.Spans.length) (ha:eP (nth h.Spans i) a):bm {h with Spans:=h.Spans.set i (lK (nth h.Spans i) (dN (nth h.Spans i) a))} E:=by
 have hL:=hi.L;have hsi:=hL.sok _ (am li);have hbd:=rC hsi ⟨ha.1,ha.2.1⟩;have hSl:=fun b c=>iU.set hL li ha b c
 have hpg:=HG (dN (nth h.Spans i) a) li;generalize hsp:h.Spans.set i (lK (nth h.Spans i) (dN (nth h.Spans i) a))=sp at hSl hpg;have hpgs:pgs sp h.Larges=pgs h.Spans h.Larges:=by unfold pgs;rw[hpg]
 have hnd:=hi.nd;rw[List.cons_append]at hnd;obtain⟨hna,hnd⟩:=List.nodup_cons.1 hnd;have hne:∀ b,b∈E++holders h->b≠a:=fun b hb e=>hna (by rw[<-e];exact hb)
 have hho:∀ b,b∈holders h->b≠a:=fun b hb=>hne b (C2.2 (.inr hb))
 have hla:∀ l∈h.Larges,16*l.Page≠a:=fun l hl e=>(un hL hl).1 _ (am li) (by have a1:=ha.1;have a2:=ha.2.1;omega)
 have hsp':∀ s∈sp,∃ u∈h.Spans,u.Page=s.Page/\(s=u\/s=lK u (dN (nth h.Spans i) a)):=fun s hs=>by
  rw[<-hsp]at hs;rcases eI hs with rfl|⟨j,hj,hji,rfl⟩
  ·exact⟨_,am li,rfl,.inr rfl⟩
  ·exact⟨_,am hj,rfl,.inl rfl⟩
 have hbk:∀ u∈h.Spans,∃ s∈sp,s.Page=u.Page:=fun u hu=>by
  have:u.Page∈sp.map (·.Page):=by rw[hpg];exact P3.2 ⟨u,hu,rfl⟩
  obtain⟨s,hs,e⟩:=P3.1 this;exact⟨s,hs,e⟩
 exact {hi with
   lay:=by
     obtain⟨l1,l2,l3⟩:=cZ hi.lay;unfold bg;simp only[I0,C0];refine⟨⟨z3.2 fun s hs=>?_,l2⟩,by rw[hpgs];exact l3⟩;obtain⟨u,hu,-,rfl|rfl⟩:=hsp' s hs
     · exact hL.sok _ hu
     · exact Fy (hL.sok _ hu) _
   srs:=by
     have h1:(h.Spans.map (·.Page)).Pairwise (fun a b=>a<b):=List.pairwise_map.2 hi.srs;rw[<-hpg]at h1;exact List.pairwise_map.1 h1
   pg:=⟨hi.pg.one,by rw[hpgs];exact hi.pg.bnd,by rw[hpgs];exact hi.pg.own,hi.pg.fre,fun s hs u hu hne hf=>by
     obtain⟨s',hs',es,hs2⟩:=hsp' s hs;obtain⟨u',hu',eu,hu2⟩:=hsp' u hu;have h1:=hi.pg.mesh s' hs' u' hu' (by rw[es,eu];exact hne) (by rw[es,eu];exact hf);have h2:meshable s u'=true:=by
       rcases hs2 with rfl|rfl
       · exact h1
       · exact rE (hL.sok _ hs') hbd h1
     rcases hu2 with rfl|rfl
     · exact h2
     · rw[iv]at h2 |-;exact rE (hL.sok _ hu') hbd h2⟩
   oow:=fun o ho=>by
     have hoa:o.Addr≠a:=hho _ (by unfold holders;simp only[C2];exact .inl (.inl (.inl (P3.2 ⟨o,ho,rfl⟩))));rcases hi.oow o ho with⟨s,hs,h1,h2⟩|h1
     · obtain⟨u,hu,g1,g2⟩:=(hSl o.Addr (aN o.Size)).2 ⟨⟨s,hs,h1,.inr h2⟩,hoa⟩
       refine .inl ⟨u,hu,g1,?_⟩;rcases g2 with g2|g2
       · have:=aG (hL.sok _ hs);omega
       · exact g2
     · exact .inr h1
   hca:=fun c hc k hk b hb=>(hSl b k).2 ⟨hi.hca c hc k hk b hb,hho b (by
     unfold holders ch;simp only[C2];exact .inl (.inl (.inr (List.mem_flatMap.2 ⟨c,hc,List.mem_flatten.2 ⟨_,am hk,hb⟩⟩))))⟩
   hqu:=fun x hx=>(hSl _ _).2 ⟨hi.hqu x hx,hho _ (by unfold holders;simp only[C2];exact .inl (.inr (P3.2 ⟨x,hx,rfl⟩)))⟩
   hfl:=fun b hb=>(hSl _ _).2 ⟨hi.hfl b hb,hho _ (by unfold holders;simp only[C2];exact .inr hb)⟩
   hin:=fun b hb=>(hSl _ _).2 ⟨hi.hin b (List.mem_cons_of_mem _ hb),hne b (C2.2 (.inl hb))⟩
   nd:=hnd
   mem:=fun b=>by
     show b∈E++holders h↔lw sp h.Larges b;have h1:=hi.mem b;rw[List.cons_append,List.mem_cons]at h1;unfold lw at h1 |-;rw[hSl];constructor
     · intro hb
       rcases h1.1 (.inr hb) with h2|h2
       · exact .inl ⟨h2,hne b hb⟩
       · exact .inr h2
     · rintro(⟨h2,h3⟩|⟨l,hl,rfl⟩)
       · exact(h1.2 (.inl h2)).resolve_left h3
       · exact(h1.2 (.inr ⟨l,hl,rfl⟩)).resolve_left (hla l hl)
   job:=fun hm=>by
     obtain⟨j1,⟨s,hs,e1⟩,⟨u,hu,e2⟩⟩:=hi.job hm;obtain⟨s',hs',g1⟩:=hbk s hs;obtain⟨u',hu',g2⟩:=hbk u hu;exact⟨j1,⟨s',hs',g1.trans e1⟩,⟨u',hu',g2.trans e2⟩⟩}
end Go.Proofs.YtembpgjjnioagaaGreat.Ab
