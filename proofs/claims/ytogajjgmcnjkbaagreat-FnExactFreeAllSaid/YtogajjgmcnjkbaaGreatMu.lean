/- Freeing: the program's functions: a span given back, a slot made free, an address used again. No condition. -/
import Derived.Test.YtogajjgmcnjkbaaGreatMt
import Derived.Test.YtogajjgmcnjkbaaGreatMs
namespace Go.Proofs.YtogajjgmcnjkbaaGreat.Ab
open Go.RowKit
set_option maxRecDepth 20000
set_option maxHeartbeats 4000000
theorem HH {c c':C} (h:c'=c):HF c c':=by subst h;exact dE _
theorem Gg (k:ao) (p:Int):gd k p 1=cX k p:=by show cX k (p+((0:Nat):Int))=_;rw[show p+((0:Nat):Int)=p by omega]
theorem oQ {h:ac} (hne:h.Spans≠[]):fh h=cE h (.s .own (h.Spans.map (am.enc .own))) (oL h) (oO h):=by
 unfold fh oS;rw[zU fun e=>hne (List.map_eq_nil_iff.1 e)]
theorem Hu (h:ac):oL h=.s .own (h.Larges.map (ah.enc .own))∨(h.Larges=[]∧oL h=.s .imm []):=by
 rcases pz (rows:=h.Larges.map (ah.enc .own)) with e|⟨e1,e2⟩
 ·exact .inl e
 ·exact .inr ⟨List.map_eq_nil_iff.1 e1,e2⟩
theorem gS {α:Type} {xs:List α} {i:Nat} (h:i<xs.length):xs≠[]:=fun e=>by subst e;cases h
theorem ud (h:ac) (i:Nat) (hk:bf h.Kernel=true) (hc:h.Kernel.Calls≠100000) (hfl:h.Free.length≤1048576) (li:i<h.Spans.length) (hls:h.Spans.length≤1048576) (hp:0≤(nth h.Spans i).Page∧(nth h.Spans i).Page≤31) :
  bm Tryz.prog 281 false [.ptr (fh h),.val none [I (i:Nat)]] [.ptr (fh (BO h i)),.val none [I (i:Nat)]] (.tup []) []:=by
 have hx:=au li
 have c1:=zv h.Spans i li
 have c2:=mC {h with Spans:=dele h.Spans i} ⟨(nth h.Spans i).Page,1⟩ 1 hk hc hfl ⟨rfl,hp.1,by show(nth h.Spans i).Page≤1000;omega,by omega⟩
 rw[show gd ({h with Spans:=dele h.Spans i} : ac).Kernel (al.mk (nth h.Spans i).Page 1).At 1=cX h.Kernel (nth h.Spans i).Page from Gg _ _]at c2
 have hg:fh {h with Spans:=dele h.Spans i} = cE h (oE ((dele h.Spans i).map (am.enc .own))) (oL h) (oO h):=rfl
 rw[oQ (gS li)]
 rcases pz (rows:=(dele h.Spans i).map (am.enc .own)) with e|⟨-,e⟩
 all_goals
  rw[hg]at c2
  rw[e]at c1 c2
  refine bL (n:=28) (mo:=[(341,[1,0,0]),(182,[2,0])]) (tb:=[]) [(0,0),(0,0)] Tryz.func281 (by kernel_rfl) rfl (by kernel_rfl) (by rfl) (by rfl) (.inr trivial) fun u q=>?_
  repeat'((conv=>whnf);first|with_reducible (first|refine Lm ?_|refine Wm (by omega) ?_|refine Ix.nat (aa hx) ?_|refine Bn ?_|refine Fm rfl ?_)|refine Bt ?_|refine Bu ?_|refine Sm.rf ?_|refine Rw.one rfl (aa hx) rfl ?_|refine dZ.mk (c1) (.inl rfl) ?_|refine dZ.mk (c2) (.inl rfl) ?_)
  refine cY.mk rfl rfl ?_
  repeat'(first|exact trivial|rfl|refine And.intro ?_ ?_|(exact bQ (by first|omega|(simp only;omega)|(simp;omega))))
theorem FB {h:ac} {E:List Int} (hi:ef h E) {i:Nat} (li:i<h.Spans.length) {a:Int} (hs:gg (nth h.Spans i) a):denotes h.Spans h.Larges a = ⟨1,i,dt (nth h.Spans i) a,0⟩:=by
 rw[fA hi.L li ⟨hs.1,hs.2.1⟩]
 unfold mh
 rw[hs.2.2.2,hs.2.2.1];rfl
theorem rp (h:ac) (E:List Int) (a:Int) (hi:ef h (a::E)) (hc:h.Kernel.Calls≠100000):bm Tryz.prog 194 false [.ptr (fh h),.val none [I a]] [.ptr (fh (freeA h a)),.val none [I a]] (.tup []) []:=by
 obtain⟨li,hs,hon⟩:=hi.at (hi.hin a (List.mem_cons_self ..))
 have hbd:=(hi.hin a (List.mem_cons_self ..)).bd hi
 have hl:=hi.lens
 have hls:=hl.spans
 have hll:=hl.larges
 unfold freeA
 generalize re h a=i at li hs
 have hso:=hi.L.sok _ (ay li)
 have hcl:=aU hso
 have hx:=au li
 have c1:=iR h.Spans h.Larges a ⟨by omega,fun _ _=>trivial⟩ ⟨by omega,fun _ _=>trivial⟩
 rw[FB hi li hs]at c1
 have c3:=um (nth h.Spans i) (dt (nth h.Spans i) a) hso hs.2.2.2
 have hg:=hi.give li hs
 have c4:=E4 (ir h i a) (nth h.Spans i).Page
 rw[show k8 (ir h i a) (nth h.Spans i).Page=k8 h (nth h.Spans i).Page from rfl]at c4
 have hlc:i<(ir h i a).Spans.length:=by unfold ir;simp only[List.length_set];exact li
 have hpc:(nth (ir h i a).Spans i).Page=(nth h.Spans i).Page:=by unfold ir;simp only[iI,true_and];rw[if_pos li];rfl
 have c5:=ud (ir h i a) i hi.ker hc (by show h.Free.length≤_;have:=hl.free;omega) hlc (by unfold ir;simp only[List.length_set];omega) (by rw[hpc];omega)
 have hcs:fh (ir h i a)=cE h (.s .own ((h.Spans.map (am.enc .own)).set i (am.enc .own (jj (nth h.Spans i) (dt (nth h.Spans i) a))))) (oL h) (oO h):=by
  rw[oQ (gS hlc)]
  show cE h (.s .own ((h.Spans.set i _).map _)) (oL h) (oO h)=_
  rw[List.map_set]
 have hz:=lF (ir h i a)
 rw[hcs]at hz c5
 have hy:((h.Spans.map (am.enc .own)).set i (am.enc .own (jj (nth h.Spans i) (dt (nth h.Spans i) a))))[i]? = some (am.enc .own (jj (nth h.Spans i) (dt (nth h.Spans i) a))):=o8 li
 rw[oQ (gS li)]
 have hzl:=Hz h
 unfold freeS
 rcases Hu h with e|⟨hle,e⟩
 all_goals
  try rw[hle]at c1
  rw[e]at c5 hz hzl hcs ⊢
  by_cases e1:(jj (nth h.Spans i) (dt (nth h.Spans i) a)).Bits=0
  ·cases e2:k8 h (nth h.Spans i).Page<;>rw[e2]at c4
   ·rw[if_pos ⟨e1,rfl⟩]
    refine bL (n:=64) (mo:=[(281,[2,0])]) (tb:=[(0,11,[6,7,8,9,10,11,12,13,14,15,4]),(2,277,[20,21,22,23,24,25,26,27,28,29,30,31,32,33,34,35,36,19,37,38,39,0,1,2,3,4,5,6,7,8,9,10,11,12,13,14,15,16,17,18,19,20,21,1019]),(3,9,[40,41,42,43,44,45,46,47,5]),(4,9,[48,49,50,51,52,53,54,55,56])]) [(0,0),(0,0)] Tryz.func194 (by kernel_rfl) rfl (by kernel_rfl) (by rfl) (by rfl) (.inr trivial) fun u q=>?_
    repeat'((conv=>whnf);first|with_reducible (first|refine Lm ?_|refine Wm (by omega) ?_|refine eT (by omega) (fun hq=>?_)|refine nF (by omega) (fun hq=>?_)|refine Bn ?_|refine Fm rfl ?_)|refine Bt ?_|refine Bu ?_|refine Sm.rf ?_|refine Cl.eq (c1) ⟨⟨rfl,dG _⟩,⟨rfl,gc _⟩,⟨rfl,rfl⟩,trivial⟩ ?_|refine Cl.eq (c1) ⟨⟨rfl,dG _⟩,⟨rfl,rfl⟩,⟨rfl,rfl⟩,trivial⟩ ?_|refine Ix.nat (aa hx) ?_|refine Ix.nat hy ?_|refine Rw.one rfl (aa hx) rfl ?_|refine Rw.one rfl hy rfl ?_|refine Cl.mk (c3) ?_|refine Sm.rf ?_|refine Pu.one rfl rfl (aa hx) rfl (Nat.le_of_ble_eq_true rfl) rfl ?_|refine Cl.eq (c4) ⟨⟨rfl,hz⟩,⟨rfl,rfl⟩,trivial⟩ ?_|refine dZ.mk (c5) (.inl rfl) ?_)
    refine cY.mk rfl rfl ?_
    repeat'(first|exact trivial|rfl|refine And.intro ?_ ?_|(exact bQ (by first|omega|(simp only;omega)|(simp;omega))))
   ·rw[if_neg (fun x=>by cases x.2),hcs]
    refine bL (n:=64) (mo:=[(281,[2,0])]) (tb:=[(0,11,[6,7,8,9,10,11,12,13,14,15,4]),(2,277,[20,21,22,23,24,25,26,27,28,29,30,31,32,33,34,35,36,19,37,38,39,0,1,2,3,4,5,6,7,8,9,10,11,12,13,14,15,16,17,18,19,20,21,1019]),(3,9,[40,41,42,43,44,45,46,47,5]),(4,9,[48,49,50,51,52,53,54,55,56])]) [(0,0),(0,0)] Tryz.func194 (by kernel_rfl) rfl (by kernel_rfl) (by rfl) (by rfl) (.inr trivial) fun u q=>?_
    repeat'((conv=>whnf);first|with_reducible (first|refine Lm ?_|refine Wm (by omega) ?_|refine eT (by omega) (fun hq=>?_)|refine nF (by omega) (fun hq=>?_)|refine Bn ?_|refine Fm rfl ?_)|refine Bt ?_|refine Bu ?_|refine Sm.rf ?_|refine Cl.eq (c1) ⟨⟨rfl,dG _⟩,⟨rfl,gc _⟩,⟨rfl,rfl⟩,trivial⟩ ?_|refine Cl.eq (c1) ⟨⟨rfl,dG _⟩,⟨rfl,rfl⟩,⟨rfl,rfl⟩,trivial⟩ ?_|refine Ix.nat (aa hx) ?_|refine Ix.nat hy ?_|refine Rw.one rfl (aa hx) rfl ?_|refine Rw.one rfl hy rfl ?_|refine Cl.mk (c3) ?_|refine Sm.rf ?_|refine Pu.one rfl rfl (aa hx) rfl (Nat.le_of_ble_eq_true rfl) rfl ?_|refine Cl.eq (c4) ⟨⟨rfl,hz⟩,⟨rfl,rfl⟩,trivial⟩ ?_|refine dZ.mk (c5) (.inl rfl) ?_)
    refine cY.mk rfl rfl ?_
    repeat'(first|exact trivial|rfl|refine And.intro ?_ ?_|(exact bQ (by first|omega|(simp only;omega)|(simp;omega))))
  ·rw[if_neg (fun x=>e1 x.1),hcs]
   refine bL (n:=64) (mo:=[(281,[2,0])]) (tb:=[(0,11,[6,7,8,9,10,11,12,13,14,15,4]),(2,277,[20,21,22,23,24,25,26,27,28,29,30,31,32,33,34,35,36,19,37,38,39,0,1,2,3,4,5,6,7,8,9,10,11,12,13,14,15,16,17,18,19,20,21,1019]),(3,9,[40,41,42,43,44,45,46,47,5]),(4,9,[48,49,50,51,52,53,54,55,56])]) [(0,0),(0,0)] Tryz.func194 (by kernel_rfl) rfl (by kernel_rfl) (by rfl) (by rfl) (.inr trivial) fun u q=>?_
   repeat'((conv=>whnf);first|with_reducible (first|refine Lm ?_|refine Wm (by omega) ?_|refine eF (by omega) (fun hq=>?_)|refine nF (by omega) (fun hq=>?_)|refine Bn ?_|refine Fm rfl ?_)|refine Bt ?_|refine Bu ?_|refine Sm.rf ?_|refine Cl.eq (c1) ⟨⟨rfl,dG _⟩,⟨rfl,gc _⟩,⟨rfl,rfl⟩,trivial⟩ ?_|refine Cl.eq (c1) ⟨⟨rfl,dG _⟩,⟨rfl,rfl⟩,⟨rfl,rfl⟩,trivial⟩ ?_|refine Ix.nat (aa hx) ?_|refine Ix.nat hy ?_|refine Rw.one rfl (aa hx) rfl ?_|refine Rw.one rfl hy rfl ?_|refine Cl.mk (c3) ?_|refine Sm.rf ?_|refine Pu.one rfl rfl (aa hx) rfl (Nat.le_of_ble_eq_true rfl) rfl ?_|refine Cl.eq (c4) ⟨⟨rfl,hz⟩,⟨rfl,rfl⟩,trivial⟩ ?_|refine dZ.mk (c5) (.inl rfl) ?_)
   refine cY.mk rfl rfl ?_
   repeat'(first|exact trivial|rfl|refine And.intro ?_ ?_|(exact bQ (by first|omega|(simp only;omega)|(simp;omega))))
theorem wg (h:ac) (E:List Int) (t:Nat) (a:Int) (hi:ef h (a::E)) (ht:t<h.Caches.length) (hc:h.Kernel.Calls≠100000):bm Tryz.prog 188 false [.ptr (fh h),.val none [I (t:Nat)],.val none [I a]] [.ptr (fh (recyc t h a)),.val none [I (t:Nat)],.val none [I a]] (.tup []) []:=by
 obtain⟨li,hs,hon⟩:=hi.at (hi.hin a (List.mem_cons_self ..))
 have hbd:=(hi.hin a (List.mem_cons_self ..)).bd hi
 have hl:=hi.lens
 have hls:=hl.spans
 have hll:=hl.larges
 have hco:=hi.cach _ (ay ht)
 have c5:=rp h E a hi hc
 unfold recyc
 generalize re h a=i at li hs
 have hso:=aU (hi.L.sok _ (ay li))
 have hx:=au li
 have hy:=au ht
 have c1:=iR h.Spans h.Larges a ⟨by omega,fun _ _=>trivial⟩ ⟨by omega,fun _ _=>trivial⟩
 rw[FB hi li hs]at c1
 have c2:=tT (nth h.Caches t) (nth h.Spans i).Class.toNat a hco (by omega)
 rw[Int.toNat_of_nonneg hso.2.2.1]at c2
 unfold rK at c2
 have hcs:∀ c,fh {h with Caches:=h.Caches.set t c} = (cE h (.s .own (h.Spans.map (am.enc .own))) (oL h) (oO h)).set 9 (.s .own ((h.Caches.map (ar.enc .own)).set t (ar.enc .own c))):=fun c=>by
  rw[oQ (h:={h with Caches:=h.Caches.set t c}) (gS li)]
  show cE {h with Caches:=h.Caches.set t c} _ (oL h) (oO h)=_
  simp[cE,List.map_set]
 rw[oQ (gS li)]at c5 ⊢
 rcases Hu h with e|⟨hle,e⟩
 all_goals
  try rw[hle]at c1
  rw[e]at c5 hcs ⊢
  cases e3:cput (nth h.Caches t) (nth h.Spans i).Class a with
  | none=>
   rw[e3]at c2
   refine bL (n:=54) (mo:=[(194,[2,0])]) (tb:=[(0,11,[9,10,11,12,13,14,15,16,17,18,6]),(2,278,[23,24,25,26,27,28,29,30,31,32,33,34,35,36,37,38,39,40,22,41,42,7,0,1,2,3,4,5,6,7,8,9,10,11,12,13,14,15,16,17,18,19,20,21,22,1020,23]),(4,6,[44,45,46,47,48,49])]) [(0,0),(0,0),(0,0)] Tryz.func188 (by kernel_rfl) rfl (by kernel_rfl) (by rfl) (by rfl) (.inr trivial) fun u q=>?_
   repeat'((conv=>whnf);first|with_reducible (first|refine Lm ?_|refine Wm (by omega) ?_|refine nF (by omega) (fun hq=>?_)|refine Bn ?_|refine Fm rfl ?_)|refine Bt ?_|refine Bu ?_|refine Sm.rf ?_|refine Cl.eq (c1) ⟨⟨rfl,dG _⟩,⟨rfl,gc _⟩,⟨rfl,rfl⟩,trivial⟩ ?_|refine Cl.eq (c1) ⟨⟨rfl,dG _⟩,⟨rfl,rfl⟩,⟨rfl,rfl⟩,trivial⟩ ?_|refine Ix.nat (aa hx) ?_|refine Ix.nat (aa hy) ?_|refine Rw.one rfl (aa hx) rfl ?_|refine Rw.one rfl (aa hy) rfl ?_|refine Cl.eq (c2) ⟨⟨rfl,ar.enc_fz _⟩,⟨rfl,rfl⟩,⟨rfl,rfl⟩,trivial⟩ ?_|refine Sm.rf ?_|refine dZ.mk (c5) (.inl rfl) ?_)
   refine cY.mk rfl rfl ?_
   repeat'(first|exact trivial|rfl|refine And.intro ?_ ?_|(exact bQ (by first|omega|(simp only;omega)|(simp;omega))))
  | some c=>
   rw[e3]at c2
   simp only
   rw[hcs]
   refine bL (n:=54) (mo:=[(194,[2,0])]) (tb:=[(0,11,[9,10,11,12,13,14,15,16,17,18,6]),(2,278,[23,24,25,26,27,28,29,30,31,32,33,34,35,36,37,38,39,40,22,41,42,7,0,1,2,3,4,5,6,7,8,9,10,11,12,13,14,15,16,17,18,19,20,21,22,1020,23]),(4,6,[44,45,46,47,48,49])]) [(0,0),(0,0),(0,0)] Tryz.func188 (by kernel_rfl) rfl (by kernel_rfl) (by rfl) (by rfl) (.inr trivial) fun u q=>?_
   repeat'((conv=>whnf);first|with_reducible (first|refine Lm ?_|refine Wm (by omega) ?_|refine nF (by omega) (fun hq=>?_)|refine Bn ?_|refine Fm rfl ?_)|refine Bt ?_|refine Bu ?_|refine Sm.rf ?_|refine Cl.eq (c1) ⟨⟨rfl,dG _⟩,⟨rfl,gc _⟩,⟨rfl,rfl⟩,trivial⟩ ?_|refine Cl.eq (c1) ⟨⟨rfl,dG _⟩,⟨rfl,rfl⟩,⟨rfl,rfl⟩,trivial⟩ ?_|refine Ix.nat (aa hx) ?_|refine Ix.nat (aa hy) ?_|refine Rw.one rfl (aa hx) rfl ?_|refine Rw.one rfl (aa hy) rfl ?_|refine Cl.eq (c2) ⟨⟨rfl,ar.enc_fz _⟩,⟨rfl,rfl⟩,⟨rfl,rfl⟩,trivial⟩ ?_|refine Sm.rf ?_|refine Pu.one rfl rfl (aa hy) rfl (Nat.le_of_ble_eq_true rfl) rfl ?_)
   refine cY.mk rfl rfl ?_
   repeat'(first|exact trivial|rfl|refine And.intro ?_ ?_|(exact bQ (by first|omega|(simp only;omega)|(simp;omega))))
end Go.Proofs.YtogajjgmcnjkbaaGreat.Ab
namespace Go.Proofs.YtogajjgmcnjkbaaGreat.Ab
open Go.RowKit
set_option maxRecDepth 20000
set_option maxHeartbeats 4000000
theorem ET {h:ac} {t n:Nat} (e:(nth h.Objs n).Thread=t):aL h t (n+1)=((freeOb (aL h t n).1 t (fT (aL h t n).1 (nth h.Objs n).Addr)).1,if(freeOb (aL h t n).1 t (fT (aL h t n).1 (nth h.Objs n).Addr)).2=0 then(aL h t n).2+1 else(aL h t n).2):=by rw[aL,if_pos e]
theorem Hs {h:ac} {t n:Nat} (e:¬(nth h.Objs n).Thread=t):aL h t (n+1)=aL h t n:=by rw[aL,if_neg e]
theorem FA.sml {h:ac} {t n:Nat} (f:FA h t n) (hs:ac.sml h):ac.sml (aL h t n).1:=
 f.inv.lens.sml f.inv.ker (by rw[f.mail];exact hs.2.2.2.2.2.2.1) (by rw[f.job];exact hs.2.2.2.2.2.2.2.2)
theorem eW {h:ac} {t:Int} (e:fe h t=false):gy h t=(h,0):=by unfold gy;rw[e];rfl
theorem jL {h:ac} {t:Int} (e:fe h t=true):gy h t=aL h t.toNat h.Objs.length:=by unfold gy;rw[e];rfl
theorem x6 (h:ac) (t:Int) (hs:ac.sml h) (hw:ac.wf h):af Tryz.prog 13 false [.val (some 24) (ac.enc .imm h),.val none [I t]] (.tup [some 24,none]) (ac.enc .own (gy h t).1++[I (gy h t).2]):=by
 have c1:=zj h hs hw
 have c2:=pf h hs
 have c3:=yL h.Kernel hs.1
 have hlo:h.Objs.length≤1048576:=hs.2.2.2.2.1.1
 have hlc:h.Caches.length≤1048576:=hs.2.2.2.2.2.1.1
 have c4:=aP t 0 (h.Caches.length - 1:Int)
 cases e1:dY h<;>rw[e1]at c1
 ·have er:fe h t=false:=by unfold fe;rw[e1];rfl
  rw[eW er]
  refine nn (n:=60) (mo:=[(75,[2,0,0])]) (tb:=[]) Tryz.func13 (by kernel_rfl) rfl (by kernel_rfl) (by rfl) (.inr (bI (ac.enc_fr _) ⟨trivial,trivial⟩)) ?_
  repeat'((conv=>whnf);first|with_reducible (first|refine Lm ?_|refine Wm (by omega) ?_|refine Bn ?_|refine Fm rfl ?_)|refine Bt ?_|refine Bu ?_|refine Cl.mk (c1) ?_|refine Cl.mk (c2) ?_)
  rfl
 have hi:=ef.of e1
 have hlen:=hi.lens
 by_cases e2:0≤t∧t≤h.Caches.length - 1
 ·rw[decide_eq_true e2]at c4
  rw[hi.ker]at c3
  have hcl:=(bG.1 hi.ker).2.2.2.2
  by_cases e3:h.Kernel.Calls=100000
  ·have er:fe h t=false:=by unfold fe;rw[e1,decide_eq_false (fun x:¬h.Kernel.Calls=100000=>x e3)];simp
   rw[eW er]
   rw[decide_eq_false (by omega)]at c3
   refine nn (n:=60) (mo:=[(75,[2,0,0])]) (tb:=[]) Tryz.func13 (by kernel_rfl) rfl (by kernel_rfl) (by rfl) (.inr (bI (ac.enc_fr _) ⟨trivial,trivial⟩)) ?_
   repeat'((conv=>whnf);first|with_reducible (first|refine Lm ?_|refine Wm (by omega) ?_|refine Bn ?_|refine Fm rfl ?_)|refine Bt ?_|refine Bu ?_|refine Cl.mk (c1) ?_|refine Cl.mk (c2) ?_|refine Cl.mk (c4) ?_)
   (conv=>whnf)
   refine Lp.mk (ι:=Nat) (fun k=>[(1,.hold .one [I (t)]),(2,.hold .box (ac.enc .imm h)),(4,.hold .box rY),(6,.hold .box (ac.enc .own h)),(7,.hold .one [I (0)]),(8,.hold .one [I ((k:Nat):Int)])]) (fun k=>k=0) (fun k=>0) (0) ?_ (rfl) fun k hk=>?_
   ·repeat'(first|exact trivial|rfl |refine And.intro ?_ ?_|(exact bQ (by first|omega|(simp only;omega)|(simp;omega))))
   by_cases hz:h.Objs.length=0
   ·repeat'((conv=>whnf);first|with_reducible (first|refine Lm ?_|refine Wm (by omega) ?_|refine dT (by omega) (fun hq=>?_)|refine dF (by omega) (fun hq=>?_)|refine Bf.D (fun hq=>?_) (fun hq=>?_)|refine Bn ?_|refine Fm rfl ?_)|refine Bt ?_|refine Bu ?_|refine Cl.eq (c2) ⟨⟨rfl,ac.enc_fz h⟩,trivial⟩ ?_)
    rfl
   ·repeat'((conv=>whnf);first|with_reducible (first|refine Lm ?_|refine Wm (by omega) ?_|refine dT (by omega) (fun hq=>?_)|refine dF (by omega) (fun hq=>?_)|refine Bf.D (fun hq=>?_) (fun hq=>?_)|refine Bn ?_|refine Fm rfl ?_)|refine Bt ?_|refine Bu ?_|refine Cl.mk (c3) ?_|refine Cl.eq (c2) ⟨⟨rfl,ac.enc_fz h⟩,trivial⟩ ?_)
    rfl
  ·obtain⟨T,rfl⟩:=Int.eq_ofNat_of_zero_le e2.1
   have er:fe h (T:Nat)=true:=by unfold fe;rw[e1,decide_eq_true e2,decide_eq_true e3];rfl
   rw[jL er,Int.toNat_natCast]
   rw[decide_eq_true (by omega)]at c3
   refine nn (n:=60) (mo:=[(75,[2,0,0])]) (tb:=[]) Tryz.func13 (by kernel_rfl) rfl (by kernel_rfl) (by rfl) (.inr (bI (ac.enc_fr _) ⟨trivial,trivial⟩)) ?_
   repeat'((conv=>whnf);first|with_reducible (first|refine Lm ?_|refine Wm (by omega) ?_|refine Bn ?_|refine Fm rfl ?_)|refine Bt ?_|refine Bu ?_|refine Cl.mk (c1) ?_|refine Cl.mk (c2) ?_|refine Cl.mk (c4) ?_)
   (conv=>whnf)
   refine Lp.mk (ι:=Nat) (fun k=>[(1,.hold .one [I ((T:Nat):Int)]),(2,.hold .box (ac.enc .imm h)),(4,.hold .box rY),(6,.hold .box (ac.enc .own (aL h T k).1)),(7,.hold .one [I ((aL h T k).2)]),(8,.hold .one [I ((k:Nat):Int)])]) (fun k=>k≤h.Objs.length) (fun k=>h.Objs.length - k) (0) ?_ (Nat.zero_le _) fun k hk=>?_
   ·repeat'(first|exact trivial|rfl |refine And.intro ?_ ?_|(exact bQ (by first|omega|(simp only;omega)|(simp;omega))))
   have hT:T<h.Caches.length:=by omega
   have f:=FA.of hi hT k hk
   by_cases lk:k<h.Objs.length
   ·have hx:=au lk
    have hnum:=f.num
    by_cases e4:(nth h.Objs k).Thread=T
    ·have c5:=BF (aL h T k).1 (nth h.Objs k) T f.inv (f.left k (Nat.le_refl _) lk) e4 (f.inv.lens.caches)
     have hd:=ET (h:=h) (n:=k) e4
     by_cases e5:(freeOb (aL h T k).1 T (fT (aL h T k).1 (nth h.Objs k).Addr)).2=0
     ·rw[if_pos e5]at hd
      repeat'((conv=>whnf);first|with_reducible (first|refine Lm ?_|refine Wm (by omega) ?_|refine Ix.nat (aa hx) ?_|refine dT (by omega) (fun hq=>?_)|refine eT (by omega) (fun hq=>?_)|refine Bn ?_|refine Fm rfl ?_)|refine Bt ?_|refine Bu ?_|refine Cl.mk (c3) ?_|refine dZ.mk (c5) (.inl rfl) ?_)
      ((conv=>whnf);refine Nx.mk (k+1) (by omega) (by omega) ?_)
      rw[hd]
      repeat'(first|exact trivial|rfl|refine And.intro ?_ ?_|(exact bQ (by first|omega|(simp only;omega)|(simp;omega))))
     ·rw[if_neg e5]at hd
      repeat'((conv=>whnf);first|with_reducible (first|refine Lm ?_|refine Wm (by omega) ?_|refine Ix.nat (aa hx) ?_|refine dT (by omega) (fun hq=>?_)|refine eT (by omega) (fun hq=>?_)|refine eF (by omega) (fun hq=>?_)|refine Bf.E (fun hq=>?_) (fun hq=>?_)|refine Bn ?_|refine Fm rfl ?_)|refine Bt ?_|refine Bu ?_|refine Cl.mk (c3) ?_|refine dZ.mk (c5) (.inl rfl) ?_)
      ((conv=>whnf);refine Nx.mk (k+1) (by omega) (by omega) ?_)
      rw[hd]
      repeat'(first|exact trivial|rfl|refine And.intro ?_ ?_|(exact bQ (by first|omega|(simp only;omega)|(simp;omega))))
    ·have hd:=Hs (h:=h) (n:=k) e4
     repeat'((conv=>whnf);first|with_reducible (first|refine Lm ?_|refine Wm (by omega) ?_|refine Ix.nat (aa hx) ?_|refine dT (by omega) (fun hq=>?_)|refine eF (by omega) (fun hq=>?_)|refine Bn ?_|refine Fm rfl ?_)|refine Bt ?_|refine Bu ?_|refine Cl.mk (c3) ?_)
     ((conv=>whnf);refine Nx.mk (k+1) (by omega) (by omega) ?_)
     rw[hd]
     repeat'(first|exact trivial|rfl|refine And.intro ?_ ?_|(exact bQ (by first|omega|(simp only;omega)|(simp;omega))))
   ·obtain rfl:k=h.Objs.length:=by omega
    have c6:=pf _ (f.sml hs)
    repeat'((conv=>whnf);first|with_reducible (first|refine Lm ?_|refine Wm (by omega) ?_|refine dF (by omega) (fun hq=>?_)|refine Bn ?_|refine Fm rfl ?_)|refine Bt ?_|refine Bu ?_|refine Cl.eq (c6) ⟨⟨rfl,ac.enc_fz _⟩,trivial⟩ ?_)
    rfl
 ·have er:fe h t=false:=by unfold fe;rw[decide_eq_false e2];simp
  rw[decide_eq_false e2]at c4
  rw[eW er]
  refine nn (n:=60) (mo:=[(75,[2,0,0])]) (tb:=[]) Tryz.func13 (by kernel_rfl) rfl (by kernel_rfl) (by rfl) (.inr (bI (ac.enc_fr _) ⟨trivial,trivial⟩)) ?_
  repeat'((conv=>whnf);first|with_reducible (first|refine Lm ?_|refine Wm (by omega) ?_|refine Bn ?_|refine Fm rfl ?_)|refine Bt ?_|refine Bu ?_|refine Cl.mk (c1) ?_|refine Cl.mk (c2) ?_|refine Cl.mk (c4) ?_)
  rfl
end Go.Proofs.YtogajjgmcnjkbaaGreat.Ab
namespace Go.Proofs.YtogajjgmcnjkbaaGreat.Ab
open Go.RowKit
set_option maxRecDepth 20000
set_option maxHeartbeats 4000000
def HU (a:Int) (l:ah):Bool:=decide (l.Page*16=a)
theorem qN (l:ah) (a:Int) (hp:0≤l.Page∧l.Page≤32):af Tryz.prog 180 false [.val (some 3) (ah.enc .imm l),.ptr [I a]] .one [B (HU a l)]:=by
 refine fO (n:=9) [] Tryz.func180 (by kernel_rfl) rfl (by kernel_rfl) (by rfl) (.inr ⟨trivial,trivial⟩) ?_
 repeat'((conv=>whnf);first|with_reducible (first|refine Lm ?_|refine Wm (by omega) ?_|refine Bn ?_|refine Fm rfl ?_)|refine Bt ?_|refine Bu ?_)
 exact congrArg (fun z=>[B z]) ((by unfold HU;rw[Bool.eq_iff_iff];simp))
theorem A5 (h:ac) (hs:ac.sml h) (hne:h.Objs≠[]):af Tryz.prog 43 false [.val (some 24) (ac.enc .imm h)] .agg (cE h (oS h) (oL h) (.s .own (h.Objs.map (aM.enc .own)))):=by
 have h1:=nQ h hs
 rwa [show fh h=cE h (oS h) (oL h) (.s .own (h.Objs.map (aM.enc .own))) by unfold fh oO;rw[zU fun e=>hne (List.map_eq_nil_iff.1 e)]]at h1
theorem xu (h:ac) (t a:Int) (hs:ac.sml h) (e1:dY h=true) (hc:h.Kernel.Calls=100000):af Tryz.prog 77 false [.val (some 24) (ac.enc .imm h),.val none [I t],.val none [I a]] (.tup [some 24,none]) (fh h++[I 6]):=by
 have c1:=mt h hs
 rw[qv,e1]at c1
 refine nn (n:=163) (mo:=[(177,[1,0,0]),(181,[1,0,0]),(182,[2,0]),(184,[2,0,0]),(188,[2,0,0])]) (tb:=[(20,12,[85,86,87,88,89,90,91,92,93,94,95,96]),(24,4,[111,112,113,114])]) Tryz.func77 (by kernel_rfl) rfl (by kernel_rfl) (by rfl) (.inr (bI (jN _) ⟨trivial,trivial⟩)) ?_
 repeat'((conv=>whnf);first|with_reducible (first|refine Lm ?_|refine Wm (by omega) ?_|refine eT (by omega) (fun hq=>?_)|refine Bn ?_|refine Fm rfl ?_)|refine Bt ?_|refine Bu ?_|refine Cl.mk (c1) ?_|refine Cl.mk (nQ h hs) ?_)
 rfl
theorem u5 (h:ac) (o:aM) (t:Nat) (hs:ac.sml h) (e1:dY h=true) (hc:h.Kernel.Calls≠100000) (ho:o∈h.Objs) (ht:o.Thread=t):af Tryz.prog 77 false [.val (some 24) (ac.enc .imm h),.val none [I (t:Nat)],.val none [I o.Addr]] (.tup [some 24,none]) (fh (freeOb h t (fT h o.Addr)).1++[I (freeOb h t (fT h o.Addr)).2]):=by
 have hi:=ef.of e1
 have c1:=mt h hs
 rw[qv,e1]at c1
 obtain⟨li,hob,hfst⟩:=hi.objAt ho
 have hbd:=Bv hi ho
 have hon:=hi.onu o ho
 have hlen:=hi.lens
 have hno:=hlen.objs
 have hnl:=hlen.larges
 have hlc:=hlen.caches
 have htn:t<h.Caches.length:=by omega
 have c0:=aH (t:Nat) 0 (h.Caches.length - 1:Int)
 rw[decide_eq_true (by omega)]at c0
 have c2:=AI h o.Addr (by omega)
 rw[hfst]at c2
 have c3:=A5 h hs (gS li)
 generalize fT h o.Addr=i at li hob c2
 subst hob
 have hx:=au li
 have c4:=pm (nth h.Objs i).Size
 have c5:=Bi h.Objs i li
 have hks:=fp hi.ker
 have c6:=eQ h.Kernel.Machine.Table ((nth h.Objs i).Addr / 16) hks.1.2
 have hres:fh h=cE h (oS h) (oL h) (.s .own (h.Objs.map (aM.enc .own))):=by unfold fh oO;rw[zU fun e=>gS li (List.map_eq_nil_iff.1 e)]
 unfold freeOb
 by_cases hcl:bk (nth h.Objs i).Size<0
 ·rw[if_pos hcl]
  obtain⟨l,hl,h1,-⟩:=(ee hi (ay li)).1 hcl
  obtain⟨lk,ea,-,hfi⟩:=xx hl h1
  have c7:=rd h.Larges (HU (nth h.Objs i).Addr) (by omega)
  rw[show eO (HU (nth h.Objs i).Addr) h.Larges=(tf h (nth h.Objs i).Addr:Nat) by unfold eO HU;rw[hfi]]at c7
  generalize tf h (nth h.Objs i).Addr=g at lk ea c7
  have hf:=bn (hi.L.lok _ (ay lk))
  have hxl:=au lk
  have c8:=wD h.Larges g lk
  have c9:=mC {h with Objs:=dele h.Objs i,Larges:=dele h.Larges g} ⟨(nth h.Larges g).Page,(nth h.Larges g).Pages⟩ (nth h.Larges g).Pages.toNat hi.ker hc (by show h.Free.length≤_;have:=hlen.free;omega) ⟨by show(nth h.Larges g).Pages=_;omega,by show 0≤(nth h.Larges g).Page;omega,by show(nth h.Larges g).Page≤_;omega,by omega⟩
  have hg:fh {h with Objs:=dele h.Objs i,Larges:=dele h.Larges g} = cE h (oS h) (oE ((dele h.Larges g).map (ah.enc .own))) (oE ((dele h.Objs i).map (aM.enc .own))):=rfl
  have hol:oL h=.s .own (h.Larges.map (ah.enc .own)):=by unfold oL;rw[zU fun e=>gS lk (List.map_eq_nil_iff.1 e)]
  rw[hol]at c3
  rw[hg]at c9
  have hpg:∀ y∈h.Larges,0≤y.Page∧y.Page≤32:=fun y hy=>by have:=bn (hi.L.lok y hy);omega
  rcases pz (rows:=(dele h.Objs i).map (aM.enc .own)) with e|⟨-,e⟩<;>rcases pz (rows:=(dele h.Larges g).map (ah.enc .own)) with e'|⟨-,e'⟩
  all_goals
   rw[e]at c5 c9
   rw[e']at c8 c9
   refine nn (n:=163) (mo:=[(177,[1,0,0]),(181,[1,0,0]),(182,[2,0]),(184,[2,0,0]),(188,[2,0,0])]) (tb:=[(20,12,[85,86,87,88,89,90,91,92,93,94,95,96]),(24,4,[111,112,113,114])]) Tryz.func77 (by kernel_rfl) rfl (by kernel_rfl) (by rfl) (.inr (bI (jN _) ⟨trivial,trivial⟩)) ?_
   repeat'((conv=>whnf);first|with_reducible (first|refine Lm ?_|refine Wm (by omega) ?_|refine dT (by omega) (fun hq=>?_)|refine dF (by omega) (fun hq=>?_)|refine Bf.D (fun hq=>?_) (fun hq=>?_)|refine eF (by omega) (fun hq=>?_)|refine Bn ?_|refine Fm rfl ?_)|refine Bt ?_|refine Bu ?_|refine Cl.mk (c0) ?_|refine Cl.mk (c1) ?_|refine Cl.mk (c2) ?_|refine Cl.mk (c3) ?_|refine Cl.mk (c4) ?_|refine Ix.nat (aa hx) ?_|refine Ix.nat (aa hxl) ?_|refine Cq.mk (uS (some 3) (ah.enc .imm) (HU (nth h.Objs i).Addr) h.Larges) (qN ⟨0,0,0⟩ (nth h.Objs i).Addr ⟨by decide,by decide⟩).has (fun L k rcs hQ=>?_) ?_|refine Cl.mk (c7) ?_|refine dZ.mk (c5) (.inl rfl) ?_|refine dZ.mk (c8) (.inl rfl) ?_|refine dZ.mk (c9) (.inl rfl) ?_)
   ·obtain⟨y,hy,rfl,rfl,rfl⟩:=hQ
    exact qN y _ (hpg y hy)
   ·rfl
 rw[if_neg hcl]
 obtain⟨s1,s2,s3,s4⟩:=J0.of hi (ay li) hcl
 have hcz:=Fg s1
 by_cases hm:(aF (tbl h) ((nth h.Objs i).Addr / 16)).Mode=1
 ·rw[if_pos hm]
  unfold tbl at hm
  have hfr:=jN h
  simp only
  rw[hres]at hfr ⊢
  rcases pz (rows:=(dele h.Objs i).map (aM.enc .own)) with e|⟨-,e⟩
  all_goals
   rw[e]at c5
   refine nn (n:=163) (mo:=[(177,[1,0,0]),(181,[1,0,0]),(182,[2,0]),(184,[2,0,0]),(188,[2,0,0])]) (tb:=[(20,12,[85,86,87,88,89,90,91,92,93,94,95,96]),(24,4,[111,112,113,114])]) Tryz.func77 (by kernel_rfl) rfl (by kernel_rfl) (by rfl) (.inr (bI hfr ⟨trivial,trivial⟩)) ?_
   repeat'((conv=>whnf);first|with_reducible (first|refine Lm ?_|refine Wm (by omega) ?_|refine dT (by omega) (fun hq=>?_)|refine dF (by omega) (fun hq=>?_)|refine Bf.D (fun hq=>?_) (fun hq=>?_)|refine eT (by omega) (fun hq=>?_)|refine eF (by omega) (fun hq=>?_)|refine Bn ?_|refine Fm rfl ?_)|refine Bt ?_|refine Bu ?_|refine Cd.mk (by decide) ?_|refine Wr.mk (yK hbd) ?_|refine Cl.mk (c0) ?_|refine Cl.mk (c1) ?_|refine Cl.mk (c2) ?_|refine Cl.mk (c3) ?_|refine Cl.mk (c4) ?_|refine Ix.nat (aa hx) ?_|refine dZ.mk (c5) (.inl rfl) ?_|refine Cl.mk (c6) ?_)
   rfl
 rw[if_neg hm]
 unfold tbl at hm
 have hfr:iu h.Kernel (nth h.Objs i).Addr<h.Kernel.Machine.Frames.Cells.length:=by unfold iu;omega
 have hquar:=hi.inQuar li hcl
 have hcs:=dH (bk (nth h.Objs i).Size)
 rw[show csz (bk (nth h.Objs i).Size)=((csz (bk (nth h.Objs i).Size)).toNat:Nat) by omega]at hcs
 have hnum:=hi.nums
 unfold eV at hnum
 rw[decide_eq_true_eq]at hnum
 have hnd:=(hi.dropO li (pC.any (c:=bk (nth h.Objs i).Size) (by obtain⟨⟨s,hs,k1,k2⟩,-⟩:=(ee hi (ay li)).2 hcl;exact⟨s,hs,k1,.inr k2⟩))).nd
 rw[List.cons_append,List.nil_append]at hnd
 have c7:=wS h.Quar (fQ h (nth h.Objs i)) (by have:=hlen.quar;omega) hi.quar ⟨s1.1,s1.2,hbd.1,hnum.2.2.1⟩ (fun y hy=>hi.snc y hy) (fun y hy e=>(List.nodup_cons.1 hnd).1 (by rw[show(nth h.Objs i).Addr=y.Addr from e.symm];unfold holders;simp only[List.mem_append];exact .inl (.inr (List.mem_map.2 ⟨y,hy,rfl⟩))))
 unfold Gq at c7
 have hol:(pc h.Quar (fQ h (nth h.Objs i))).length≤513:=by have:=hlen.quar;unfold pc;rw[List.length_take,List.length_append];simp only[List.length_singleton];omega
 have hfq:F4 h t i=recycs t (inQuar h i) ((pc h.Quar (fQ h (nth h.Objs i))).map (·.Addr)):=rfl
 have hqc:(inQuar h i).Kernel.Calls≠100000:=hc
 rw[hfq]
 rcases pz (rows:=(dele h.Objs i).map (aM.enc .own)) with e|⟨-,e⟩
 all_goals
  have hoo:oO (inQuar h i)=_:=e
  rw[e]at c5
  have c8:=rn h (oS h) (oL h) (oE ((dele h.Objs i).map (aM.enc .own))) (nth h.Objs i).Addr (csz (bk (nth h.Objs i).Size)).toNat hi.ker hbd s2 (by omega) s4
  rw[e]at c8
  refine nn (n:=163) (mo:=[(177,[1,0,0]),(181,[1,0,0]),(182,[2,0]),(184,[2,0,0]),(188,[2,0,0])]) (tb:=[(20,12,[85,86,87,88,89,90,91,92,93,94,95,96]),(24,4,[111,112,113,114])]) Tryz.func77 (by kernel_rfl) rfl (by kernel_rfl) (by rfl) (.inr (bI (jN _) ⟨trivial,trivial⟩)) ?_
  repeat'((conv=>whnf);first|with_reducible (first|refine Lm ?_|refine Wm (by omega) ?_|refine dT (by omega) (fun hq=>?_)|refine dF (by omega) (fun hq=>?_)|refine Bf.D (fun hq=>?_) (fun hq=>?_)|refine eF (by omega) (fun hq=>?_)|refine nF (by omega) (fun hq=>?_)|refine Bn ?_|refine Fm rfl ?_)|refine Bt ?_|refine Bu ?_|refine Cd.mk (by decide) ?_|refine Wr.mk (yK hbd) ?_|refine Cl.mk (c0) ?_|refine Cl.mk (c1) ?_|refine Cl.mk (c2) ?_|refine Cl.mk (c3) ?_|refine Cl.mk (c4) ?_|refine Ix.nat (aa hx) ?_|refine dZ.mk (c5) (.inl rfl) ?_|refine Cl.mk (c6) ?_|refine Cl.mk (hcs) ?_|refine dZ.mk (c8) (.inl rfl) ?_|refine Cl.mk (c7) ?_)
  generalize pc h.Quar (fQ h (nth h.Objs i))=out at hquar hol
  (conv=>whnf)
  refine Lp.mk (ι:=Nat) (fun k=>[(1,.hold .one [I ((t:Nat):Int)]),(6,.hold .box rY),(8,.hold .box (fh (recycs t (inQuar h i) ((out.take k).map (·.Addr))))),(16,.hold .one (bh .own out)),(151,.bor 16 0 [] none),(152,.hold .one [I (out.length)]),(153,.hold .one [I ((k:Nat):Int)])]) (fun k=>k≤out.length) (fun k=>out.length - k) (0) ?_ (Nat.zero_le _) fun k hk=>?_
  ·repeat'(first|exact trivial|rfl |exact HH hoo|exact dE _|refine And.intro ?_ ?_|(exact bQ (by first|omega|(simp only;omega)|(simp;omega))))
  by_cases lk:k<out.length
  ·have hxo:=au lk
   have hsp:out.map (·.Addr)=(out.take k).map (·.Addr)++(nth out k).Addr::(out.drop (k+1)).map (·.Addr):=by
    conv=>lhs;rw[←List.take_append_drop k out,k9 lk]
    simp
   have hik:ef (recycs t (inQuar h i) ((out.take k).map (·.Addr))) ((nth out k).Addr::(out.drop (k+1)).map (·.Addr)):=ef.recycs (by rw[←hsp];exact hquar) htn
   have c9:=wg _ _ t _ hik (by rw[(gO t _ _).1];exact htn) (by rw[(gO t _ _).2.2.1];exact hqc)
   repeat'((conv=>whnf);first|with_reducible (first|refine Lm ?_|refine Wm (by omega) ?_|refine dT (by omega) (fun hq=>?_)|refine Bn ?_|refine Fm rfl ?_)|refine Bt ?_|refine Bu ?_|refine Ix.nat (aa hxo) ?_|refine Rw.one rfl (aa hxo) rfl ?_|refine dZ.mk (c9) (.inl rfl) ?_)
   ((conv=>whnf);refine Nx.mk (k+1) (by omega) (by omega) ?_)
   rw[qz t _ out k lk]
   repeat'(first|exact trivial|rfl| exact dE _ |refine And.intro ?_ ?_|(exact bQ (by first|omega|(simp only;omega)|(simp;omega))))
  ·obtain rfl:k=out.length:=by omega
   rw[List.take_length]
   repeat'((conv=>whnf);first|with_reducible (first|refine Lm ?_|refine Wm (by omega) ?_|refine dF (by omega) (fun hq=>?_)|refine Bn ?_|refine Fm rfl ?_)|refine Bt ?_|refine Bu ?_)
   rfl
theorem wl (h:ac) (t:Int) (hs:ac.sml h):af Tryz.prog 14 false [.val (some 24) (ac.enc .imm h),.val none [I t]] (.tup [some 24,none]) (fh (gy h t).1++[I (gy h t).2]):=by
 have c1:=mt h hs
 rw[qv]at c1
 have c2:=nQ h hs
 have hlo:h.Objs.length≤1048576:=hs.2.2.2.2.1.1
 have hlc:h.Caches.length≤1048576:=hs.2.2.2.2.2.1.1
 have c4:=aH t 0 (h.Caches.length - 1:Int)
 by_cases e2:0≤t∧t≤h.Caches.length - 1
 ·rw[decide_eq_true e2]at c4
  cases e1:dY h<;>rw[e1]at c1
  ·have er:fe h t=false:=by unfold fe;rw[e1];rfl
   rw[eW er]
   refine fO (n:=54) [] Tryz.func14 (by kernel_rfl) rfl (by kernel_rfl) (by rfl) (.inr (bI (jN _) ⟨trivial,trivial⟩)) ?_
   repeat'((conv=>whnf);first|with_reducible (first|refine Lm ?_|refine Wm (by omega) ?_|refine Bn ?_|refine Fm rfl ?_)|refine Bt ?_|refine Bu ?_|refine Cl.mk (c1) ?_|refine Cl.mk (c2) ?_|refine Cl.mk (c4) ?_)
   rfl
  have hi:=ef.of e1
  obtain⟨T,rfl⟩:=Int.eq_ofNat_of_zero_le e2.1
  by_cases e3:h.Kernel.Calls=100000
  ·have er:fe h (T:Nat)=false:=by unfold fe;rw[e1,decide_eq_false (fun x:¬h.Kernel.Calls=100000=>x e3)];simp
   rw[eW er]
   refine fO (n:=54) [] Tryz.func14 (by kernel_rfl) rfl (by kernel_rfl) (by rfl) (.inr (bI (jN _) ⟨trivial,trivial⟩)) ?_
   repeat'((conv=>whnf);first|with_reducible (first|refine Lm ?_|refine Wm (by omega) ?_|refine Bn ?_|refine Fm rfl ?_)|refine Bt ?_|refine Bu ?_|refine Cl.mk (c1) ?_|refine Cl.mk (c2) ?_|refine Cl.mk (c4) ?_)
   (conv=>whnf)
   refine Lp.mk (ι:=Nat) (fun k=>[(1,.hold .one [I ((T:Nat):Int)]),(4,.hold .box rY),(6,.hold .box (fh h)),(7,.hold .one [I (0)]),(28,.hold .one (dA .imm h.Objs)),(29,.hold .one [I (h.Objs.length)]),(30,.hold .one [I ((k:Nat):Int)])]) (fun k=>k≤h.Objs.length) (fun k=>h.Objs.length - k) (0) ?_ (Nat.zero_le _) fun k hk=>?_
   ·repeat'(first|exact trivial|rfl |exact HH hoo|exact dE _|refine And.intro ?_ ?_|(exact bQ (by first|omega|(simp only;omega)|(simp;omega))))
   by_cases lk:k<h.Objs.length
   ·have hx:=au lk
    have c5:=xu h (T:Nat) (nth h.Objs k).Addr hs e1 e3
    repeat'((conv=>whnf);first|with_reducible (first|refine Lm ?_|refine Wm (by omega) ?_|refine Ix.nat (aa hx) ?_|refine dT (by omega) (fun hq=>?_)|refine Bf.N (fun hq=>?_) (fun hq=>?_)|refine eT (by omega) (fun hq=>?_)|refine eF (by omega) (fun hq=>?_)|refine Bf.E (fun hq=>?_) (fun hq=>?_)|refine Bn ?_|refine Fm rfl ?_)|refine Bt ?_|refine Bu ?_|refine Cl.eq (c5) ⟨⟨rfl,lF h⟩,⟨rfl,rfl⟩,⟨rfl,rfl⟩,trivial⟩ ?_)
    all_goals((conv=>whnf);refine Nx.mk (k+1) (by omega) (by omega) ?_;(repeat'(first|exact trivial|rfl |exact dE _|refine And.intro ?_ ?_|(exact bQ (by first|omega|(simp only;omega)|(simp;omega))))))
   ·repeat'((conv=>whnf);first|with_reducible (first|refine Lm ?_|refine Wm (by omega) ?_|refine dF (by omega) (fun hq=>?_)|refine Bn ?_|refine Fm rfl ?_)|refine Bt ?_|refine Bu ?_)
    rfl
  ·have er:fe h (T:Nat)=true:=by unfold fe;rw[e1,decide_eq_true e2,decide_eq_true e3];rfl
   rw[jL er,Int.toNat_natCast]
   refine fO (n:=54) [] Tryz.func14 (by kernel_rfl) rfl (by kernel_rfl) (by rfl) (.inr (bI (jN _) ⟨trivial,trivial⟩)) ?_
   repeat'((conv=>whnf);first|with_reducible (first|refine Lm ?_|refine Wm (by omega) ?_|refine Bn ?_|refine Fm rfl ?_)|refine Bt ?_|refine Bu ?_|refine Cl.mk (c1) ?_|refine Cl.mk (c2) ?_|refine Cl.mk (c4) ?_)
   (conv=>whnf)
   refine Lp.mk (ι:=Nat) (fun k=>[(1,.hold .one [I ((T:Nat):Int)]),(4,.hold .box rY),(6,.hold .box (fh (aL h T k).1)),(7,.hold .one [I ((aL h T k).2)]),(28,.hold .one (dA .imm h.Objs)),(29,.hold .one [I (h.Objs.length)]),(30,.hold .one [I ((k:Nat):Int)])]) (fun k=>k≤h.Objs.length) (fun k=>h.Objs.length - k) (0) ?_ (Nat.zero_le _) fun k hk=>?_
   ·repeat'(first|exact trivial|rfl |exact HH hoo|exact dE _|refine And.intro ?_ ?_|(exact bQ (by first|omega|(simp only;omega)|(simp;omega))))
   have hT:T<h.Caches.length:=by omega
   have f:=FA.of hi hT k hk
   by_cases lk:k<h.Objs.length
   ·have hx:=au lk
    have hnum:=f.num
    by_cases e4:(nth h.Objs k).Thread=T
    ·have c5:=u5 (aL h T k).1 (nth h.Objs k) T (f.sml hs) f.inv.to (by rw[f.calls];exact e3) (f.left k (Nat.le_refl _) lk) e4
     have hd:=ET (h:=h) (n:=k) e4
     by_cases e5:(freeOb (aL h T k).1 T (fT (aL h T k).1 (nth h.Objs k).Addr)).2=0
     ·rw[if_pos e5]at hd
      repeat'((conv=>whnf);first|with_reducible (first|refine Lm ?_|refine Wm (by omega) ?_|refine Ix.nat (aa hx) ?_|refine dT (by omega) (fun hq=>?_)|refine nF (by omega) (fun hq=>?_)|refine eT (by omega) (fun hq=>?_)|refine Bn ?_|refine Fm rfl ?_)|refine Bt ?_|refine Bu ?_|refine Cl.eq (c5) ⟨⟨rfl,lF _⟩,⟨rfl,rfl⟩,⟨rfl,rfl⟩,trivial⟩ ?_)
      ((conv=>whnf);refine Nx.mk (k+1) (by omega) (by omega) ?_)
      rw[hd]
      repeat'(first|exact trivial|rfl| exact dE _ |refine And.intro ?_ ?_|(exact bQ (by first|omega|(simp only;omega)|(simp;omega))))
     ·rw[if_neg e5]at hd
      repeat'((conv=>whnf);first|with_reducible (first|refine Lm ?_|refine Wm (by omega) ?_|refine Ix.nat (aa hx) ?_|refine dT (by omega) (fun hq=>?_)|refine nF (by omega) (fun hq=>?_)|refine eF (by omega) (fun hq=>?_)|refine Bn ?_|refine Fm rfl ?_)|refine Bt ?_|refine Bu ?_|refine Cl.eq (c5) ⟨⟨rfl,lF _⟩,⟨rfl,rfl⟩,⟨rfl,rfl⟩,trivial⟩ ?_)
      ((conv=>whnf);refine Nx.mk (k+1) (by omega) (by omega) ?_)
      rw[hd]
      repeat'(first|exact trivial|rfl| exact dE _ |refine And.intro ?_ ?_|(exact bQ (by first|omega|(simp only;omega)|(simp;omega))))
    ·have hd:=Hs (h:=h) (n:=k) e4
     repeat'((conv=>whnf);first|with_reducible (first|refine Lm ?_|refine Wm (by omega) ?_|refine Ix.nat (aa hx) ?_|refine dT (by omega) (fun hq=>?_)|refine nT (by omega) (fun hq=>?_)|refine Bn ?_|refine Fm rfl ?_)|refine Bt ?_|refine Bu ?_)
     ((conv=>whnf);refine Nx.mk (k+1) (by omega) (by omega) ?_)
     rw[hd]
     repeat'(first|exact trivial|rfl| exact dE _ |refine And.intro ?_ ?_|(exact bQ (by first|omega|(simp only;omega)|(simp;omega))))
   ·obtain rfl:k=h.Objs.length:=by omega
    repeat'((conv=>whnf);first|with_reducible (first|refine Lm ?_|refine Wm (by omega) ?_|refine dF (by omega) (fun hq=>?_)|refine Bn ?_|refine Fm rfl ?_)|refine Bt ?_|refine Bu ?_)
    rfl
 ·have er:fe h t=false:=by unfold fe;rw[decide_eq_false e2];simp
  rw[decide_eq_false e2]at c4
  rw[eW er]
  refine fO (n:=54) [] Tryz.func14 (by kernel_rfl) rfl (by kernel_rfl) (by rfl) (.inr (bI (jN _) ⟨trivial,trivial⟩)) ?_
  repeat'((conv=>whnf);first|with_reducible (first|refine Lm ?_|refine Wm (by omega) ?_|refine Bn ?_|refine Fm rfl ?_)|refine Bt ?_|refine Bu ?_|refine Cl.mk (c1) ?_|refine Cl.mk (c2) ?_|refine Cl.mk (c4) ?_)
  rfl
end Go.Proofs.YtogajjgmcnjkbaaGreat.Ab
