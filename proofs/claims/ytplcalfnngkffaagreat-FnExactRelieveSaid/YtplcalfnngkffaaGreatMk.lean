/- cm that keep what holds of a heap with addresses in hand. No condition. -/
import Derived.Test.YtplcalfnngkffaaGreatMg
import Derived.Test.YtplcalfnngkffaaGreatMj
import Derived.Deep.LoopGhost
import Derived.Deep.RegionLaw
import Derived.Lib.Walk
import Derived.Sort.WalkB12
import Derived.Lib.SliceRun
import Derived.Shelf.RegionOpenPlain
set_option linter.unusedVariables false

namespace Go.Proofs.YtplcalfnngkffaaGreat.Ab
def dele {α:Type} (xs:List α) (i:Nat):List α:=xs.take i++xs.drop (i+1)
theorem fH {α:Type} (xs:List α) (i:Nat):(dele xs i).Sublist xs:=by
 unfold dele;rw[←List.eraseIdx_eq_take_drop_succ];exact List.eraseIdx_sublist ..
theorem yN {α:Type} [Inhabited α] {xs:List α} {i:Nat} (hi:i<xs.length):xs.Perm (nth xs i::dele xs i):=by
 have:xs=xs.take i++nth xs i::xs.drop (i+1):=by rw[←ml hi,List.take_append_drop]
 conv=>lhs;rw[this]
 exact List.perm_middle
theorem rm {α:Type} [Inhabited α] (f:α→List Int) (a:Int):∀ (xs:List α) (i:Nat) (y:α),i<xs.length→((xs.set i y).flatMap f).count a+(f (nth xs i)).count a=(xs.flatMap f).count a+(f y).count a
 | [],i,_,h=>by cases h
 | x::xs,0,y,_=>by
  show((y::xs).flatMap f).count a+(f x).count a=((x::xs).flatMap f).count a+(f y).count a
  rw[List.flatMap_cons,List.flatMap_cons,List.count_append,List.count_append];omega
 | x::xs,i+1,y,h=>by
  have:=rm f a xs i y (by simpa using h)
  show((x::xs.set i y).flatMap f).count a+(f (nth xs i)).count a=((x::xs).flatMap f).count a+(f y).count a
  rw[List.flatMap_cons,List.flatMap_cons,List.count_append,List.count_append];omega
theorem rr (ls:List (List Int)):ls.flatten=ls.flatMap fun x=>x:=by
 induction ls with
 | nil=>rfl
 | cons x xs ih=>rw[List.flatten_cons,List.flatMap_cons,ih]
theorem pq.any {sp:List am} {a c:Int} (h:pq sp a c):pq sp a (-1):=by
 obtain⟨s,hs,h1,-⟩:=h;exact⟨s,hs,h1,.inl (by decide)⟩
theorem df.cells {h:ac} {E:List Int} (hi:df h E) {k:af} (hk:aH k=true) (ht:k.Machine.Table=h.Kernel.Machine.Table):df {h with Kernel:=k} E:=
 {hi with
   ker:=hk
   rng:=by show bC ((k.Machine.Table.Entries.length:Nat):Int) h.Free=true;rw[ht];exact hi.rng
   pg:=by show Pg k.Machine.Table h.Free h.Spans h.Larges;rw[ht];exact hi.pg}
theorem df.dropO {h:ac} {E:List Int} {i:Nat} (hi:df h E) (li:i<h.Objs.length) (hs:pq h.Spans (nth h.Objs i).Addr (-1)):df {h with Objs:=dele h.Objs i} ((nth h.Objs i).Addr::E):=by
 have hp:(E++holders h).Perm (((nth h.Objs i).Addr::E)++holders {h with Objs:=dele h.Objs i}):=by
  have h0:=(yN li).map (·.Addr)
  refine List.perm_iff_count.2 fun a=>?_
  have h1:=h0.count_eq a
  simp only[List.map_cons,List.count_cons]at h1
  simp only[holders,f9,List.count_append,List.cons_append,List.count_cons]
  omega
 have hd:(dele h.Objs i).Sublist h.Objs:=fH ..
 exact {hi with
   osr:=hi.osr.sublist hd
   onu:=fun o ho=>hi.onu o (hd.subset ho)
   oid:=hi.oid.sublist (hd.map _)
   oow:=fun o ho=>hi.oow o (hd.subset ho)
   hin:=fun a ha=>by
     rcases List.mem_cons.1 ha with rfl|ha
     · exact hs
     · exact hi.hin a ha
   nd:=hp.nodup_iff.1 hi.nd
   mem:=fun a=>by rw[←hp.mem_iff];exact hi.mem a}
def xB (c:ay) (k:Nat) (a:Int):ay:=⟨c.Lists.set k (nth c.Lists k++[a])⟩
theorem df.put {h:ac} {E:List Int} {a:Int} {t k:Nat} (hi:df h (a::E)) (ht:t<h.Caches.length) (hk:k<(nth h.Caches t).Lists.length) (hs:pq h.Spans a k) (hc:b9 (xB (nth h.Caches t) k a)=true):df {h with Caches:=h.Caches.set t (xB (nth h.Caches t) k a)} E:=by
 have hp:(a::E++holders h).Perm (E++holders {h with Caches:=h.Caches.set t (xB (nth h.Caches t) k a)}):=by
  refine List.perm_iff_count.2 fun b=>?_
  have h1:=rm (fun c:ay=>c.Lists.flatten) b h.Caches t (xB (nth h.Caches t) k a) ht
  have h2:=rm (fun x:List Int=>x) b (nth h.Caches t).Lists k (nth (nth h.Caches t).Lists k++[a]) hk
  rw[←rr,←rr]at h2
  simp only[List.count_append,List.count_singleton]at h2
  simp only[xB]at h1
  simp only[holders,f9,xB,List.count_append,List.cons_append,List.count_cons]
  omega
 exact {hi with
   nc:=by show(h.Caches.set ..).length=_;rw[List.length_set];exact hi.nc
   cach:=fun c hcm=>by
     rcases List.mem_or_eq_of_mem_set hcm with hcm|rfl
     · exact hi.cach c hcm
     · exact hc
   onu:=by show ∀ o∈h.Objs,1≤o.Id∧o.Id≤h.Next - 1∧0≤o.Thread∧o.Thread≤(h.Caches.set t _).length - 1;rw[List.length_set];exact hi.onu
   hca:=fun c hcm j hj b hb=>by
     rcases List.mem_or_eq_of_mem_set hcm with hcm|rfl
     · exact hi.hca c hcm j hj b hb
     · simp only[xB,List.length_set]at hj
       simp only[xB,eL]at hb
       by_cases e:k=j
       · subst e
         rw[if_pos ⟨rfl,hj⟩]at hb
         rcases List.mem_append.1 hb with hb|hb
         · exact hi.hca _ (aC ht) _ hj b hb
         · rw[List.mem_singleton.1 hb];exact hs
       · rw[if_neg fun x=>e x.1]at hb
         exact hi.hca _ (aC ht) _ hj b hb
   hin:=fun b hb=>hi.hin b (List.mem_cons_of_mem _ hb)
   nd:=hp.nodup_iff.1 hi.nd
   mem:=fun b=>by rw[←hp.mem_iff];exact hi.mem b}
theorem df.toQuar {h:ac} {E:List Int} {x:aE} {q:aQ} {out:List aE} (hi:df h (x.Addr::E)) (hq:gZ q=true) (he:h.Quar.Lst++[x]=out++q.Lst) (hx:x.Since≤h.Clock) (hs:pq h.Spans x.Addr x.Class):df {h with Quar:=q} (out.map (·.Addr)++E):=by
 have hall:∀ y∈out++q.Lst,y.Since≤h.Clock∧pq h.Spans y.Addr y.Class:=fun y hy=>by
  rw[←he]at hy
  rcases List.mem_append.1 hy with hy|hy
  ·exact⟨hi.snc y hy,hi.hqu y hy⟩
  ·rw[List.mem_singleton.1 hy];exact⟨hx,hs⟩
 have hp:(x.Addr::E++holders h).Perm ((out.map (·.Addr)++E)++holders {h with Quar:=q}):=by
  refine List.perm_iff_count.2 fun b=>?_
  have h1:=congrArg (fun l:List aE=>(l.map (·.Addr)).count b) he
  simp only[List.map_append,List.count_append,List.map_cons,List.map_nil,List.count_singleton]at h1
  simp only[holders,f9,List.count_append,List.cons_append,List.count_cons]
  omega
 exact {hi with
   quar:=hq
   snc:=fun y hy=>(hall y (List.mem_append.2 (.inr hy))).1
   hqu:=fun y hy=>(hall y (List.mem_append.2 (.inr hy))).2
   hin:=fun b hb=>by
     rcases List.mem_append.1 hb with hb|hb
     · obtain⟨y,hy,rfl⟩:=List.mem_map.1 hb
       exact(hall y (List.mem_append.2 (.inl hy))).2.any
     · exact hi.hin b (List.mem_cons_of_mem _ hb)
   nd:=hp.nodup_iff.1 hi.nd
   mem:=fun b=>by rw[←hp.mem_iff];exact hi.mem b}
def ve (b i:Int):Int:=((BitVec.ofInt IntKind.i64.bits b &&& ~~~BitVec.ofInt IntKind.i64.bits (2 ^ i.toNat)).toNat:Nat)
def kD (s:am) (i:Int):am:={s with Bits:=ve s.Bits i}
theorem kY (b i:Int):bF b i=true↔0≤b∧0≤i∧i≤15∧b.toNat.testBit i.toNat=true:=by
 unfold bF
 rw[decide_eq_true_eq]
 refine and_congr_right fun hb=>and_congr_right fun hi=>and_congr_right fun _=>?_
 obtain⟨n,rfl⟩:=Int.eq_ofNat_of_zero_le hb
 rw[Nat.testBit_eq_decide_div_mod_eq,decide_eq_true_eq,Int.toNat_natCast]
 norm_cast
theorem Bm {b i:Int} (hb:0≤b∧b≤65535) (hi:0≤i∧i≤15) (j:Nat):(ve b i).toNat.testBit j=(b.toNat.testBit j&&decide (i.toNat≠j)):=by
 have h2:(2:Int) ^ i.toNat≤32768∧0≤(2:Int) ^ i.toNat:=by
  obtain⟨n,rfl⟩:=Int.eq_ofNat_of_zero_le hi.1
  rw[Int.toNat_natCast]
  have:(2:Nat) ^ n≤2 ^ 15:=Nat.pow_le_pow_right (by decide) (by omega)
  have h3:((2 ^ n:Nat):Int)=(2:Int) ^ n:=Int.natCast_pow 2 n
  rw[←h3]
  exact⟨Int.ofNat_le.2 this,Int.natCast_nonneg _⟩
 unfold ve
 rw[Int.toNat_natCast,BitVec.testBit_toNat,BitVec.getLsbD_and,BitVec.getLsbD_not,←BitVec.testBit_toNat,←BitVec.testBit_toNat,qG (by omega),qG (by omega)]
 rw[show((2:Int) ^ i.toNat).toNat=2 ^ i.toNat by rw[show(2:Int) ^ i.toNat=((2 ^ i.toNat:Nat):Int) by norm_cast,Int.toNat_natCast],Nat.testBit_two_pow]
 by_cases hj:j<64
 ·rw[show decide (j<IntKind.i64.bits)=true from decide_eq_true hj,Bool.true_and]
  congr 1
  by_cases e:i.toNat=j
  ·rw[decide_eq_true e,decide_eq_false (fun x=>x e)];rfl
  ·rw[decide_eq_false e,decide_eq_true e];rfl
 ·rw[Nat.testBit_lt_two_pow (x:=b.toNat) (i:=j) (Nat.lt_of_lt_of_le (show b.toNat<2 ^ 16 by omega) (Nat.pow_le_pow_right (by decide) (by omega)))]
  rfl
theorem AA {b i:Int} (hb:0≤b∧b≤65535):0≤ve b i∧ve b i≤b:=by
 unfold ve
 refine⟨by omega,?_⟩
 rw[BitVec.toNat_and,qG (by omega)]
 have:=Nat.and_le_left (n:=b.toNat) (m:=(~~~BitVec.ofInt IntKind.i64.bits (2 ^ i.toNat)).toNat)
 omega
theorem Ls {b i:Int} (hb:0≤b∧b≤65535) (hi:0≤i∧i≤15) (j:Int):bF (ve b i) j=true↔bF b j=true∧j≠i:=by
 rw[kY,kY,Bm hb hi,Bool.and_eq_true,decide_eq_true_eq]
 have:=AA (i:=i) hb
 constructor
 ·rintro⟨a1,a2,a3,a4,a5⟩;exact⟨⟨hb.1,a2,a3,a4⟩,fun e=>a5 (by rw[e])⟩
 ·rintro⟨⟨a1,a2,a3,a4⟩,a5⟩;exact⟨this.1,a2,a3,a4,fun e=>a5 (by omega)⟩
theorem gW {s:am} (h:bq s=true):0≤s.Bits∧s.Bits≤65535:=by
 unfold bq at h
 simp only[decide_eq_true_eq]at h
 have:=Kg s.Class
 omega
theorem Gp {s:am} (h:bq s=true) (i:Int):bq (kD s i)=true:=by
 have h1:=gW h
 have h2:=AA (i:=i) h1
 unfold bq at h
 rw[decide_eq_true_eq]at h
 obtain⟨a1,a2,a3,a4,a5,a6⟩:=h
 exact decide_eq_true ⟨a1,a2,a3,a4,h2.1,Int.le_trans h2.2 a6⟩
theorem zg {s u:am} (hs:bq s=true) {i:Int} (hi:0≤i∧i≤15) (h:meshable s u=true):meshable (kD s i) u=true:=by
 unfold meshable at h ⊢
 simp only[Bool.and_eq_true,decide_eq_true_eq]at h ⊢
 obtain⟨⟨h1,h2⟩,h3,h4,h5⟩:=h
 refine⟨⟨Gp h1 i,h2⟩,h3,h4,?_⟩
 refine Nat.eq_of_testBit_eq fun j=>?_
 have:=congrArg (fun n=>Nat.testBit n j) h5
 simp only[Nat.testBit_and,Nat.zero_testBit,kD,Bm (gW hs) hi]at this ⊢
 cases e1:s.Bits.toNat.testBit j<;>cases e2:u.Bits.toNat.testBit j<;>rw[e1,e2]at this<;>simp_all
def dI (s:am) (a:Int):Int:=(a - 16*s.Page) / csz s.Class
theorem yW {s:am} (h:bq s=true) {a:Int} (ha:16*s.Page≤a∧a≤16*s.Page+15):0≤dI s a∧dI s a≤15:=by
 have hc:=aR h
 unfold dI
 rcases dw ⟨hc.2.2.1,hc.2.2.2⟩ with e|e|e|e<;>rw[e]<;>omega
theorem EN {s:am} (h:bq s=true) {a b:Int} (ha:(a - 16*s.Page) % csz s.Class=0) (hb:(b - 16*s.Page) % csz s.Class=0) (e:dI s a=dI s b):a=b:=by
 have hc:=aR h
 unfold dI at e
 rcases dw ⟨hc.2.2.1,hc.2.2.2⟩ with z|z|z|z<;>rw[z]at ha hb e<;>omega
theorem y9 {s:am} (h:bq s=true) {a:Int} (ha:i7 s a) (b:Int):i7 (kD s (dI s a)) b↔i7 s b∧b≠a:=by
 obtain⟨a1,a2,a3,a4⟩:=ha
 have hbd:=yW h ⟨a1,a2⟩
 unfold i7
 simp only[kD]
 rw[Ls (gW h) hbd]
 constructor
 ·rintro⟨b1,b2,b3,b4,b5⟩
  exact⟨⟨b1,b2,b3,b4⟩,fun e=>b5 (by rw[e];rfl)⟩
 ·rintro⟨⟨b1,b2,b3,b4⟩,b5⟩
  exact⟨b1,b2,b3,b4,fun e=>b5 (EN h b3 a3 e)⟩
theorem tg {α:Type} [Inhabited α] {xs:List α} {i:Nat} {y z:α} (h:z∈xs.set i y):z=y∨∃ j,j<xs.length∧j≠i∧nth xs j=z:=by
 obtain⟨j,hj,rfl⟩:=List.mem_iff_getElem.1 h
 rw[List.getElem_set]
 by_cases e:i=j
 ·subst e;simp
 ·rw[if_neg e]
  rw[List.length_set]at hj
  exact .inr ⟨j,hj,fun x=>e x.symm,bL (List.getElem?_eq_getElem hj)⟩
theorem Ef {α:Type} [Inhabited α] {xs:List α} {i j:Nat} (y:α) (hj:j<xs.length) (e:j≠i):nth xs j∈xs.set i y:=by
 have:nth (xs.set i y) j=nth xs j:=by rw[eL,if_neg fun x=>e x.1.symm]
 rw[←this];exact aC (by rw[List.length_set];exact hj)
theorem AH {α:Type} {xs:List α} {i:Nat} (y:α) (hi:i<xs.length):y∈xs.set i y:=by
 refine List.mem_iff_getElem.2 ⟨i,by rw[List.length_set];exact hi,by simp⟩
theorem Lc {sp:List am} {i:Nat} (k:Int) (hi:i<sp.length):(sp.set i (kD (nth sp i) k)).map (·.Page)=sp.map (·.Page):=by
 rw[List.map_set]
 refine List.ext_getElem (by simp) fun j h1 h2=>?_
 rw[List.getElem_set]
 split
 ·rename_i e;subst e
  rw[List.getElem_map]
  show(nth sp i).Page=_
  rw[bL (List.getElem?_eq_getElem hi)]
 ·rfl
theorem pq.set {sp:List am} {la:List au} (hL:rM sp la) {i:Nat} (hi:i<sp.length) {a:Int} (ha:i7 (nth sp i) a) (b c:Int):pq (sp.set i (kD (nth sp i) (dI (nth sp i) a))) b c↔pq sp b c∧b≠a:=by
 have hsi:=hL.sok _ (aC hi)
 constructor
 ·rintro⟨s,hs,h1,h2⟩
  rcases tg hs with rfl|⟨j,hj,hji,rfl⟩
  ·have:=(y9 hsi ha b).1 h1
   exact⟨⟨_,aC hi,this.1,h2⟩,this.2⟩
  ·refine⟨⟨_,aC hj,h1,h2⟩,fun e=>?_⟩
   subst e
   have:=lf (f:=(·.Page)) hL.nd hi hj (by have a1:=ha.1;have a2:=ha.2.1;have b1:=h1.1;have b2:=h1.2.1;omega)
   omega
 ·rintro⟨⟨s,hs,h1,h2⟩,hne⟩
  obtain⟨j,hj,rfl⟩:=bz hs
  by_cases e:j=i
  ·subst e
   exact⟨_,AH _ hi,(y9 hsi ha b).2 ⟨h1,hne⟩,h2⟩
  ·exact⟨_,Ef _ hj e,h1,h2⟩
theorem df.give {h:ac} {E:List Int} {a:Int} {i:Nat} (hi:df h (a::E)) (li:i<h.Spans.length) (ha:i7 (nth h.Spans i) a):df {h with Spans:=h.Spans.set i (kD (nth h.Spans i) (dI (nth h.Spans i) a))} E:=by
 have hL:=hi.L
 have hsi:=hL.sok _ (aC li)
 have hbd:=yW hsi ⟨ha.1,ha.2.1⟩
 have hSl:=fun b c=>pq.set hL li ha b c
 have hpg:=Lc (dI (nth h.Spans i) a) li
 generalize hsp:h.Spans.set i (kD (nth h.Spans i) (dI (nth h.Spans i) a))=sp at hSl hpg
 have hpgs:pgs sp h.Larges=pgs h.Spans h.Larges:=by unfold pgs;rw[hpg]
 have hnd:=hi.nd
 rw[List.cons_append]at hnd
 obtain⟨hna,hnd⟩:=List.nodup_cons.1 hnd
 have hne:∀ b,b∈E++holders h→b≠a:=fun b hb e=>hna (by rw[←e];exact hb)
 have hho:∀ b,b∈holders h→b≠a:=fun b hb=>hne b (List.mem_append.2 (.inr hb))
 have hla:∀ l∈h.Larges,16*l.Page≠a:=fun l hl e=>(AX hL hl).1 _ (aC li) (by have a1:=ha.1;have a2:=ha.2.1;omega)
 have hsp':∀ s∈sp,∃ u∈h.Spans,u.Page=s.Page∧(s=u∨s=kD u (dI (nth h.Spans i) a)):=fun s hs=>by
  rw[←hsp]at hs
  rcases tg hs with rfl|⟨j,hj,hji,rfl⟩
  ·exact⟨_,aC li,rfl,.inr rfl⟩
  ·exact⟨_,aC hj,rfl,.inl rfl⟩
 have hbk:∀ u∈h.Spans,∃ s∈sp,s.Page=u.Page:=fun u hu=>by
  have:u.Page∈sp.map (·.Page):=by rw[hpg];exact List.mem_map.2 ⟨u,hu,rfl⟩
  obtain⟨s,hs,e⟩:=List.mem_map.1 this
  exact⟨s,hs,e⟩
 exact {hi with
   lay:=by
     obtain⟨l1,l2,l3⟩:=gk hi.lay
     unfold bu
     simp only[Bool.and_eq_true,decide_eq_true_eq]
     refine⟨⟨List.all_eq_true.2 fun s hs=>?_,l2⟩,by rw[hpgs];exact l3⟩
     obtain⟨u,hu,-,rfl|rfl⟩:=hsp' s hs
     · exact hL.sok _ hu
     · exact Gp (hL.sok _ hu) _
   srs:=by
     have h1:(h.Spans.map (·.Page)).Pairwise (fun a b=>a<b):=List.pairwise_map.2 hi.srs
     rw[←hpg]at h1
     exact List.pairwise_map.1 h1
   pg:=⟨hi.pg.one,by rw[hpgs];exact hi.pg.bnd,by rw[hpgs];exact hi.pg.own,hi.pg.fre,fun s hs u hu hne hf=>by
     obtain⟨s',hs',es,hs2⟩:=hsp' s hs
     obtain⟨u',hu',eu,hu2⟩:=hsp' u hu
     have h1:=hi.pg.mesh s' hs' u' hu' (by rw[es,eu];exact hne) (by rw[es,eu];exact hf)
     have h2:meshable s u'=true:=by
       rcases hs2 with rfl|rfl
       · exact h1
       · exact zg (hL.sok _ hs') hbd h1
     rcases hu2 with rfl|rfl
     · exact h2
     · rw[oH]at h2 ⊢;exact zg (hL.sok _ hu') hbd h2⟩
   oow:=fun o ho=>by
     have hoa:o.Addr≠a:=hho _ (by unfold holders;simp only[List.mem_append];exact .inl (.inl (.inl (List.mem_map.2 ⟨o,ho,rfl⟩))))
     rcases hi.oow o ho with⟨s,hs,h1,h2⟩|h1
     · obtain⟨u,hu,g1,g2⟩:=(hSl o.Addr (cq o.Size)).2 ⟨⟨s,hs,h1,.inr h2⟩,hoa⟩
       refine .inl ⟨u,hu,g1,?_⟩
       rcases g2 with g2|g2
       · have:=aR (hL.sok _ hs);omega
       · exact g2
     · exact .inr h1
   hca:=fun c hc k hk b hb=>(hSl b k).2 ⟨hi.hca c hc k hk b hb,hho b (by
     unfold holders f9;simp only[List.mem_append]
     exact .inl (.inl (.inr (List.mem_flatMap.2 ⟨c,hc,List.mem_flatten.2 ⟨_,aC hk,hb⟩⟩))))⟩
   hqu:=fun x hx=>(hSl _ _).2 ⟨hi.hqu x hx,hho _ (by unfold holders;simp only[List.mem_append];exact .inl (.inr (List.mem_map.2 ⟨x,hx,rfl⟩)))⟩
   hfl:=fun b hb=>(hSl _ _).2 ⟨hi.hfl b hb,hho _ (by unfold holders;simp only[List.mem_append];exact .inr hb)⟩
   hin:=fun b hb=>(hSl _ _).2 ⟨hi.hin b (List.mem_cons_of_mem _ hb),hne b (List.mem_append.2 (.inl hb))⟩
   nd:=hnd
   mem:=fun b=>by
     show b∈E++holders h↔Live sp h.Larges b
     have h1:=hi.mem b
     rw[List.cons_append,List.mem_cons]at h1
     unfold Live at h1 ⊢
     rw[hSl]
     constructor
     · intro hb
       rcases h1.1 (.inr hb) with h2|h2
       · exact .inl ⟨h2,hne b hb⟩
       · exact .inr h2
     · rintro(⟨h2,h3⟩|⟨l,hl,rfl⟩)
       · exact(h1.2 (.inl h2)).resolve_left h3
       · exact(h1.2 (.inr ⟨l,hl,rfl⟩)).resolve_left (hla l hl)
   job:=fun hm=>by
     obtain⟨j1,⟨s,hs,e1⟩,⟨u,hu,e2⟩⟩:=hi.job hm
     obtain⟨s',hs',g1⟩:=hbk s hs
     obtain⟨u',hu',g2⟩:=hbk u hu
     exact⟨j1,⟨s',hs',g1.trans e1⟩,⟨u',hu',g2.trans e2⟩⟩}
end Go.Proofs.YtplcalfnngkffaaGreat.Ab
/- Pages given back: what holds of a heap is kept. No condition. -/
namespace Go.Proofs.YtplcalfnngkffaaGreat.Ab
def jy (k:af) (p:Int):Nat→af
 | 0=>k
 | n+1=>dt (jy k p n) (p+n)
theorem uq {k:af} (h:aH k=true) (p:Int):∀ n,aH (jy k p n)=true
 | 0=>h
 | n+1=>wy _ (uq h p n)
theorem oy (k:af) (p:Int):∀ n,(jy k p n).Machine.Table.Entries.length=k.Machine.Table.Entries.length∧(jy k p n).Calls=k.Calls∧(jy k p n).Refuse=k.Refuse
 | 0=>⟨rfl,rfl,rfl⟩
 | n+1=>by
  obtain⟨h1,h2,h3⟩:=oy k p n
  obtain⟨g1,g2,g3⟩:=qh (jy k p n) (p+n)
  exact⟨g1.trans h1,g2.trans h2,g3.trans h3⟩
theorem FS {k:af} (h:aH k=true) {p:Int} (hp:0≤p∧p<k.Machine.Table.Entries.length) (q:Nat):nth (dt k p).Machine.Table.Entries q=if(q:Int)=p then⟨0,0⟩ else nth k.Machine.Table.Entries q:=by
 have he:ax k.Machine.Table p=nth k.Machine.Table.Entries p.toNat:=by unfold ax;rw[if_pos hp]
 unfold dt
 split
 ·rename_i hm
  split
  ·rename_i hq
   rw[he]at hm
   have h3:=(bU.1 (aJ.1 h).2.2.1).1 p.toNat (by omega)
   unfold nr at h3
   rw[decide_eq_true_eq]at h3
   have h4:=h3.2.2.1 hm
   rw[show q=p.toNat by omega]
   generalize nth k.Machine.Table.Entries p.toNat=e at hm h4
   obtain⟨m,f⟩:=e
   simp only at hm h4
   rw[hm,h4]
  ·rfl
 ·rw[(oZ _ _).1]
  simp only[mE,eL]
  by_cases e:(q:Int)=p
  ·rw[if_pos ⟨by omega,by omega⟩,if_pos e]
  ·rw[if_neg fun x=>e (by omega),if_neg e]
theorem Da {k:af} (h:aH k=true) {p:Int} (hp:0≤p):∀ n:Nat,p+n≤k.Machine.Table.Entries.length→∀ q:Nat,nth (jy k p n).Machine.Table.Entries q=if p≤q∧(q:Int)<p+n then⟨0,0⟩ else nth k.Machine.Table.Entries q
 | 0,_,q=>by rw[if_neg (by omega)];rfl
 | n+1,hn,q=>by
  have h1:=Da h hp n (by omega) q
  have h2:=FS (uq h p n) (p:=p+n) ⟨by omega,by rw[(oy k p n).1];omega⟩ q
  show nth (dt (jy k p n) (p+n)).Machine.Table.Entries q=_
  rw[h2,h1]
  by_cases e:(q:Int)=p+n
  ·rw[if_pos e,if_pos ⟨by omega,by omega⟩]
  ·rw[if_neg e]
   by_cases e2:p≤q∧(q:Int)<p+n
   ·rw[if_pos e2,if_pos ⟨by omega,by omega⟩]
   ·rw[if_neg e2,if_neg (by omega)]
theorem Ds {α β:Type} (f:α→List β) {xs ys:List α} (h:xs.Sublist ys):(xs.flatMap f).Sublist (ys.flatMap f):=by
 induction h with
 | slnil=>exact List.Sublist.refl _
 | cons a _ ih=>rw[List.flatMap_cons];exact ih.trans (List.sublist_append_right ..)
 | cons_cons a _ ih=>rw[List.flatMap_cons,List.flatMap_cons];exact List.Sublist.append (List.Sublist.refl _) ih
theorem uI {h:ac} {E:List Int} (hi:df h E) {sp:List am} {la:List au} {p:Int} {n:Nat} (hn:1≤n) (hs:sp.Sublist h.Spans) (hl:la.Sublist h.Larges) (hall:∀ q:Int,p≤q→q<p+n→q∈pgs h.Spans h.Larges) (hp:0≤p) (hm:∀ q,q∈pgs sp la↔q∈pgs h.Spans h.Larges∧¬(p≤q∧q<p+n)) :
  ∃ o,cG (gi h) h.Free ⟨p,n⟩ = some o∧aH (jy h.Kernel p n)=true∧bC ((jy h.Kernel p n).Machine.Table.Entries.length:Nat) o=true∧bu sp la=true∧Pg (jy h.Kernel p n).Machine.Table o sp la:=by
 have hlast:=hi.pg.bnd _ (hall (p+n - 1) (by omega) (by omega))
 have hlen:=(oy h.Kernel p n).1
 have hlt:p+n≤h.Kernel.Machine.Table.Entries.length:=by unfold tbl at hlast;omega
 have hent:=Da hi.ker hp n hlt
 obtain⟨o,o1,o2,o3⟩:=DP (r:=⟨p,n⟩) hi.rng ⟨hp,by simp only;omega,hlt⟩ fun q q1 q2=>by
  simp only at q1 q2
  obtain⟨m,rfl⟩:=Int.eq_ofNat_of_zero_le (show 0≤q by omega)
  have hml:m<(tbl h).Entries.length:=by unfold tbl;omega
  exact(hi.pg.fre m hml).1 ((hi.pg.own m hml).2 (hall _ q1 q2))
 refine⟨o,o1,uq hi.ker p n,by rw[hlen];exact o2,?_,?_⟩
 ·obtain⟨l1,l2,l3⟩:=gk hi.lay
  unfold bu
  simp only[Bool.and_eq_true,decide_eq_true_eq]
  exact⟨⟨List.all_eq_true.2 fun s h1=>List.all_eq_true.1 l1 s (hs.subset h1),List.all_eq_true.2 fun l h1=>List.all_eq_true.1 l2 l (hl.subset h1)⟩,l3.sublist ((hs.map _).append (Ds _ hl))⟩
 ·have hold:∀ q:Nat,(q:Int)∈pgs sp la→nth (jy h.Kernel p n).Machine.Table.Entries q=nth (tbl h).Entries q:=fun q hq=>by rw[hent,if_neg ((hm q).1 hq).2];rfl
  have hmode:∀ q:Nat,(nth (jy h.Kernel p n).Machine.Table.Entries q).Mode≠0↔(nth (tbl h).Entries q).Mode≠0∧¬(p≤q∧(q:Int)<p+n):=fun q=>by
   rw[hent]
   by_cases e:p≤q∧(q:Int)<p+n
   ·rw[if_pos e];exact⟨fun x=>absurd rfl x,fun x=>absurd e x.2⟩
   ·rw[if_neg e];exact⟨fun x=>⟨x,e⟩,fun x=>x.1⟩
  refine⟨fun l h1 q hq r hr hrm hrf=>?_,fun q hq=>?_,fun q hq=>?_,fun q hq=>?_,fun s h1 u h2 hne hf=>?_⟩
  ·have hr2:=(hmode r).1 hrm
   rw[hlen]at hr
   rw[hold q (mi h1 hq),hent,if_neg hr2.2]at hrf
   exact hi.pg.one l (hl.subset h1) q hq r hr hr2.1 hrf
  ·rw[hlen];exact hi.pg.bnd q ((hm q).1 hq).1
  ·rw[hlen]at hq
   rw[hmode,hm,hi.pg.own q hq]
  ·rw[hlen]at hq
   rw[hmode,o3,hi.pg.fre q hq]
   simp only
   grind
  ·have hpos:∀ s∈sp,0≤s.Page:=fun s h1=>(aR (hi.L.sok s (hs.subset h1))).1
   have e1:=hold s.Page.toNat (by rw[Int.toNat_of_nonneg (hpos s h1)];exact iQ h1)
   have e2:=hold u.Page.toNat (by rw[Int.toNat_of_nonneg (hpos u h2)];exact iQ h2)
   rw[e1,e2]at hf
   exact hi.pg.mesh s (hs.subset h1) u (hs.subset h2) hne hf
theorem fD {α:Type} [Inhabited α] {xs:List α} {k:Nat} {z:α} : z∈dele xs k↔∃ j,j<xs.length∧j≠k∧nth xs j=z:=by
 unfold dele
 rw[List.mem_append]
 constructor
 ·rintro(h|h)
  ·obtain⟨j,hj,rfl⟩:=List.mem_take_iff_getElem.1 h
   exact⟨j,by omega,by omega,bL (List.getElem?_eq_getElem (by omega))⟩
  ·obtain⟨j,hj,rfl⟩:=List.mem_drop_iff_getElem.1 h
   exact⟨k+1+j,by omega,by omega,bL (List.getElem?_eq_getElem (by omega))⟩
 ·rintro⟨j,hj,hne,rfl⟩
  rw[bL (List.getElem?_eq_getElem hj)]
  by_cases e:j<k
  ·exact .inl (List.mem_take_iff_getElem.2 ⟨j,by omega,rfl⟩)
  ·refine .inr (List.mem_drop_iff_getElem.2 ⟨j - (k+1),by omega,?_⟩)
   congr 1;omega
theorem un {sp:List am} {la:List au} {q:Int} : q∈pgs sp la↔(∃ s∈sp,s.Page=q)∨∃ l∈la,q∈lpgs l l.Pages.toNat:=by
 unfold pgs;simp only[List.mem_append,List.mem_map,List.mem_flatMap]
theorem GN {s:am} (h:s.Bits=0) (a:Int):¬i7 s a:=by
 rintro⟨-,-,-,h4⟩
 rw[kY,h]at h4
 simp at h4
theorem df.giveSpan {h:ac} {E:List Int} {i:Nat} (hi:df h E) (li:i<h.Spans.length) (hb:(nth h.Spans i).Bits=0) (hj:h.Meshing=true→(nth h.Spans i).Page≠h.Job.Plan.Keep∧(nth h.Spans i).Page≠h.Job.Plan.Move) :
  ∃ o,cG (gi h) h.Free ⟨(nth h.Spans i).Page,1⟩ = some o∧df {h with Kernel:=dt h.Kernel (nth h.Spans i).Page,Spans:=dele h.Spans i,Free:=o} E:=by
 have hL:=hi.L
 have hc:=aR (hL.sok _ (aC li))
 have hmem:∀ q,q∈pgs (dele h.Spans i) h.Larges↔q∈pgs h.Spans h.Larges∧¬((nth h.Spans i).Page≤q∧q<(nth h.Spans i).Page+(1:Nat)):=fun q=>by
  rw[un,un]
  constructor
  ·rintro(⟨s,hs,rfl⟩|⟨l,hl,hq⟩)
   ·obtain⟨j,hjl,hji,rfl⟩:=fD.1 hs
    refine⟨.inl ⟨_,aC hjl,rfl⟩,fun e=>hji (lf (f:=(·.Page)) hL.nd hjl li (by omega))⟩
   ·refine⟨.inr ⟨l,hl,hq⟩,fun e=>?_⟩
    obtain⟨k,hk,rfl⟩:=fI.1 hq
    exact hL.dis _ (aC li) l hl k hk (by omega)
  ·rintro⟨⟨s,hs,rfl⟩|⟨l,hl,hq⟩,hne⟩
   ·obtain⟨j,hjl,rfl⟩:=bz hs
    refine .inl ⟨_,fD.2 ⟨j,hjl,fun e=>hne (by subst e;omega),rfl⟩,rfl⟩
   ·exact .inr ⟨l,hl,hq⟩
 obtain⟨o,o1,o2,o3,o4,o5⟩:=uI hi (sp:=dele h.Spans i) (la:=h.Larges) (p:=(nth h.Spans i).Page) (n:=1) (Nat.le_refl _) (fH ..) (List.Sublist.refl _) (fun q q1 q2=>by rw[show q=(nth h.Spans i).Page by omega];exact iQ (aC li)) hc.1 hmem
 have hu:jy h.Kernel (nth h.Spans i).Page 1=dt h.Kernel (nth h.Spans i).Page:=by show dt h.Kernel ((nth h.Spans i).Page+((0:Nat):Int))=_;rw[show(nth h.Spans i).Page+((0:Nat):Int)=(nth h.Spans i).Page by omega]
 rw[hu]at o2 o3 o5
 have hSl:∀ b c,pq (dele h.Spans i) b c↔pq h.Spans b c:=fun b c=>by
  constructor
  ·rintro⟨s,hs,h1⟩;exact⟨s,(fH ..).subset hs,h1⟩
  ·rintro⟨s,hs,h1,h2⟩
   obtain⟨j,hjl,rfl⟩:=bz hs
   exact⟨_,fD.2 ⟨j,hjl,fun e=>GN hb b (by rw[←e];exact h1),rfl⟩,h1,h2⟩
 refine⟨o,o1,{hi with
   ker:=o2
   rng:=o3
   lay:=o4
   srs:=hi.srs.sublist (fH ..)
   pg:=o5
   oow:=fun ob ho=>?_
   hca:=fun c hc k hk b hb=>(hSl b k).2 (hi.hca c hc k hk b hb)
   hqu:=fun x hx=>(hSl _ _).2 (hi.hqu x hx)
   hfl:=fun b hb=>(hSl _ _).2 (hi.hfl b hb)
   hin:=fun b hb=>(hSl _ _).2 (hi.hin b hb)
   mem:=fun b=>(hi.mem b).trans ?_
   job:=fun hm=>?_}⟩
 ·rcases hi.oow ob ho with⟨s,hs,h1,h2⟩|h1
  ·obtain⟨j,hjl,rfl⟩:=bz hs
   exact .inl ⟨_,fD.2 ⟨j,hjl,fun e=>GN hb _ (by rw[←e];exact h1),rfl⟩,h1,h2⟩
  ·exact .inr h1
 ·unfold Live;rw[hSl]
 ·obtain⟨j1,⟨s,hs,e1⟩,⟨u,hu,e2⟩⟩:=hi.job hm
  obtain⟨n1,n2⟩:=hj hm
  obtain⟨a,hal,rfl⟩:=bz hs
  obtain⟨b,hbl,rfl⟩:=bz hu
  exact⟨j1,⟨_,fD.2 ⟨a,hal,fun e=>n1 (by rw[←e];exact e1),rfl⟩,e1⟩,⟨_,fD.2 ⟨b,hbl,fun e=>n2 (by rw[←e];exact e2),rfl⟩,e2⟩⟩
theorem df.dropL {h:ac} {E:List Int} {i k:Nat} (hi:df h E) (li:i<h.Objs.length) (lk:k<h.Larges.length) (ea:(nth h.Objs i).Addr=16*(nth h.Larges k).Page) :
  ∃ o,cG (gi h) h.Free ⟨(nth h.Larges k).Page,(nth h.Larges k).Pages⟩ = some o∧df {h with Kernel:=jy h.Kernel (nth h.Larges k).Page (nth h.Larges k).Pages.toNat,Larges:=dele h.Larges k,Free:=o,Objs:=dele h.Objs i} E:=by
 have hL:=hi.L
 have hf:=bB (hL.lok _ (aC lk))
 have hmem:∀ q,q∈pgs h.Spans (dele h.Larges k)↔q∈pgs h.Spans h.Larges∧¬((nth h.Larges k).Page≤q∧q<(nth h.Larges k).Page+((nth h.Larges k).Pages.toNat:Nat)):=fun q=>by
  rw[un,un]
  constructor
  ·rintro(⟨s,hs,rfl⟩|⟨l,hl,hq⟩)
   ·refine⟨.inl ⟨s,hs,rfl⟩,fun e=>hL.dis s hs _ (aC lk) (s.Page - (nth h.Larges k).Page).toNat (by omega) (by omega)⟩
   ·obtain⟨j,hjl,hji,rfl⟩:=fD.1 hl
    refine⟨.inr ⟨_,aC hjl,hq⟩,fun e=>?_⟩
    obtain⟨m,hm,rfl⟩:=fI.1 hq
    exact hji (hL.one j k hjl lk m ((nth h.Larges j).Page+(m:Int) - (nth h.Larges k).Page).toNat hm (by omega) (by omega))
  ·rintro⟨⟨s,hs,rfl⟩|⟨l,hl,hq⟩,hne⟩
   ·exact .inl ⟨s,hs,rfl⟩
   ·obtain⟨j,hjl,rfl⟩:=bz hl
    refine .inr ⟨_,fD.2 ⟨j,hjl,fun e=>hne ?_,rfl⟩,hq⟩
    subst e
    obtain⟨m,hm,rfl⟩:=fI.1 hq
    omega
 obtain⟨o,o1,o2,o3,o4,o5⟩:=uI hi (sp:=h.Spans) (la:=dele h.Larges k) (p:=(nth h.Larges k).Page) (n:=(nth h.Larges k).Pages.toNat) (by omega) (List.Sublist.refl _) (fH ..) (fun q q1 q2=>mi (aC lk) (fI.2 ⟨(q - (nth h.Larges k).Page).toNat,by omega,by omega⟩)) hf.2.2.1 hmem
 rw[Int.toNat_of_nonneg (by omega)]at o1
 have hp:(E++holders h).Perm ((nth h.Objs i).Addr::(E++holders {h with Objs:=dele h.Objs i})):=by
  have h0:=(yN li).map (·.Addr)
  refine List.perm_iff_count.2 fun a=>?_
  have h1:=h0.count_eq a
  simp only[List.map_cons,List.count_cons]at h1
  simp only[holders,f9,List.count_append,List.count_cons]
  omega
 have hnd:=hp.nodup_iff.1 hi.nd
 obtain⟨hna,hnd⟩:=List.nodup_cons.1 hnd
 have hmm:∀ b,(b=(nth h.Objs i).Addr∨b∈E++holders {h with Objs:=dele h.Objs i})↔Live h.Spans h.Larges b:=fun b=>by rw[←hi.mem b,hp.mem_iff,List.mem_cons]
 have hne:∀ b,b∈E++holders {h with Objs:=dele h.Objs i}→b≠(nth h.Objs i).Addr:=fun b hb e=>hna (by rw[←e];exact hb)
 refine⟨o,o1,{hi with
   ker:=o2
   rng:=o3
   lay:=o4
   srl:=hi.srl.sublist (fH ..)
   pg:=o5
   osr:=hi.osr.sublist (fH ..)
   onu:=fun ob ho=>hi.onu ob ((fH ..).subset ho)
   oid:=hi.oid.sublist ((fH ..).map _)
   oow:=fun ob ho=>?_
   nd:=hnd
   mem:=fun b=>?_}⟩
 ·rcases hi.oow ob ((fH ..).subset ho) with h1|⟨l,hl,e1,e2⟩
  ·exact .inl h1
  ·obtain⟨j,hjl,rfl⟩:=bz hl
   refine .inr ⟨_,fD.2 ⟨j,hjl,fun e=>?_,rfl⟩,e1,e2⟩
   subst e
   refine hne ob.Addr (List.mem_append.2 (.inr ?_)) (by rw[ea];exact e1)
   unfold holders;simp only[List.mem_append];exact .inl (.inl (.inl (List.mem_map.2 ⟨ob,ho,rfl⟩)))
 ·constructor
  ·intro hb
   rcases(hmm b).1 (.inr hb) with h1|⟨l,hl,rfl⟩
   ·exact .inl h1
   ·obtain⟨j,hjl,rfl⟩:=bz hl
    exact .inr ⟨_,fD.2 ⟨j,hjl,fun e=>hne _ hb (by rw[ea,e]),rfl⟩,rfl⟩
  ·rintro(h1|⟨l,hl,rfl⟩)
   ·refine((hmm b).2 (.inl h1)).resolve_left fun e=>?_
    obtain⟨s,hs,⟨g1,g2,-⟩,-⟩:=h1
    exact(AX hL (aC lk)).1 s hs (by rw[e,ea]at g1 g2;exact⟨g1,g2⟩)
   ·obtain⟨j,hjl,hji,rfl⟩:=fD.1 hl
    refine((hmm _).2 (.inr ⟨_,aC hjl,rfl⟩)).resolve_left fun e=>hji ?_
    have g1:=bB (hL.lok _ (aC hjl))
    rw[ea]at e
    exact hL.one j k hjl lk 0 0 (by omega) (by omega) (by omega)
end Go.Proofs.YtplcalfnngkffaaGreat.Ab
/- Freeing: what becomes of the data, and that a valid heap stays valid. No condition. -/
namespace Go.Proofs.YtplcalfnngkffaaGreat.Ab
def m6 (h:ac) (p:Int):Bool:=h.Meshing&&(decide (p=h.Job.Plan.Keep) || decide (p=h.Job.Plan.Move))
def GM (h:ac) (i:Nat):ac:={h with Kernel:=dt h.Kernel (nth h.Spans i).Page,Spans:=dele h.Spans i,Free:=(cG (gi h) h.Free ⟨(nth h.Spans i).Page,1⟩).getD h.Free}
def j7 (h:ac) (i:Nat) (a:Int):ac:={h with Spans:=h.Spans.set i (kD (nth h.Spans i) (dI (nth h.Spans i) a))}
def freeS (h:ac) (i:Nat) (a:Int):ac:=if(kD (nth h.Spans i) (dI (nth h.Spans i) a)).Bits=0∧m6 h (nth h.Spans i).Page=false then GM (j7 h i a) i else j7 h i a
def vd (h:ac) (a:Int):Nat:=(ge h (a / 16)).toNat
def freeA (h:ac) (a:Int):ac:=freeS h (vd h a) a
def cput (c:ay) (k a:Int):Option ay:=if b9 c=true∧0≤k∧k≤3∧b9 (xB c k.toNat a)=true then some (xB c k.toNat a) else none
def recyc (t:Nat) (h:ac) (a:Int):ac:=match cput (nth h.Caches t) (nth h.Spans (vd h a)).Class a with
 | some c=>{h with Caches:=h.Caches.set t c}
 | none=>freeA h a
theorem df.at {h:ac} {E:List Int} {a:Int} (hi:df h E) (ha:pq h.Spans a (-1)):vd h a<h.Spans.length∧i7 (nth h.Spans (vd h a)) a∧ge h (a / 16)=(vd h a:Nat):=by
 obtain⟨s,hs,h1,-⟩:=ha
 obtain⟨i,li,rfl⟩:=bz hs
 have hp:(nth h.Spans i).Page=a / 16:=by have a1:=h1.1;have a2:=h1.2.1;omega
 have hon:=sR hi.L li
 rw[hp]at hon
 have hx:vd h a=i:=by unfold vd;rw[hon];rfl
 rw[hx]
 exact⟨li,h1,hon⟩
theorem JZ {h:ac} {p:Int} (e:m6 h p=false) (hm:h.Meshing=true):p≠h.Job.Plan.Keep∧p≠h.Job.Plan.Move:=by
 unfold m6 at e
 rw[hm]at e
 simpa using e
theorem df.freeS {h:ac} {E:List Int} {a:Int} {i:Nat} (hi:df h (a::E)) (li:i<h.Spans.length) (ha:i7 (nth h.Spans i) a):df (freeS h i a) E:=by
 have h1:=hi.give li ha
 unfold Ab.freeS
 split
 ·rename_i e
  have hn:nth (j7 h i a).Spans i=kD (nth h.Spans i) (dI (nth h.Spans i) a):=by unfold j7;simp only[eL,true_and];rw[if_pos li]
  obtain⟨o,o1,o2⟩:=df.giveSpan (h:=j7 h i a) h1 (i:=i) (by unfold j7;simp only[List.length_set];exact li) (by rw[hn];exact e.1) (fun hm=>by rw[hn];exact JZ e.2 hm)
  unfold GM
  rw[o1]
  exact o2
 ·exact h1
theorem df.freeA {h:ac} {E:List Int} {a:Int} (hi:df h (a::E)):df (freeA h a) E:=by
 obtain⟨h1,h2,-⟩:=hi.at (hi.hin a (List.mem_cons_self ..))
 exact hi.freeS h1 h2
theorem DO {c:ay} (h:b9 c=true):c.Lists.length=4:=by
 unfold b9 at h;simp only[Bool.and_eq_true,decide_eq_true_eq]at h;exact h.1
theorem df.recyc {h:ac} {E:List Int} {a:Int} {t:Nat} (hi:df h (a::E)) (ht:t<h.Caches.length):df (recyc t h a) E:=by
 obtain⟨h1,h2,-⟩:=hi.at (hi.hin a (List.mem_cons_self ..))
 unfold Ab.recyc
 split
 ·rename_i c hc
  unfold cput at hc
  split at hc
  ·rename_i e
   cases hc
   obtain⟨e1,e2,e3,e4⟩:=e
   exact hi.put ht (by rw[DO e1];omega) ⟨_,aC h1,h2,.inr (by omega)⟩ e4
  ·cases hc
 ·exact hi.freeA
theorem wE (h:ac) (i:Nat) (a:Int):(freeS h i a).Caches=h.Caches∧(freeS h i a).Objs=h.Objs∧(freeS h i a).Kernel.Calls=h.Kernel.Calls∧(freeS h i a).Mail=h.Mail∧(freeS h i a).Job=h.Job∧(freeS h i a).Clock=h.Clock∧(freeS h i a).Quar=h.Quar∧(freeS h i a).Kernel.Refuse=h.Kernel.Refuse:=by
 unfold freeS
 split
 ·obtain⟨-,h2,h3⟩:=qh (j7 h i a).Kernel (nth (j7 h i a).Spans i).Page
  exact⟨rfl,rfl,h2,rfl,rfl,rfl,rfl,h3⟩
 ·exact⟨rfl,rfl,rfl,rfl,rfl,rfl,rfl,rfl⟩
theorem vT (t:Nat) (h:ac) (a:Int):(recyc t h a).Caches.length=h.Caches.length∧(recyc t h a).Objs=h.Objs∧(recyc t h a).Kernel.Calls=h.Kernel.Calls∧(recyc t h a).Mail=h.Mail∧(recyc t h a).Job=h.Job∧(recyc t h a).Clock=h.Clock∧(recyc t h a).Quar=h.Quar∧(recyc t h a).Kernel.Refuse=h.Kernel.Refuse:=by
 unfold recyc
 split
 ·exact⟨List.length_set ..,rfl,rfl,rfl,rfl,rfl,rfl,rfl⟩
 ·obtain⟨h1,h2⟩:=wE h (vd h a) a
  exact⟨congrArg _ h1,h2⟩
def recycs (t:Nat) (h:ac) (az:List Int):ac:=az.foldl (recyc t) h
theorem tz (t:Nat):∀ (az:List Int) (h:ac),(recycs t h az).Caches.length=h.Caches.length∧(recycs t h az).Objs=h.Objs∧(recycs t h az).Kernel.Calls=h.Kernel.Calls∧(recycs t h az).Mail=h.Mail∧(recycs t h az).Job=h.Job∧(recycs t h az).Clock=h.Clock∧(recycs t h az).Quar=h.Quar∧(recycs t h az).Kernel.Refuse=h.Kernel.Refuse
 | [],h=>⟨rfl,rfl,rfl,rfl,rfl,rfl,rfl,rfl⟩
 | a::az,h=>by
  obtain⟨h1,h2,h3,h4,h5,h6,h7,h8⟩:=tz t az (recyc t h a)
  obtain⟨g1,g2,g3,g4,g5,g6,g7,g8⟩:=vT t h a
  exact⟨h1.trans g1,h2.trans g2,h3.trans g3,h4.trans g4,h5.trans g5,h6.trans g6,h7.trans g7,h8.trans g8⟩
theorem df.recycs {t:Nat} {E:List Int} : ∀ {az:List Int} {h:ac},df h (az++E)→t<h.Caches.length→df (recycs t h az) E
 | [],h,hi,_=>hi
 | a::az,h,hi,ht=>df.recycs (az:=az) (h:=Ab.recyc t h a) (hi.recyc ht) (by rw[(vT t h a).1];exact ht)
def qc (l:List aE):Int:=quarCells l l.length
def Kw (room:Int):List aE→Nat
 | []=>0
 | x::xs=>if room<qc (x::xs) then Kw room xs+1 else 0
def Kj (q:aQ) (x:aE):aQ:=⟨q.Room,(q.Lst++[x]).drop (Kw q.Room (q.Lst++[x]))⟩
def J7 (q:aQ) (x:aE):List aE:=(q.Lst++[x]).take (Kw q.Room (q.Lst++[x]))
theorem Hb {room:Int} (hr:0≤room):∀ l:List aE,qc (l.drop (Kw room l))≤room
 | []=>hr
 | x::xs=>by
  unfold Kw
  split
  ·exact Hb hr xs
  ·rename_i h;show qc (x::xs)≤room;omega
theorem rK {q:aQ} : gZ q=true↔(∀ x∈q.Lst,0≤x.Class∧x.Class≤3∧0≤x.Addr∧0≤x.Since)∧(q.Lst.Pairwise fun a b=>a.Since≤b.Since)∧(q.Lst.map (·.Addr)).Nodup∧0≤q.Room∧q.Room≤500∧qc q.Lst≤q.Room:=by
 refine Iff.trans ?_ (and_congr Iff.rfl (and_congr (uz (fun a b:Int=>a≤b) (fun a b c=>Int.le_trans) (fun s:aE=>s.Since) q.Lst) (and_congr (y7 (fun s:aE=>s.Addr) q.Lst) Iff.rfl)))
 unfold gZ qc
 simp only[Bool.and_eq_true,decide_eq_true_eq,ch,jR,Bool.not_eq_true',List.any_eq_false,fj]
 constructor
 ·rintro⟨h1,h2⟩
  refine⟨fun x hx=>?_,fun i hi=>(h1 i hi).1.2.2.2.2,fun i hi=>(h1 i hi).2,h2⟩
  obtain⟨i,hi,rfl⟩:=bz hx
  obtain⟨⟨a1,a2,a3,a4,-⟩,-⟩:=h1 i hi
  exact⟨a1,a2,a3,a4⟩
 ·rintro⟨h1,h2,h3,h4⟩
  refine⟨fun i hi=>?_,h4⟩
  obtain⟨a1,a2,a3,a4⟩:=h1 _ (aC hi)
  exact⟨⟨a1,a2,a3,a4,h2 i hi⟩,h3 i hi⟩
theorem LO {q:aQ} {x:aE} (h:gZ q=true) (hx:0≤x.Class∧x.Class≤3∧0≤x.Addr∧0≤x.Since) (hs:∀ y∈q.Lst,y.Since≤x.Since) (hn:∀ y∈q.Lst,y.Addr≠x.Addr):gZ (Kj q x)=true:=by
 obtain⟨h1,h2,h3,h4,h5,h6⟩:=rK.1 h
 have hsub:(Kj q x).Lst.Sublist (q.Lst++[x]):=List.drop_sublist ..
 refine rK.2 ⟨fun y hy=>?_,List.Pairwise.sublist hsub ?_,List.Nodup.sublist (hsub.map _) ?_,h4,h5,Hb h4 _⟩
 ·rcases List.mem_append.1 (hsub.subset hy) with hy|hy
  ·exact h1 y hy
  ·rw[List.mem_singleton.1 hy];exact hx
 ·exact List.pairwise_append.2 ⟨h2,List.pairwise_singleton ..,fun a ha b hb=>by rw[List.mem_singleton.1 hb];exact hs a ha⟩
 ·rw[List.map_append]
  refine List.nodup_append.2 ⟨h3,by simp,fun a ha b hb=>?_⟩
  obtain⟨y,hy,rfl⟩:=List.mem_map.1 ha
  simp only[List.map_cons,List.map_nil,List.mem_singleton]at hb
  rw[hb];exact hn y hy
def Dl (r:List Int) (o:Nat):Nat→List Int
 | 0=>r
 | n+1=>(Dl r o n).set (o+n) 0
def KG (k:af) (a:Int):Nat:=(ax k.Machine.Table (a / 16)).Frame.toNat
def vj (k:af) (a:Int) (n:Nat):af:={k with Machine:=⟨⟨k.Machine.Frames.Cells.set (KG k a) (Dl (nth k.Machine.Frames.Cells (KG k a)) (a % 16).toNat n),k.Machine.Frames.Used⟩,k.Machine.Table⟩}
theorem zk (r:List Int) (o:Nat):∀ n,(Dl r o n).length=r.length
 | 0=>rfl
 | n+1=>by unfold Dl;rw[List.length_set,zk r o n]
theorem yD {r:List Int} {o:Nat} : ∀ {n:Nat} {v:Int},v∈Dl r o n→v∈r∨v=0
 | 0,v,h=>.inl h
 | n+1,v,h=>by
  rcases List.mem_or_eq_of_mem_set h with h|h
  ·exact yD h
  ·exact .inr h
theorem JH {k:af} (h:aH k=true) (a:Int) (n:Nat):aH (vj k a n)=true:=by
 obtain⟨h1,h2,h3,h4,h5⟩:=aJ.1 h
 obtain⟨g1,g2,g3,g4⟩:=aY.1 h2
 refine aJ.2 ⟨h1,aY.2 ⟨?_,?_,?_,fun j hj=>?_⟩,h3,h4,h5⟩
 ·simp only[vj,List.length_set];exact g1
 ·simp only[vj,List.length_set];exact g2
 ·simp only[vj,List.length_set];exact g3
 ·simp only[vj,List.length_set]at hj ⊢
  simp only[eL]
  split
  ·rename_i e
   have h6:=g4 j hj
   unfold i6 at h6 ⊢
   simp only[Bool.and_eq_true,decide_eq_true_eq,List.all_eq_true]at h6 ⊢
   rw[e.1]at *
   refine⟨by rw[zk];exact h6.1,fun v hv=>?_⟩
   rcases yD hv with hv|rfl
   ·exact h6.2 v hv
   ·unfold jd;simp
  ·exact g4 j hj
def Gn (h:ac) (a:Int):Nat:=(h.Larges.findIdx? fun l=>decide (l.Page*16=a)).getD 0
def freeL (h:ac) (i k:Nat):ac:={h with Kernel:=jy h.Kernel (nth h.Larges k).Page (nth h.Larges k).Pages.toNat,Larges:=dele h.Larges k,Free:=(cG (gi h) h.Free ⟨(nth h.Larges k).Page,(nth h.Larges k).Pages⟩).getD h.Free,Objs:=dele h.Objs i}
def qp (h:ac) (o:aX):aE:=⟨o.Addr,cq o.Size,h.Clock⟩
def inQuar (h:ac) (i:Nat):ac:={h with Kernel:=vj h.Kernel (nth h.Objs i).Addr (csz (cq (nth h.Objs i).Size)).toNat,Objs:=dele h.Objs i,Quar:=Kj h.Quar (qp h (nth h.Objs i))}
def N5 (h:ac) (t i:Nat):ac:=recycs t (inQuar h i) ((J7 h.Quar (qp h (nth h.Objs i))).map (·.Addr))
def freeOb (h:ac) (t i:Nat):ac × Int:=
 if cq (nth h.Objs i).Size<0 then(freeL h i (Gn h (nth h.Objs i).Addr),0)
 else if(ax (tbl h) ((nth h.Objs i).Addr / 16)).Mode=1 then(h,5)
 else(N5 h t i,0)
theorem LI {h:ac} {l:au} (hl:l∈h.Larges) {a:Int} (e:a=16*l.Page):Gn h a<h.Larges.length∧a=16*(nth h.Larges (Gn h a)).Page∧(∀ j,j<Gn h a→(nth h.Larges j).Page*16≠a)∧h.Larges.findIdx? (fun l=>decide (l.Page*16=a))=some (Gn h a):=by
 cases h1:h.Larges.findIdx? fun l=>decide (l.Page*16=a) with
 | none=>
  have:=List.findIdx?_eq_none_iff.1 h1 l hl
  rw[decide_eq_false_iff_not]at this
  omega
 | some k=>
  obtain⟨hk,hp,hb⟩:=List.findIdx?_eq_some_iff_getElem.1 h1
  have hx:Gn h a=k:=by unfold Gn;rw[h1];rfl
  rw[hx]
  rw[←bL (List.getElem?_eq_getElem hk),decide_eq_true_eq]at hp
  refine⟨hk,by omega,fun j hj=>?_,rfl⟩
  have:=hb j hj
  rw[←bL (List.getElem?_eq_getElem (show j<h.Larges.length by omega))]at this
  simpa using this
theorem mS {h:ac} {E:List Int} (hi:df h E) {o:aX} (ho:o∈h.Objs):(cq o.Size<0→Pr h.Larges o.Addr o.Size)∧(¬cq o.Size<0→(∃ s∈h.Spans,i7 s o.Addr∧s.Class=cq o.Size)∧cq o.Size≤3):=by
 rcases hi.oow o ho with⟨s,hs,h1,h2⟩|⟨l,hl,h1,h2⟩
 ·have hc:=aR (hi.L.sok s hs)
  exact⟨fun e=>by omega,fun _=>⟨⟨s,hs,h1,h2⟩,by omega⟩⟩
 ·have hf:=dM (hi.L.lok l hl)
  refine⟨fun _=>⟨l,hl,h1,h2⟩,fun e=>absurd ?_ e⟩
  unfold cq
  rw[if_neg (by omega),if_neg (by omega),if_neg (by omega),if_neg (by omega),if_neg (by omega)]
  decide
theorem df.inQuar {h:ac} {i:Nat} (hi:df h []) (li:i<h.Objs.length) (hc:¬cq (nth h.Objs i).Size<0):df (inQuar h i) ((J7 h.Quar (qp h (nth h.Objs i))).map (·.Addr)):=by
 obtain⟨⟨s,hs,h1,h2⟩,h3⟩:=(mS hi (aC li)).2 hc
 have hSl:pq h.Spans (nth h.Objs i).Addr (cq (nth h.Objs i).Size):=⟨s,hs,h1,.inr h2⟩
 have hn:=hi.nums
 unfold eP at hn
 rw[decide_eq_true_eq]at hn
 have hsc:=aR (hi.L.sok s hs)
 have g1:=hi.dropO li hSl.any
 have g2:=g1.cells (k:=vj h.Kernel (nth h.Objs i).Addr (csz (cq (nth h.Objs i).Size)).toNat) (JH hi.ker _ _) rfl
 have hnq:∀ y∈h.Quar.Lst,y.Addr≠(nth h.Objs i).Addr:=fun y hy e=>by
  have hnd:=g1.nd
  rw[List.cons_append,List.nil_append]at hnd
  refine(List.nodup_cons.1 hnd).1 ?_
  rw[←e]
  unfold holders
  simp only[List.mem_append]
  exact .inl (.inr (List.mem_map.2 ⟨y,hy,rfl⟩))
 have g3:=df.toQuar (x:=qp h (nth h.Objs i)) (q:=Kj h.Quar (qp h (nth h.Objs i))) (out:=J7 h.Quar (qp h (nth h.Objs i))) g2 (LO hi.quar ⟨by show 0≤cq _;omega,h3,by show 0≤(nth h.Objs i).Addr;have:=h1.1;omega,hn.2.2.1⟩ (fun y hy=>hi.snc y hy) hnq) (by unfold J7 Kj;simp only[List.take_append_drop]) (Int.le_refl _) hSl
 rw[List.append_nil]at g3
 exact g3
theorem df.freeOb {h:ac} {t i:Nat} (hi:df h []) (li:i<h.Objs.length) (ht:t<h.Caches.length):df (freeOb h t i).1 []:=by
 unfold Ab.freeOb
 split
 ·rename_i hc
  obtain⟨l,hl,h1,-⟩:=(mS hi (aC li)).1 hc
  obtain⟨k1,k2,-⟩:=LI hl h1
  obtain⟨o,o1,o2⟩:=hi.dropL li k1 k2
  unfold Ab.freeL
  rw[o1]
  exact o2
 ·rename_i hc
  split
  ·exact hi
  ·have h1:=hi.inQuar li hc
   refine df.recycs (E:=[]) ?_ ht
   rw[List.append_nil];exact h1
end Go.Proofs.YtplcalfnngkffaaGreat.Ab
/- How long the lists of a valid heap can be; freeing all objects of a thread: the data. No condition. -/
namespace Go.Proofs.YtplcalfnngkffaaGreat.Ab
theorem GG:∀ {H L:List Int},H.Nodup→(∀ x∈H,x∈L)→H.length≤L.length
 | [],L,_,_=>Nat.zero_le _
 | y::H,L,hn,hs=>by
  have hy:y∈L:=hs y (List.mem_cons_self ..)
  have hn2:=List.nodup_cons.1 hn
  have:=GG (L:=L.erase y) hn2.2 fun z hz=>(List.mem_erase_of_ne (fun e:z=y=>hn2.1 (by rw[←e];exact hz))).2 (hs z (List.mem_cons_of_mem _ hz))
  rw[List.length_erase_of_mem hy]at this
  have h1:=List.length_pos_of_mem hy
  simp only[List.length_cons]
  omega
theorem wz {H:List Int} {n:Nat} (hn:H.Nodup) (hb:∀ x∈H,0≤x∧x<n):H.length≤n:=by
 have:=GG (L:=(List.range n).map fun(i:Nat)=>(i:Int)) hn fun x hx=>List.mem_map.2 ⟨x.toNat,List.mem_range.2 (by have:=hb x hx;omega),by have:=hb x hx;omega⟩
 simpa using this
theorem me {α:Type} {f:α→Int} {xs:List α} (h:xs.Pairwise fun a b=>f a<f b):(xs.map f).Nodup:=by
 unfold List.Nodup
 rw[List.pairwise_map]
 exact h.imp fun h e=>by omega
theorem Le:∀ (ls:List (List Int)) (k:Nat) (s:List Int),(ij k s ls).isSome=true→∀ l∈ls,l.length≤8
 | [],_,_,_,l,hl=>by cases hl
 | x::ls,k,s,h,l,hl=>by
  simp only[ij]at h
  cases e:fq k s x with
  | none=>rw[e]at h;cases h
  | some s'=>
   rw[e]at h
   rcases List.mem_cons.1 hl with rfl|hl
   ·unfold fq at e
    split at e
    ·rename_i c;exact c.1
    ·cases e
   ·exact Le ls (k+1) s' h l hl
theorem ix {c:ay} (h:b9 c=true):c.Lists.length=4∧∀ l∈c.Lists,l.length≤8:=by
 have h':=h
 unfold b9 at h
 simp only[Bool.and_eq_true,decide_eq_true_eq]at h
 exact⟨h.1,Le _ _ _ h.2⟩
structure Bw (h:ac):Prop where
 cells:h.Kernel.Machine.Frames.Cells.length≤32
 row:∀ r∈h.Kernel.Machine.Frames.Cells,r.length=16
 used:h.Kernel.Machine.Frames.Used.length≤32
 ents:h.Kernel.Machine.Table.Entries.length≤32
 ref:h.Kernel.Refuse.length≤40
 free:h.Free.length≤32
 spans:h.Spans.length≤32
 larges:h.Larges.length≤32
 objs:h.Objs.length≤512
 caches:h.Caches.length≤4
 lists:∀ c∈h.Caches,c.Lists.length=4∧∀ l∈c.Lists,l.length≤8
 quar:h.Quar.Lst.length≤512
theorem pq.bd {h:ac} {E:List Int} (hi:df h E) {a c:Int} (hs:pq h.Spans a c):0≤a∧a<512:=by
 obtain⟨s,hm,⟨h1,h2,-⟩,-⟩:=hs
 have hc:=aR (hi.L.sok s hm)
 omega
theorem df.lens {h:ac} {E:List Int} (hi:df h E):Bw h:=by
 obtain⟨h1,h2,h3,h4,h5,h6,h7⟩:=aJ.1 hi.ker
 obtain⟨g1,g2,g3,g4⟩:=aY.1 h2
 obtain⟨t1,t2,t3⟩:=bU.1 h3
 obtain⟨r1,r2,r3⟩:=kA.1 hi.rng
 obtain⟨q1,q2,q3,q4⟩:=rK.1 hi.quar
 have hm:=hi.mail
 unfold dZ at hm
 simp only[Bool.and_eq_true,decide_eq_true_eq]at hm
 have hnc:=hi.nc
 refine⟨g2,fun r hr=>?_,by omega,t3,h7,?_,?_,?_,?_,by omega,fun c hc=>ix (hi.cach c hc),?_⟩
 ·obtain⟨j,hj,rfl⟩:=bz hr
  have:=g4 j hj
  unfold i6 at this
  simp only[Bool.and_eq_true,decide_eq_true_eq]at this
  exact this.1
 ·have:=wz (H:=h.Free.map (·.At)) (n:=32) (me (r1.1.imp_of_mem fun {a b} ha hb h=>by have:=r1.2 a ha;omega)) fun x hx=>by
   obtain⟨r,hr,rfl⟩:=List.mem_map.1 hx
   have:=r2 r hr
   omega
  simpa using this
 ·have:=wz (H:=h.Spans.map (·.Page)) (n:=32) hi.L.nd fun x hx=>by
   obtain⟨s,hs,rfl⟩:=List.mem_map.1 hx
   have:=aR (hi.L.sok s hs)
   omega
  simpa using this
 ·have:=wz (H:=h.Larges.map (·.Page)) (n:=32) (me hi.srl) fun x hx=>by
   obtain⟨l,hl,rfl⟩:=List.mem_map.1 hx
   have:=bB (hi.L.lok l hl)
   omega
  simpa using this
 ·have:=wz (H:=h.Objs.map (·.Addr)) (n:=512) (me hi.osr) fun x hx=>by
   obtain⟨o,ho,rfl⟩:=List.mem_map.1 hx
   rcases hi.oow o ho with⟨s,hs,⟨k1,k2,-⟩,-⟩|⟨l,hl,e,-⟩
   ·have:=aR (hi.L.sok s hs);omega
   ·have:=bB (hi.L.lok l hl);omega
  simpa using this
 ·have:=wz (H:=h.Quar.Lst.map (·.Addr)) (n:=512) q3 fun x hx=>by
   obtain⟨y,hy,rfl⟩:=List.mem_map.1 hx
   exact(hi.hqu y hy).bd hi
  simpa using this
theorem Bw.sml {h:ac} (hl:Bw h) (hk:aH h.Kernel=true) (hm:aK.sml h.Mail) (hj:aZ.sml h.Job):ac.sml h:=
 ⟨bV hk,⟨by have:=hl.free;omega,fun _ _=>trivial⟩,⟨by have:=hl.spans;omega,fun _ _=>trivial⟩,⟨by have:=hl.larges;omega,fun _ _=>trivial⟩,⟨by have:=hl.objs;omega,fun _ _=>trivial⟩,⟨by have:=hl.caches;omega,fun c hc=>⟨by have:=(hl.lists c hc).1;omega,fun l h1=>by have:=(hl.lists c hc).2 l h1;show l.length≤1048576;omega⟩⟩,hm,⟨by have:=hl.quar;omega,fun _ _=>trivial⟩,hj⟩
theorem N9:∀ (x:List ar),bH x=2*x.length
 | []=>rfl
 | x::xs=>by simp only[bH,N9 xs,List.length_cons,ar.cnt];omega
theorem N7:∀ (x:List am),bQ x=3*x.length
 | []=>rfl
 | x::xs=>by simp only[bQ,N7 xs,List.length_cons,am.cnt];omega
theorem Ny:∀ (x:List au),bG x=3*x.length
 | []=>rfl
 | x::xs=>by simp only[bG,Ny xs,List.length_cons,au.cnt];omega
theorem NE:∀ (x:List aX),cS x=4*x.length
 | []=>rfl
 | x::xs=>by simp only[cS,NE xs,List.length_cons,aX.cnt];omega
theorem NY:∀ (x:List aE),cU x=3*x.length
 | []=>rfl
 | x::xs=>by simp only[cU,NY xs,List.length_cons,aE.cnt];omega
theorem NW:∀ (x:List aG),cX x=2*x.length
 | []=>rfl
 | x::xs=>by simp only[cX,NW xs,List.length_cons,aG.cnt];omega
theorem Ni {m:Nat} : ∀ (x:List (List Int)),(∀ y∈x,y.length≤m)→dv x≤m*x.length
 | [],_=>Nat.zero_le _
 | x::xs,h=>by
  have h1:=Ni xs fun y hy=>h y (List.mem_cons_of_mem _ hy)
  have h2:=h x (List.mem_cons_self ..)
  simp only[dv,dU,List.length_cons,Nat.mul_add,Nat.mul_one];omega
theorem NV:∀ (x:List ay),(∀ c∈x,c.Lists.length=4∧∀ l∈c.Lists,l.length≤8)→bY x≤32*x.length
 | [],_=>Nat.zero_le _
 | c::xs,h=>by
  have h1:=NV xs fun y hy=>h y (List.mem_cons_of_mem _ hy)
  obtain⟨h2,h3⟩:=h c (List.mem_cons_self ..)
  have h4:=Ni c.Lists h3
  simp only[bY,ay.cnt,List.length_cons];omega
theorem Bw.cnt {h:ac} (hl:Bw h):ac.cnt h≤6000+aK.cnt h.Mail+aZ.cnt h.Job:=by
 have h1:=Ni (m:=16) h.Kernel.Machine.Frames.Cells fun r hr=>by rw[hl.row r hr];exact Nat.le_refl _
 have h2:=NV h.Caches hl.lists
 obtain⟨l1,l2,l3,l4,l5,l6,l7,l8,l9,l10,l11,l12⟩:=hl
 unfold ac.cnt af.cnt aA.cnt aD.cnt aB.cnt aQ.cnt fE dU
 rw[N9,N7,Ny,NE,NY,NW]
 omega
def vo (a:Int) (o:aX):Bool:=decide (o.Addr=a)
def pS (h:ac) (a:Int):Nat:=(gF (vo a) h.Objs).toNat
theorem df.objAt {h:ac} {E:List Int} (hi:df h E) {o:aX} (ho:o∈h.Objs):pS h o.Addr<h.Objs.length∧nth h.Objs (pS h o.Addr)=o∧gF (vo o.Addr) h.Objs=(pS h o.Addr:Nat):=by
 obtain⟨i,li,rfl⟩:=bz ho
 have hx:gF (vo (nth h.Objs i).Addr) h.Objs=(i:Nat):=gu (ao li) (by unfold vo;simp) fun j z hj hz=>by
  have hzj:=bL hz
  have hjl:=(List.getElem?_eq_some_iff.1 hz).1
  subst hzj
  unfold vo
  refine decide_eq_false fun e=>?_
  have:=lf (f:=(·.Addr)) (me hi.osr) hjl li e
  omega
 have hy:pS h (nth h.Objs i).Addr=i:=by unfold pS;rw[hx];rfl
 rw[hy]
 exact⟨li,rfl,hx⟩
def bJ (h:ac) (t:Nat):Nat→ac × Int
 | 0=>(h,0)
 | n+1=>if(nth h.Objs n).Thread=t then
   ((freeOb (bJ h t n).1 t (pS (bJ h t n).1 (nth h.Objs n).Addr)).1,if(freeOb (bJ h t n).1 t (pS (bJ h t n).1 (nth h.Objs n).Addr)).2=0 then(bJ h t n).2+1 else(bJ h t n).2)
  else bJ h t n
theorem yC (k:af) (p:Int) (n:Nat):(jy k p n).Calls=k.Calls∧(jy k p n).Refuse=k.Refuse:=(oy k p n).2
theorem Ez (h:ac) (t i:Nat):((freeOb h t i).1.Objs=h.Objs∨(freeOb h t i).1.Objs=dele h.Objs i)∧(freeOb h t i).1.Caches.length=h.Caches.length∧(freeOb h t i).1.Kernel.Calls=h.Kernel.Calls∧(freeOb h t i).1.Mail=h.Mail∧(freeOb h t i).1.Job=h.Job:=by
 unfold freeOb
 split
 ·exact⟨.inr rfl,rfl,(yC _ _ _).1,rfl,rfl⟩
 ·split
  ·exact⟨.inl rfl,rfl,rfl,rfl,rfl⟩
  ·obtain⟨h1,h2,h3,h4,h5,-⟩:=tz t ((J7 h.Quar (qp h (nth h.Objs i))).map (·.Addr)) (inQuar h i)
   exact⟨.inr h2,h1,h3,h4,h5⟩
structure FA (h:ac) (t n:Nat):Prop where
 inv:df (bJ h t n).1 []
 nc:(bJ h t n).1.Caches.length=h.Caches.length
 calls:(bJ h t n).1.Kernel.Calls=h.Kernel.Calls
 mail:(bJ h t n).1.Mail=h.Mail
 job:(bJ h t n).1.Job=h.Job
 left:∀ j,n≤j→j<h.Objs.length→nth h.Objs j∈(bJ h t n).1.Objs
 num:0≤(bJ h t n).2∧(bJ h t n).2≤n
theorem FA.of {h:ac} (hi:df h []) {t:Nat} (ht:t<h.Caches.length):∀ n,n≤h.Objs.length→FA h t n
 | 0,_=>⟨hi,rfl,rfl,rfl,rfl,fun j _ hj=>aC hj,Int.le_refl _,Int.le_refl _⟩
 | n+1,hn=>by
  obtain⟨f1,f2,f3,f4,f5,f6,f7,f8⟩:=FA.of hi ht n (by omega)
  by_cases e:(nth h.Objs n).Thread=t
  ·have hd:bJ h t (n+1)=((freeOb (bJ h t n).1 t (pS (bJ h t n).1 (nth h.Objs n).Addr)).1,if(freeOb (bJ h t n).1 t (pS (bJ h t n).1 (nth h.Objs n).Addr)).2=0 then(bJ h t n).2+1 else(bJ h t n).2):=by rw[bJ,if_pos e]
   obtain⟨o1,o2,o3⟩:=f1.objAt (f6 n (Nat.le_refl _) (by omega))
   obtain⟨s1,s2,s3,s4,s5⟩:=Ez (bJ h t n).1 t (pS (bJ h t n).1 (nth h.Objs n).Addr)
   have g1:=f1.freeOb o1 (by rw[f2];exact ht)
   constructor<;>rw[hd]
   ·exact g1
   ·exact s2.trans f2
   ·exact s3.trans f3
   ·exact s4.trans f4
   ·exact s5.trans f5
   ·intro j hj hjl
    have h1:=f6 j (by omega) hjl
    simp only
    rcases s1 with s1|s1
    ·rw[s1];exact h1
    ·rw[s1]
     obtain⟨m,hm,e2⟩:=bz h1
     refine fD.2 ⟨m,hm,fun e3=>?_,e2⟩
     rw[e3,o2]at e2
     have:=lf (f:=(·.Addr)) (me hi.osr) (by omega) hjl (congrArg (·.Addr) e2)
     omega
   ·simp only;split<;>omega
  ·have hd:bJ h t (n+1)=bJ h t n:=by rw[bJ,if_neg e]
   constructor<;>rw[hd]
   ·exact f1
   ·exact f2
   ·exact f3
   ·exact f4
   ·exact f5
   ·exact fun j hj hjl=>f6 j (by omega) hjl
   ·omega
end Go.Proofs.YtplcalfnngkffaaGreat.Ab
/- A range put into a list of ranges: the reference's contract. No condition. -/
namespace Go.Proofs.YtplcalfnngkffaaGreat.Ab
open Go.RowKit
set_option maxRecDepth 20000
set_option maxHeartbeats 4000000
theorem KX (y:ar) (ys:List ar):cT [] (y::ys)=cT [y] ys:=by rw[cT];rfl
theorem D0 {α:Type} [Inhabited α] {xs:List α} (h:xs≠[]):xs.getLast? = some (nth xs (xs.length - 1)):=by
 have hl:0<xs.length:=List.length_pos_iff.2 h
 rw[List.getLast?_eq_getElem?,ao (by omega)]
theorem Kl {α:Type} {xs:List α} (h:xs≠[]) (v:α):xs.dropLast++[v]=xs.set (xs.length - 1) v:=by
 have hl:0<xs.length:=List.length_pos_iff.2 h
 refine List.ext_getElem (by simp;omega) fun i h1 h2=>?_
 rw[List.getElem_set]
 by_cases e:xs.length - 1=i
 ·subst e
  rw[if_pos rfl,List.getElem_append_right (by simp)]
  simp
 ·rw[if_neg e,List.getElem_append_left (by simp at h1 ⊢;omega),List.getElem_dropLast]
theorem KC {out:List ar} {y:ar} {ys:List ar} (h:out≠[]) (e:(nth out (out.length - 1)).At+(nth out (out.length - 1)).Len=y.At):cT out (y::ys)=cT (out.set (out.length - 1) ⟨(nth out (out.length - 1)).At,(nth out (out.length - 1)).Len+y.Len⟩) ys:=by
 rw[cT,D0 h]
 simp only
 rw[if_pos e,Kl h]
theorem LW {out:List ar} {y:ar} {ys:List ar} (h:out≠[]) (e:¬(nth out (out.length - 1)).At+(nth out (out.length - 1)).Len=y.At):cT out (y::ys)=cT (out++[y]) ys:=by
 rw[cT,D0 h]
 simp only
 rw[if_neg e]
theorem rh (xs:List ar) (hl:xs.length≤4194304) (hb:∀ y∈xs,0≤y.At∧1≤y.Len∧y.At+y.Len≤1048576):ah Tryz.prog 435 false [.val none (bg .imm xs)] .one (bg .own (cT [] xs)):=by
 refine fO 63 [(6,21,[15,16,17,18,19,20,21,22,23,24,25,26,27,28,29,30,31,32,33,34,35]),(7,15,[38,39,40,41,42,43,44,45,46,47,48,49,50,51,52])] Tryz.func435 rfl ?_ (.inr (kV _))
 repeat'(first|refine gO ?_|fail)
 (conv=>whnf)
 refine Lp.mk (ι:=Nat × List ar) (fun q=>[(0,.hold .one (bg .imm xs)),(3,.hold .one (bg .own q.2)),(4,.hold .one [I ((q.1:Nat):Int)])]) (fun q=>q.1≤xs.length∧cT q.2 (xs.drop q.1)=cT [] xs∧q.2.length≤q.1∧∀ y∈q.2,0≤y.At∧1≤y.Len∧y.At+y.Len≤1048576) (fun q=>xs.length - q.1) ((0,[])) ?_ (⟨Nat.zero_le _,rfl,Nat.le_refl _,fun y hy=>by cases hy⟩) fun q hq=>?_
 ·exact wB
 obtain⟨i,out⟩:=q
 obtain⟨hi,hj,hol,hob⟩:=hq
 simp only at hi hj hol hob ⊢
 by_cases li:i<xs.length
 ·have hx:=ao li
  have hy:=hb _ (aC li)
  rw[ml li]at hj
  by_cases ho:out=[]
  ·subst ho
   rw[KX]at hj
   have h0:([]:List ar).length=0:=rfl
   repeat'(first|refine gD ?_|(conv=>whnf);first|with_reducible refine Ix.nat (aa hx) ?_|refine Ln.mk (show List.length _=0 from rfl) ?_|refine Ap.sm (fun r hr=>by cases hr) rfl (by simp) (by decide) rfl ?_)
   ((conv=>whnf)
    refine Nx.mk (i+1,[nth xs i]) ⟨(by simp only;omega),hj,(by simp),(fun y hm=>by rw[List.mem_singleton.1 hm];exact hy)⟩ (by simp only;omega) ?_
    (repeat'(first|exact trivial|rfl|exact And.intro rfl (And.intro (congrArg (C.s dE.own) (by simp[ar.enc])) trivial)|refine And.intro ?_ ?_)))
  ·have hpos:0<out.length:=List.length_pos_iff.2 ho
   have hz:out[((out.length:Int) - 1).toNat]? = some (nth out (out.length - 1)):=by
    rw[show((out.length:Int) - 1).toNat=out.length - 1 by omega];exact ao (by omega)
   have hzb:=hob _ (aC (xs:=out) (i:=out.length - 1) (by omega))
   by_cases e:(nth out (out.length - 1)).At+(nth out (out.length - 1)).Len=(nth xs i).At
   ·rw[KC ho e]at hj
    repeat'(first|refine gA ?_|(conv=>whnf);first|with_reducible refine Ix.nat (aa hx) ?_|refine Ix.mk (by omega) (aa hz) ?_|refine Rw.one rfl (aa hz) rfl ?_|refine Pu.one rfl rfl (aa hz) rfl (Nat.le_of_ble_eq_true rfl) rfl ?_)
    ((conv=>whnf)
     refine Nx.mk (i+1,out.set (out.length - 1) ⟨(nth out (out.length - 1)).At,(nth out (out.length - 1)).Len+(nth xs i).Len⟩) ⟨(by simp only;omega),hj,(by simp only;rw[List.length_set];omega),(fun y hm=>?_)⟩ (by simp only;omega) ?_)
    ·rcases List.mem_or_eq_of_mem_set hm with hm|rfl
     ·exact hob y hm
     ·simp only;omega
    ·(repeat'(first|exact trivial|rfl|exact And.intro rfl (And.intro (congrArg (C.s dE.own) (by rw[show((out.length:Int) - 1).toNat=out.length - 1 by omega,List.map_set];rfl)) trivial)|refine And.intro ?_ ?_))
   ·rw[LW ho e]at hj
    repeat'(first|refine gA ?_|(conv=>whnf);first|with_reducible refine Ix.nat (aa hx) ?_|refine Ix.mk (by omega) (aa hz) ?_|refine Rw.one rfl (aa hz) rfl ?_|refine Ap.sm (bx fun _=>rfl) rfl (by simp;omega) (by decide) rfl ?_)
    ((conv=>whnf)
     refine Nx.mk (i+1,out++[nth xs i]) ⟨(by simp only;omega),hj,(by simp;omega),(fun y hm=>?_)⟩ (by simp only;omega) ?_)
    ·rcases List.mem_append.1 hm with hm|hm
     ·exact hob y hm
     ·rw[List.mem_singleton.1 hm];exact hy
    ·(repeat'(first|exact trivial|rfl|exact And.intro rfl (And.intro (congrArg (C.s dE.own) (by simp[ar.enc])) trivial)|refine And.intro ?_ ?_))
 ·obtain rfl:i=xs.length:=by omega
  rw[List.drop_length]at hj
  repeat'(first|refine gD ?_|fail)
  rw[←hj];rfl
theorem y1 (r y:ar) (ys:List ar) (put:Bool):mt r (y::ys) put=if ovl y r then none else if !put&&decide (y.At > r.At) then(mt r ys true).map fun t=>r::y::t else(mt r ys put).map fun t=>y::t:=by rw[mt]
theorem xw (pages:Int) (xs:List ar) (r:ar) (hp:0≤pages∧pages≤1048576) (hs:dK xs):ah Tryz.prog 396 false [.val none [I pages],.val none (bg .imm xs),.val (some 2) (ar.enc .imm r)] (.tup [none,none]) (AC xs (cG pages xs r)):=by
 have hl:=hs.1
 have c1:=pJ pages xs hp hs
 have c2:=wd pages r hp
 cases e1:bC pages xs<;>rw[e1]at c1
 ·rw[show cG pages xs r=none by unfold cG;rw[if_neg (by rw[e1];simp)]]
  refine fO 82 [] Tryz.func396 rfl ?_ (.inr (ki _ _))
  repeat'(first|refine gO ?_|(conv=>whnf);first|refine Cl.mk (c1) ?_|refine Ap.cp (fun _=>rfl) (fun _=>rfl) hl (by decide) ?_)
  rfl
 cases e2:rangeIn pages r<;>rw[e2]at c2
 ·rw[show cG pages xs r=none by unfold cG;rw[if_neg (by rw[e2];simp)]]
  refine fO 82 [] Tryz.func396 rfl ?_ (.inr (ki _ _))
  repeat'(first|refine gO ?_|(conv=>whnf);first|refine Cl.mk (c1) ?_|refine Cl.mk (c2) ?_|refine Ap.cp (fun _=>rfl) (fun _=>rfl) hl (by decide) ?_)
  rfl
 obtain⟨hg,hb⟩:=z7 e1
 have hr:0≤r.At∧1≤r.Len∧r.At+r.Len≤pages:=by
  unfold rangeIn at e2
  rw[decide_eq_true_eq]at e2
  omega
 rw[show cG pages xs r=(mt r xs false).map (cT []) by unfold cG;rw[if_pos ⟨e1,e2⟩,yE (pages:=pages) hg hr.2.1 fun z hz=>by simp at hz]]
 refine fO 82 [] Tryz.func396 rfl ?_ (.inr (ki _ _))
 repeat'(first|refine gO ?_|(conv=>whnf);first|refine Cl.mk (c1) ?_|refine Cl.mk (c2) ?_|refine Ap.cp (fun _=>rfl) (fun _=>rfl) hl (by decide) ?_)
 (conv=>whnf)
 refine Lp.mk (ι:=Nat × List ar × Bool) (fun q=>[(1,.hold .one (bg .imm xs)),(5,.hold .box (ar.enc .imm r)),(8,.hold .one (bg .own xs)),(9,.hold .one (bg .own q.2.1)),(10,.hold .one [B (q.2.2)]),(11,.hold .one [I ((q.1:Nat):Int)])]) (fun q=>q.1≤xs.length∧(mt r (xs.drop q.1) q.2.2).map (q.2.1++·)=mt r xs false∧q.2.1.length≤q.1+q.2.2.toNat∧(∀ y∈q.2.1,0≤y.At∧1≤y.Len∧y.At+y.Len≤1048576)) (fun q=>xs.length - q.1) ((0,[],false)) ?_ (⟨Nat.zero_le _,by simp,by simp,by simp⟩) fun q hq=>?_
 ·exact wB
 obtain⟨i,out,put⟩:=q
 obtain⟨hi,hput,hol,hob⟩:=hq
 simp only at hi hput hol hob ⊢
 have hrb:0≤r.At∧1≤r.Len∧r.At+r.Len≤1048576:=by omega
 by_cases li:i<xs.length
 ·have hx:=ao li
  have hy:=hb _ (aC li)
  have hyb:0≤(nth xs i).At∧1≤(nth xs i).Len∧(nth xs i).At+(nth xs i).Len≤1048576:=by omega
  rw[ml li]at hput
  by_cases ho:ovl (nth xs i) r=true
  ·rw[←hput]
   rw[y1,if_pos ho]
   unfold ovl at ho
   rw[decide_eq_true_eq]at ho
   repeat'(first|refine gD ?_|(conv=>whnf);first|with_reducible (first|refine Ix.nat (aa hx) ?_|refine Bf.D (fun hq=>?_) (fun hq=>?_)))
   rfl
  ·rw[y1,if_neg ho]at hput
   unfold ovl at ho
   rw[decide_eq_true_eq]at ho
   cases put with
   | false=>
    have hol:out.length≤i:=by simpa using hol
    by_cases e5:(nth xs i).At > r.At
    ·rw[if_pos (by simp;omega),Option.map_map]at hput
     repeat'(first|refine gD ?_|(conv=>whnf);first|with_reducible (first|refine Ix.nat (aa hx) ?_|refine Bf.D (fun hq=>?_) (fun hq=>?_))|refine Ap.sm (bx fun _=>rfl) rfl (by simp;omega) (by decide) rfl ?_|refine Ap.sm (fun r hr=>by simp at hr;rcases hr with⟨a,_,rfl⟩|rfl<;>rfl) rfl (by simp;omega) (by decide) rfl ?_)
     ((conv=>whnf)
      refine Nx.mk (i+1,out++[r,nth xs i],true) ⟨(by simp only;omega),(by rw[←hput];congr 1;funext t;simp),(by simp;omega),(fun y hm=>?_)⟩ (by simp only;omega) ?_)
     ·rcases List.mem_append.1 hm with hm|hm
      ·exact hob y hm
      ·rcases List.mem_cons.1 hm with rfl|hm
       ·exact hrb
       ·rw[List.mem_singleton.1 hm];exact hyb
     ·(repeat'(first|exact trivial|rfl|exact And.intro rfl (And.intro (congrArg (C.s dE.own) (by simp[ar.enc])) trivial)|refine And.intro ?_ ?_))
    ·rw[if_neg (by simp;omega),Option.map_map]at hput
     repeat'(first|refine gD ?_|(conv=>whnf);first|with_reducible (first|refine Ix.nat (aa hx) ?_|refine Bf.D (fun hq=>?_) (fun hq=>?_))|refine Ap.sm (bx fun _=>rfl) rfl (by simp;omega) (by decide) rfl ?_)
     ((conv=>whnf)
      refine Nx.mk (i+1,out++[nth xs i],false) ⟨(by simp only;omega),(by rw[←hput];congr 1;funext t;simp),(by simp;omega),(fun y hm=>?_)⟩ (by simp only;omega) ?_)
     ·rcases List.mem_append.1 hm with hm|hm
      ·exact hob y hm
      ·rw[List.mem_singleton.1 hm];exact hyb
     ·(repeat'(first|exact trivial|rfl|exact And.intro rfl (And.intro (congrArg (C.s dE.own) (by simp[ar.enc])) trivial)|refine And.intro ?_ ?_))
   | true=>
    have hol:out.length≤i+1:=hol
    rw[if_neg (by simp),Option.map_map]at hput
    by_cases e6:(nth xs i).At<r.At+r.Len
    all_goals
     repeat'(first|refine gD ?_|(conv=>whnf);first|with_reducible (first|refine Ix.nat (aa hx) ?_|refine Bf.D (fun hq=>?_) (fun hq=>?_))|refine Ap.sm (bx fun _=>rfl) rfl (by simp;omega) (by decide) rfl ?_)
     ((conv=>whnf)
      refine Nx.mk (i+1,out++[nth xs i],true) ⟨(by simp only;omega),(by rw[←hput];congr 1;funext t;simp),(by simp;omega),(fun y hm=>?_)⟩ (by simp only;omega) ?_)
     ·rcases List.mem_append.1 hm with hm|hm
      ·exact hob y hm
      ·rw[List.mem_singleton.1 hm];exact hyb
     ·(repeat'(first|exact trivial|rfl|exact And.intro rfl (And.intro (congrArg (C.s dE.own) (by simp[ar.enc])) trivial)|refine And.intro ?_ ?_))
 ·obtain rfl:i=xs.length:=by omega
  rw[List.drop_length]at hput
  cases put with
  | false=>
   have hol:out.length≤xs.length:=by simpa using hol
   rw[←hput]
   have c4:=rh (out++[r]) (by simp;omega) (fun y hm=>by
     rcases List.mem_append.1 hm with hm|hm
     · exact hob y hm
     · rw[List.mem_singleton.1 hm];exact hrb)
   repeat'(first|refine gD ?_|(conv=>whnf);first|refine Ap.sm (bx fun _=>rfl) rfl (by simp;omega) (by decide) (show(out++[r]).map (ar.enc .own)=_ by simp[ar.enc]) ?_|refine Cl.eq (c4) ⟨⟨rfl,ll _⟩,trivial⟩ ?_)
   rfl
  | true=>
   have hol:out.length≤xs.length+1:=hol
   rw[←hput]
   have c4:=rh out (by omega) hob
   repeat'(first|refine gD ?_|(conv=>whnf);first|refine Cl.eq (c4) ⟨⟨rfl,ll _⟩,trivial⟩ ?_)
   simp[mt,AC]
   rfl
end Go.Proofs.YtplcalfnngkffaaGreat.Ab
/- Slots, caches and the quarantine: contracts of what freeing needs. No condition. -/
namespace Go.Proofs.YtplcalfnngkffaaGreat.Ab
open Go.RowKit
set_option maxRecDepth 20000
set_option maxHeartbeats 4000000
theorem shl64 {i:Int} (hi:0≤i∧i≤15):IntKind.i64.wrap (1*2 ^ min i.toNat IntKind.i64.bits)=2 ^ i.toNat∧0≤(2:Int) ^ i.toNat∧(2:Int) ^ i.toNat≤32768:=by
 have h1:min i.toNat IntKind.i64.bits=i.toNat:=Nat.min_eq_left (show i.toNat≤64 by omega)
 have h2:(0:Int)≤2 ^ i.toNat∧(2:Int) ^ i.toNat≤32768:=by
  have:(2:Nat) ^ i.toNat≤2 ^ 15:=Nat.pow_le_pow_right (by decide) (by omega)
  have h3:((2 ^ i.toNat:Nat):Int)=(2:Int) ^ i.toNat:=Int.natCast_pow 2 i.toNat
  rw[←h3]
  exact⟨Int.natCast_nonneg _,Int.ofNat_le.2 this⟩
 rw[h1,Int.one_mul]
 exact⟨fU (by omega) (by omega),h2⟩
theorem clr64 {b i:Int} (hb:0≤b∧b≤65535):IntKind.i64.wrap ((BitVec.ofInt IntKind.i64.bits b &&& ~~~BitVec.ofInt IntKind.i64.bits (2 ^ i.toNat)).toNat:Nat)=ve b i:=by
 have:=AA (i:=i) hb
 unfold ve at this ⊢
 exact fU (by omega) (by omega)
theorem sV (b i:Int) (hb:0≤b∧b≤65535) (hi:0≤i∧i≤15):ah Tryz.prog 394 false [.val none [I b],.val none [I i]] .one [I (ve b i)]:=by
 have c1:=si b i
 rw[decide_eq_true (by omega)]at c1
 have hw:IntKind.u64.wrap i=i:=by unfold IntKind.wrap;simp[IntKind.signed,IntKind.bits];omega
 refine fO 15 [] Tryz.func394 rfl ?_
 repeat'(first|refine gO ?_|(conv=>whnf);first|refine Sm.rf ?_|refine Cl.mk (c1) ?_|refine Cd.mk (by omega) ?_|refine Wr.mk hw ?_|refine Wr.mk (shl64 hi).1 ?_|refine Wr.mk (clr64 hb) ?_)
 rfl
theorem sj (b i:Int) (hb:0≤b∧b≤65535) (hi:0≤i∧i≤15):ah Tryz.prog 357 false [.val none [I b],.val none [I i]] .one [I (ve b i)]:=by
 have c1:=sB b i
 rw[decide_eq_true (by omega)]at c1
 refine fO 14 [] Tryz.func357 rfl ?_
 repeat'(first|refine gO ?_|(conv=>whnf);first|refine Sm.rf ?_|refine Cl.mk (c1) ?_|refine Cd.mk (by omega) ?_|refine Wr.mk (shl64 hi).1 ?_|refine Wr.mk (clr64 hb) ?_)
 rfl
theorem GP {s:am} {k:Int} (hh:bF s.Bits k=true):0≤k∧k≤15:=by
 have:=(kY _ _).1 hh;omega
theorem xv (s:am) (k:Int) (ho:bq s=true) (hh:bF s.Bits k=true):ah Tryz.prog 346 false [.val (some 3) (am.enc .imm s),.val none [I k]] (.tup [some 3,none]) (am.enc .own (kD s k)++[B true]):=by
 have hb:=gW ho
 have hk:=GP hh
 have c1:=hC s
 have c2:=jS s.Bits k (by omega)
 rw[ho]at c1
 rw[hh]at c2
 refine fO 23 [] Tryz.func346 rfl ?_ (.inr (aP (am.enc_fr _) ⟨trivial,trivial⟩))
 repeat'(first|refine gO ?_|(conv=>whnf);first|refine Sm.rf ?_|refine Cl.mk (c1) ?_|refine Cl.mk (c2) ?_|refine Cl.mk (sV s.Bits k hb hk) ?_)
 rfl
theorem xd (s:am) (k:Int) (ho:bq s=true) (hh:bF s.Bits k=true):ah Tryz.prog 285 false [.val (some 3) (am.enc .imm s),.val none [I k]] (.tup [some 3,none]) (am.enc .own (kD s k)++[B true]):=by
 have hb:=gW ho
 have hk:=GP hh
 have c1:=gn s
 have c2:=ip s.Bits k (by omega)
 rw[ho]at c1
 rw[hh]at c2
 refine fO 23 [] Tryz.func285 rfl ?_ (.inr (aP (am.enc_fr _) ⟨trivial,trivial⟩))
 repeat'(first|refine gO ?_|(conv=>whnf);first|refine Sm.rf ?_|refine Cl.mk (c1) ?_|refine Cl.mk (c2) ?_|refine Cl.mk (sj s.Bits k hb hk) ?_)
 rfl
theorem JV (c:ay) (k:Int) (hs:ay.sml c):ah Tryz.prog 345 false [.val (some 1) (ay.enc .imm c),.val none [I k]] .one [B (b9 c&&decide (0≤k∧k≤3))]:=by
 have c1:=qA c hs
 cases e:b9 c<;>rw[e]at c1
 all_goals
  refine fO 11 [] Tryz.func345 rfl ?_
  repeat'(first|refine gO ?_|(conv=>whnf);first|refine Sm.rf ?_|refine Cl.mk (c1) ?_|refine Cl.mk (aO k 0 3) ?_)
  all_goals rfl
theorem EZ (c:ay) (k:Int) (hs:ay.sml c):ah Tryz.prog 284 false [.val (some 1) (ay.enc .imm c),.val none [I k]] .one [B (decide (0≤k∧k≤3)&&b9 c)]:=by
 have c1:=rp c hs
 refine fO 11 [] Tryz.func284 rfl ?_
 repeat'(first|refine gO ?_|(conv=>whnf);first|with_reducible refine Bf.D (fun hq=>?_) (fun hq=>?_)|refine Sm.rf ?_|refine Cl.mk (c1) ?_|refine Cl.mk (eY k) ?_)
 all_goals exact congrArg (fun z=>[B z]) ((by simp[*]))
theorem yw {c:ay} {k:Nat} (hk:k<c.Lists.length):c.Lists[k]? = some (nth c.Lists k):=ao hk
theorem mj {α β:Type} (f:α→β) (xs:List α) (y:α):(xs++[y]).map f=xs.map f++[f y]:=by simp
end Go.Proofs.YtplcalfnngkffaaGreat.Ab
/- A heap in a run: its own, but the cells of its job's plan, which nobody writes. No condition. -/
namespace Go.Proofs.YtplcalfnngkffaaGreat.Ab
def fe (x:ac):List C:=[.s .own (x.Kernel.Machine.Frames.Cells.map (aI .own)),.s .own (x.Kernel.Machine.Frames.Used.map (rB .own)),.s .own (x.Kernel.Machine.Table.Entries.map (aG.enc .own)),I x.Kernel.Calls,.s .own (x.Kernel.Refuse.map (rI .own)),.s .own (x.Free.map (ar.enc .own)),.s .own (x.Spans.map (am.enc .own)),.s .own (x.Larges.map (au.enc .own)),.s .own (x.Objs.map (aX.enc .own)),.s .own (x.Caches.map (ay.enc .own)),.s .own (x.Mail.Buffers.map (b6 .own)),.s .own (x.Mail.Inbox.map (aI .own)),I x.Quar.Room,.s .own (x.Quar.Lst.map (aE.enc .own)),I x.Seed,I x.Clock,I x.Limit,I x.Next,B x.Meshing,I x.Job.Plan.Keep,I x.Job.Plan.Move,.s .imm (x.Job.Plan.Cells.map (rI .imm)),I x.Job.Phase,I x.Job.Next]
theorem fY (x:ac):ey (fe x)=ac.enc .imm x:=by simp[ey,fe,ac.enc,ay.enc_fz,aG.enc_fz,au.enc_fz,aX.enc_fz,ar.enc_fz,am.enc_fz,aE.enc_fz,rB,mD,rI,dO,←cr,Function.comp_def]
def v8 (x:aZ):List C:=[I x.Plan.Keep,I x.Plan.Move,.s .imm (x.Plan.Cells.map (rI .imm)),I x.Phase,I x.Next]
end Go.Proofs.YtplcalfnngkffaaGreat.Ab
/- Spans, objects and pages given back: the reference's contracts, over a whole heap that is lent. No condition. -/
namespace Go.Proofs.YtplcalfnngkffaaGreat.Ab
open Go.RowKit
set_option maxRecDepth 20000
set_option maxHeartbeats 4000000
theorem Pu.two {bs bs':List C} {off i k j i2 k2 j2:Nat} {cs:List C} {K:List C→Prop} {o o2:dE} {rows rows2:List (List C)} {r r2:List C} (h1:bs[off]? = some (.s o rows)) (ho:o.mine=true) (h2:rows[i]? = some r) (h3:r.length=k) (g1:r[j]? = some (.s o2 rows2)) (go:o2.mine=true) (g2:rows2[i2]? = some r2) (g3:r2.length=k2) (g4:j2+cs.length≤k2)
  (h5:bs'=bs.set off (.s o (rows.set i (r.set j (.s o2 (rows2.set i2 (splice r2 j2 cs))))))) (hK:K bs'):Pu bs off [(i,k,j),(i2,k2,j2)] cs K:=by
 have hoi:o≠.imm:=fun e=>by subst e;cases ho
 have hoi2:o2≠.imm:=fun e=>by subst e;cases go
 refine Pu.mk (r:=r2) (j:=j2) (by simp[bS,h1,h2,h3,g1,g2,g3]) (by simp[jI,h1,h2,hoi,g1,g2,hoi2]) (by omega) (by rw[h5];simp[fA,h1,h2,g1,g2]) hK
theorem De (x:List am):fz (.s .own (x.map (am.enc .own)))=.s .imm (x.map (am.enc .imm)):=(List.cons.inj (fp x)).1
theorem Hz (x:List au):fz (.s .own (x.map (au.enc .own)))=.s .imm (x.map (au.enc .imm)):=(List.cons.inj (lm x)).1
theorem LS (x:List aX):fz (.s .own (x.map (aX.enc .own)))=.s .imm (x.map (aX.enc .imm)):=(List.cons.inj (HP x)).1
theorem Ap.dele {α:Type} {e:α→List C} {xs:List α} {i sz by_:Nat} {K:List (List C)→Prop} (h2:∀ y,(e y).length=sz) (h3:∀ y,aW (e y)=true) (hl:xs.length≤1048576) (hb:by_≤1000) (hK:K ((Ab.dele xs i).map e)):Ap true ((xs.take i).map e) ((xs.drop (i+1)).map e) sz by_ K:=by
 have h4:(xs.take i).length+(xs.drop (i+1)).length≤2097152:=by rw[List.length_take,List.length_drop];omega
 refine Ap.mk (bx h2) (bx h2) (fun _ r hr=>by obtain⟨y,-,rfl⟩:=List.mem_map.1 hr;exact h3 y) (by rw[List.length_map,List.length_map];omega) (by rw[List.length_map,List.length_map];exact Nat.le_trans (Nat.mul_le_mul h4 hb) (by decide)) ?_ hK
 unfold Ab.dele
 rw[List.map_append]
theorem Jl (h:ac) (p:Int) (hs:aB.sml h.Kernel.Machine.Table):ah Tryz.prog 433 false [.ptr (ac.enc .imm h),.val none [I p]] .one [I (ax h.Kernel.Machine.Table p).Mode]:=by
 refine fO 13 [] Tryz.func433 rfl ?_
 repeat'(first|refine gO ?_|(conv=>whnf);first|refine Sm.rf ?_|refine Cl.mk (fh h.Kernel.Machine.Table p hs) ?_)
 rfl
def MB (h:ac):List C:=(fe h).drop 5
theorem NS (h:ac) (k:af):fe {h with Kernel:=k} = af.enc .own k++MB h:=rfl
theorem BS (h:ac):MB h=[.s .own (h.Free.map (ar.enc .own)),.s .own (h.Spans.map (am.enc .own)),.s .own (h.Larges.map (au.enc .own)),.s .own (h.Objs.map (aX.enc .own)),.s .own (h.Caches.map (ay.enc .own)),.s .own (h.Mail.Buffers.map (b6 .own)),.s .own (h.Mail.Inbox.map (aI .own)),I h.Quar.Room,.s .own (h.Quar.Lst.map (aE.enc .own)),I h.Seed,I h.Clock,I h.Limit,I h.Next,B h.Meshing,I h.Job.Plan.Keep,I h.Job.Plan.Move,.s .imm (h.Job.Plan.Cells.map (rI .imm)),I h.Job.Phase,I h.Job.Next]:=rfl
theorem Jf (h:ac) (f:Int) (hs:aB.sml h.Kernel.Machine.Table) (hf:0≤f∧f<h.Kernel.Machine.Frames.Cells.length∧f<h.Kernel.Machine.Frames.Used.length) :
  aV Tryz.prog 434 false [.ptr (fe h),.val none [I f]] [.ptr (fe {h with Kernel:=gC h.Kernel f}),.val none [I f]] (.tup []) []:=by
 have h1:=ao (xs:=h.Kernel.Machine.Frames.Cells) (i:=f.toNat) (by omega)
 have h2:=ao (xs:=h.Kernel.Machine.Frames.Used) (i:=f.toNat) (by omega)
 rw[NS h (gC h.Kernel f)]
 by_cases hz:(pagesOn h.Kernel.Machine.Table f).length=0
 ·rw[sW hz,BS]
  refine fM 30 [] [(2,8,[21,22,23,24,25,26,27,28])] [(0,0),(0,0)] Tryz.func434 rfl (fun u q=>?_) (.inr trivial)
  repeat'(first|refine gA ?_|(conv=>whnf);first|with_reducible (first|refine Ix.mk hf.1 (aa h2) ?_|refine Ix.mk hf.1 (aa h1) ?_)|refine Sm.rf ?_|refine Cl.eq (gv h.Kernel.Machine.Table f hs) ⟨⟨rfl,aB.enc_fz h.Kernel.Machine.Table⟩,⟨rfl,rfl⟩,trivial⟩ ?_|refine Pu.one rfl rfl (aa h1) rfl (Nat.le_of_ble_eq_true rfl) rfl ?_|refine Pu.one rfl rfl (aa h2) rfl (Nat.le_of_ble_eq_true rfl) rfl ?_|refine Mk.mk 16 rfl rfl (by decide) (by decide) rfl ?_)
  refine bK.mk rfl rfl ?_
  exact wB
 ·rw[vI hz]
  show aV _ _ _ [.ptr (fe h),_] [.ptr (fe h),_] _ _
  refine fM 30 [] [(2,8,[21,22,23,24,25,26,27,28])] [(0,0),(0,0)] Tryz.func434 rfl (fun u q=>?_) (.inr trivial)
  repeat'(first|refine gA ?_|(conv=>whnf);first|refine Sm.rf ?_|refine Cl.eq (gv h.Kernel.Machine.Table f hs) ⟨⟨rfl,aB.enc_fz h.Kernel.Machine.Table⟩,⟨rfl,rfl⟩,trivial⟩ ?_)
  refine bK.mk rfl rfl ?_
  exact wB
theorem FY (h:ac) (p:Int) (hk:aH h.Kernel=true) :
  aV Tryz.prog 395 false [.ptr (fe h),.val none [I p]] [.ptr (fe {h with Kernel:=dt h.Kernel p}),.val none [I p]] .one [B (decide ((ax h.Kernel.Machine.Table p).Mode≠0))]:=by
 have hs:=bV hk
 have c1:=Jl h p hs.1.2
 by_cases hm:(ax h.Kernel.Machine.Table p).Mode=0
 ·rw[show dt h.Kernel p=h.Kernel by unfold dt;rw[if_pos hm]]
  refine fM 32 [(434,[2,0])] [] [(0,0),(0,0)] Tryz.func395 rfl (fun u q=>?_)
  repeat'(first|refine gA ?_|(conv=>whnf);first|refine Sm.rf ?_|refine Cl.eq (c1) ⟨fY h,⟨rfl,rfl⟩,trivial⟩ ?_)
  refine bK.mk rfl ?_ ?_
  ·exact congrArg (fun z=>[B z]) ((by simp[hm]))
  ·exact wB
 ·obtain⟨h0,h1,he,hf0,hf1⟩:=bM hk hm
  have hlen:=(aY.1 (aJ.1 hk).2.1).2.2.1
  rw[show dt h.Kernel p=gC (mE h.Kernel p) (ax h.Kernel.Machine.Table p).Frame by unfold dt;rw[if_neg hm]]
  have c2:=Jf {h with Kernel:=mE h.Kernel p} (ax h.Kernel.Machine.Table p).Frame (Bg hk) ⟨hf0,by simp only[mE];omega,by simp only[mE];omega⟩
  rw[NS h (mE h.Kernel p),E6,BS]at c2
  have hx:=ao (xs:=h.Kernel.Machine.Table.Entries) (i:=p.toNat) (by omega)
  rw[he]at c1 c2 hm ⊢
  refine fM 32 [(434,[2,0])] [] [(0,0),(0,0)] Tryz.func395 rfl (fun u q=>?_)
  repeat'(first|refine gA ?_|(conv=>whnf);first|with_reducible refine Ix.mk h0 (aa hx) ?_|refine Sm.rf ?_|refine Cl.eq (c1) ⟨fY h,⟨rfl,rfl⟩,trivial⟩ ?_|refine Pu.one rfl rfl (aa hx) rfl (Nat.le_of_ble_eq_true rfl) rfl ?_|refine Rw.one rfl (aa hx) rfl ?_|refine er.mk (c2) (.inl rfl) ?_)
  refine bK.mk rfl ?_ ?_
  ·exact congrArg (fun z=>[B z]) ((by simp[hm]))
  ·exact wB
theorem B9 (h:ac) (p:Int):ah Tryz.prog 347 false [.ptr (ac.enc .imm h),.val none [I p]] .one [B (m6 h p)]:=by
 cases e:h.Meshing
 all_goals
  have hz:ac.enc .imm h=(ac.enc .imm h).set 18 (B h.Meshing):=rfl
  rw[e]at hz
  rw[hz]
  refine fO 29 [] Tryz.func347 rfl ?_
  repeat'(first|refine gO ?_|(conv=>whnf);first|with_reducible (first|refine Bf.D (fun hq=>?_) (fun hq=>?_)|refine Bf.E (fun hq=>?_) (fun hq=>?_)|refine Bf.N (fun hq=>?_) (fun hq=>?_))|refine Sm.rf ?_)
  all_goals exact congrArg (fun z=>[B z]) ((by unfold m6;rw[e];first|(simp[*];done)|(simp[*];rw[Bool.eq_iff_iff];simp)))
theorem xx (h:ac):ah Tryz.prog 397 false [.ptr (ac.enc .imm h)] .one [I (gi h:Nat)]:=by
 refine fO 11 [] Tryz.func397 rfl ?_
 repeat'(first|refine gO ?_|(conv=>whnf);first|refine Sm.rf ?_)
 rfl
theorem A7 (h:ac) (E:List Int) (i:Nat) (hi:df h E) (li:i<h.Spans.length):aV Tryz.prog 348 false [.ptr (fe h),.val none [I (i:Nat)]] [.ptr (fe (GM h i)),.val none [I (i:Nat)]] (.tup []) []:=by
 have hl:=hi.lens
 have hls:=hl.spans
 have hx:=ao li
 have c1:=FY {h with Spans:=dele h.Spans i} (nth h.Spans i).Page hi.ker
 have c2:=xx {h with Kernel:=dt h.Kernel (nth h.Spans i).Page,Spans:=dele h.Spans i}
 rw[show gi {h with Kernel:=dt h.Kernel (nth h.Spans i).Page,Spans:=dele h.Spans i} = gi h from(qh _ _).1]at c2
 have hpg:gi h≤32:=hl.ents
 have c3:=xw (gi h:Nat) h.Free ⟨(nth h.Spans i).Page,1⟩ ⟨by omega,by omega⟩ ⟨by have:=hl.free;omega,fun _ _=>trivial⟩
 refine fM 52 [(395,[2,0])] [(1,273,[13,14,15,16,17,18,19,20,22,23,24,25,26,27,28,30,31,0,1,2,3,4,5,6,7,9,10,11,12,13,14,15,8,1000,1009,1010,1011,1012,1013,1014,1015,16,1000,17,18,19]),(1048577,0,[6]),(3,270,[38,39,40,41,42,43,44,45,47,37,48,49,50,51,0,1,2,3,4,5,6,7,8,1000,1001,1002,1003,1004,1005,1006,9,10,11,12,13,14,15,1012])] [(0,0),(0,0)] Tryz.func348 rfl (fun u q=>?_) (.inr trivial)
 repeat'(first|refine gO ?_|(conv=>whnf);first|with_reducible refine Ix.nat (aa hx) ?_|refine Sm.rf ?_|refine LM.mk rfl (De h.Spans) rfl ?_|refine Sl.pre i rfl (by rw[List.length_map];omega) (bx fun _=>rfl) List.map_take ?_|refine Sl.suf (i+1) rfl (by rw[List.length_map];omega) (bx fun _=>rfl) List.map_drop ?_|refine Fl.cp (fun _=>rfl) (fun _=>rfl) (by rw[List.length_take];omega) (by decide) ?_|refine Ap.dele (fun _=>rfl) (fun _=>rfl) (by omega) (by decide) ?_|refine Ap.cp (fun _=>rfl) (fun _=>rfl) (by rw[List.length_take];omega) (by decide) ?_|refine Rw.one rfl (aa hx) rfl ?_|refine Sm.rf ?_|refine er.mk (c1) (.inl rfl) ?_|refine Cl.eq (c2) ⟨fY _,trivial⟩ ?_|refine Cl.eq (c3) ⟨⟨rfl,rfl⟩,⟨rfl,ll h.Free⟩,⟨rfl,rfl⟩,trivial⟩ ?_)
 refine bK.mk rfl rfl ?_
 exact wB
end Go.Proofs.YtplcalfnngkffaaGreat.Ab
/- Freeing: the reference's contracts, over a whole heap that is lent. No condition. -/
namespace Go.Proofs.YtplcalfnngkffaaGreat.Ab
open Go.RowKit
set_option maxRecDepth 20000
set_option maxHeartbeats 4000000
theorem u9 (h:ac) (i:Nat) (a:Int):fe (j7 h i a)=(fe h).set 6 (.s .own ((h.Spans.map (am.enc .own)).set i (am.enc .own (kD (nth h.Spans i) (dI (nth h.Spans i) a))))):=by
 simp[fe,j7,List.map_set]
theorem rq {α β:Type} {f:α→β} {xs:List α} {i:Nat} {y:β} (hi:i<xs.length):((xs.map f).set i y)[i]? = some y:=by
 rw[List.getElem?_set_self (by rw[List.length_map];exact hi)]
theorem Jo {s:am} (hs:bq s=true) {a:Int} (ha:i7 s a):iB s a=(dI s a,0):=by
 unfold iB
 rw[if_pos ((gg hs).2 ⟨ha.1,ha.2.1⟩),ha.2.2.1];rfl
theorem AI (h:ac) (E:List Int) (a:Int) (hi:df h (a::E)):aV Tryz.prog 277 false [.ptr (fe h),.val none [I a]] [.ptr (fe (freeA h a)),.val none [I a]] (.tup []) []:=by
 obtain⟨li,hs,hon⟩:=hi.at (hi.hin a (List.mem_cons_self ..))
 have hbd:=(hi.hin a (List.mem_cons_self ..)).bd hi
 have hl:=hi.lens
 have hls:=hl.spans
 have hso:=hi.L.sok _ (aC li)
 have c1:=kX h (a / 16) (by omega)
 rw[hon]at c1
 unfold freeA
 generalize vd h a=i at li hs c1 hso
 have hx:=ao li
 have c2:=te (nth h.Spans i) a ⟨by omega,by omega⟩
 rw[Jo hso hs]at c2
 have c3:=xv (nth h.Spans i) (dI (nth h.Spans i) a) hso hs.2.2.2
 have hg:=hi.give li hs
 have c4:=B9 (j7 h i a) (nth h.Spans i).Page
 rw[show m6 (j7 h i a) (nth h.Spans i).Page=m6 h (nth h.Spans i).Page from rfl]at c4
 have c5:=A7 (j7 h i a) E i hg (by unfold j7;simp only[List.length_set];exact li)
 have hz:=fY (j7 h i a)
 rw[u9]at c5 hz
 have hy:((h.Spans.map (am.enc .own)).set i (am.enc .own (kD (nth h.Spans i) (dI (nth h.Spans i) a))))[i]? = some (am.enc .own (kD (nth h.Spans i) (dI (nth h.Spans i) a))):=rq li
 unfold freeS
 by_cases e1:(kD (nth h.Spans i) (dI (nth h.Spans i) a)).Bits=0
 ·cases e2:m6 h (nth h.Spans i).Page<;>rw[e2]at c4
  ·rw[if_pos ⟨e1,rfl⟩]
   refine fM 68 [(348,[2,0])] [(2,274,[26,27,28,29,30,31,32,33,34,35,36,37,38,39,25,40,41,42,0,1,2,3,4,5,6,7,8,9,10,11,12,13,14,15,16,17,18,1016])] [(0,0),(0,0)] Tryz.func277 rfl (fun u q=>?_) (.inr trivial)
   repeat'(first|refine gA ?_|(conv=>whnf);first|with_reducible refine Wr.mk ((congrArg _ (tdiv16 hbd.1)).trans (fU (by omega) (by omega))) ?_|refine Sm.rf ?_|refine Cd.mk (by decide) ?_|refine Cl.eq (c1) ⟨⟨rfl,fY h⟩,⟨rfl,rfl⟩,trivial⟩ ?_|refine Ix.nat (aa hx) ?_|refine Ix.nat hy ?_|refine Rw.one rfl (aa hx) rfl ?_|refine Rw.one rfl hy rfl ?_|refine Cl.mk (c2) ?_|refine Cl.mk (c3) ?_|refine Sm.rf ?_|refine Pu.one rfl rfl (aa hx) rfl (Nat.le_of_ble_eq_true rfl) rfl ?_|refine Cl.eq (c4) ⟨hz,⟨rfl,rfl⟩,trivial⟩ ?_|refine er.mk (c5) (.inl rfl) ?_)
   refine bK.mk rfl rfl ?_
   exact wB
  ·rw[if_neg fun x=>by cases x.2]
   rw[u9]
   refine fM 68 [(348,[2,0])] [(2,274,[26,27,28,29,30,31,32,33,34,35,36,37,38,39,25,40,41,42,0,1,2,3,4,5,6,7,8,9,10,11,12,13,14,15,16,17,18,1016])] [(0,0),(0,0)] Tryz.func277 rfl (fun u q=>?_) (.inr trivial)
   repeat'(first|refine gA ?_|(conv=>whnf);first|with_reducible refine Wr.mk ((congrArg _ (tdiv16 hbd.1)).trans (fU (by omega) (by omega))) ?_|refine Sm.rf ?_|refine Cd.mk (by decide) ?_|refine Cl.eq (c1) ⟨⟨rfl,fY h⟩,⟨rfl,rfl⟩,trivial⟩ ?_|refine Ix.nat (aa hx) ?_|refine Ix.nat hy ?_|refine Rw.one rfl (aa hx) rfl ?_|refine Rw.one rfl hy rfl ?_|refine Cl.mk (c2) ?_|refine Cl.mk (c3) ?_|refine Sm.rf ?_|refine Pu.one rfl rfl (aa hx) rfl (Nat.le_of_ble_eq_true rfl) rfl ?_|refine Cl.eq (c4) ⟨hz,⟨rfl,rfl⟩,trivial⟩ ?_|refine er.mk (c5) (.inl rfl) ?_)
   refine bK.mk rfl rfl ?_
   exact wB
 ·rw[if_neg fun x=>e1 x.1]
  rw[u9]
  refine fM 68 [(348,[2,0])] [(2,274,[26,27,28,29,30,31,32,33,34,35,36,37,38,39,25,40,41,42,0,1,2,3,4,5,6,7,8,9,10,11,12,13,14,15,16,17,18,1016])] [(0,0),(0,0)] Tryz.func277 rfl (fun u q=>?_) (.inr trivial)
  repeat'(first|refine gA ?_|(conv=>whnf);first|with_reducible refine Wr.mk ((congrArg _ (tdiv16 hbd.1)).trans (fU (by omega) (by omega))) ?_|refine Sm.rf ?_|refine Cd.mk (by decide) ?_|refine Cl.eq (c1) ⟨⟨rfl,fY h⟩,⟨rfl,rfl⟩,trivial⟩ ?_|refine Ix.nat (aa hx) ?_|refine Ix.nat hy ?_|refine Rw.one rfl (aa hx) rfl ?_|refine Rw.one rfl hy rfl ?_|refine Cl.mk (c2) ?_|refine Cl.mk (c3) ?_|refine Sm.rf ?_|refine Pu.one rfl rfl (aa hx) rfl (Nat.le_of_ble_eq_true rfl) rfl ?_|refine Cl.eq (c4) ⟨hz,⟨rfl,rfl⟩,trivial⟩ ?_|refine er.mk (c5) (.inl rfl) ?_)
  refine bK.mk rfl rfl ?_
  exact wB
end Go.Proofs.YtplcalfnngkffaaGreat.Ab
/- The quarantine, an object freed, all objects of a thread freed: the reference's contracts. No condition. -/
namespace Go.Proofs.YtplcalfnngkffaaGreat.Ab
open Go.RowKit
set_option maxRecDepth 20000
set_option maxHeartbeats 4000000
end Go.Proofs.YtplcalfnngkffaaGreat.Ab
/- An object freed by its own thread, and all objects of a thread: the reference's contracts. No condition. -/
namespace Go.Proofs.YtplcalfnngkffaaGreat.Ab
open Go.RowKit
set_option maxRecDepth 20000
set_option maxHeartbeats 4000000
theorem M2 {z:Int} (h:0≤z∧z<512):IntKind.i64.wrap (z.tdiv 16)=z / 16:=(congrArg _ (tdiv16 h.1)).trans (fU (by omega) (by omega))
theorem Nm {h:ac} {E:List Int} (hi:df h E) {o:aX} (ho:o∈h.Objs):0≤o.Addr∧o.Addr<512:=by
 rcases hi.oow o ho with⟨s,hs,⟨k1,k2,-⟩,-⟩|⟨l,hl,e,-⟩
 ·have:=aR (hi.L.sok s hs);omega
 ·have:=bB (hi.L.lok l hl);omega
structure Pv (h:ac) (o:aX):Prop where
 cl:0≤cq o.Size∧cq o.Size≤3
 fr:0≤(ax h.Kernel.Machine.Table (o.Addr / 16)).Frame∧(ax h.Kernel.Machine.Table (o.Addr / 16)).Frame<h.Kernel.Machine.Frames.Cells.length
 fit:o.Addr % 16+csz (cq o.Size)≤16
 row:(nth h.Kernel.Machine.Frames.Cells (KG h.Kernel o.Addr)).length=16
theorem Pv.of {h:ac} {E:List Int} (hi:df h E) {o:aX} (ho:o∈h.Objs) (hc:¬cq o.Size<0):Pv h o:=by
 obtain⟨⟨s,hs,h1,h2⟩,h3⟩:=(mS hi ho).2 hc
 have hsc:=aR (hi.L.sok s hs)
 have hbd:=Nm hi ho
 have hp:s.Page=o.Addr / 16:=by have a1:=h1.1;have a2:=h1.2.1;omega
 have hpn:(o.Addr / 16).toNat<(tbl h).Entries.length:=by have:=hi.pg.bnd _ (iQ (la:=h.Larges) hs);omega
 have hcast:(((o.Addr / 16).toNat:Nat):Int)=o.Addr / 16:=by omega
 have hm:=(hi.pg.own _ hpn).2 (by rw[hcast,←hp];exact iQ hs)
 have hm2:(ax h.Kernel.Machine.Table (o.Addr / 16)).Mode≠0:=by rw[←hcast];unfold tbl at hm hpn;rw[lK hpn];exact hm
 obtain⟨-,-,-,hf0,hf1⟩:=bM hi.ker hm2
 have hul:=(aY.1 (aJ.1 hi.ker).2.1).2.2.1
 have hfr:KG h.Kernel o.Addr<h.Kernel.Machine.Frames.Cells.length:=by unfold KG;omega
 refine⟨by omega,⟨hf0,by omega⟩,?_,hi.lens.row _ (aC hfr)⟩
 have hz:=h1.2.2.1
 rw[hp,←h2]at *
 rcases dw (k:=s.Class) ⟨by omega,by omega⟩ with e|e|e|e<;>rw[e]at hz ⊢<;>omega
end Go.Proofs.YtplcalfnngkffaaGreat.Ab
/- The library's Delete of one element, at rows of several cells. No condition. -/
namespace Go.Proofs.YtplcalfnngkffaaGreat.Ab
open Go.RowKit
set_option maxRecDepth 20000
set_option maxHeartbeats 4000000
def oE (rows:List (List C)):C:=match rows with|[]=>.s .imm []|_=>.s .own rows
theorem M1 {rows:List (List C)} (h:rows≠[]):oE rows=.s .own rows:=by cases rows with|nil=>exact absurd rfl h|cons=>rfl
theorem LY {P:Program} (w:World) (t e k:Nat) (z:Value) (ht:P.underlying t=some (.slice e)) (hv:∀ w,(zeroValue e).run P w=.ok z w) (hk:z.cells.size=k) (h1:∀ v∈z.cells.toList,v.oneCell'=true) (b o n:Nat) (hn:0<n) (hk0:0<k)
  (hc:∀ j,j<n*k→(w.cell? ⟨b,o+j,none⟩).isSome=true) (hf:∀ j,j<n*k→w.frozen? ⟨b,o+j,none⟩ = false) :
  ∃ zs:List Value,zs.length=n*k∧(∀ v∈zs,v.oneCell'=true)∧∀ (ty:TypeId) (c:Nat),(Builtin.clear_ #[t] ty #[.slice (some ⟨b,o,none⟩) n c]).run P w=.ok (.tuple #[]) (w.setCells b o zs):=by
 subst hk
 have hlen:(Builtin.zeroCells z.cells n).toList.length=n*z.cells.size:=by simp[Builtin.zeroCells]
 have hone:∀ v∈(Builtin.zeroCells z.cells n).toList,v.oneCell'=true:=by
  intro v hv
  rw[Array.mem_toList_iff]at hv
  simp only[Builtin.zeroCells,Array.mem_map,Array.mem_range]at hv
  obtain⟨j,hj,rfl⟩:=hv
  have hjm:j % z.cells.size<z.cells.size:=Nat.mod_lt _ hk0
  rw[getElem!_pos z.cells (j % z.cells.size) hjm]
  exact h1 _ (Array.mem_toList_iff.2 (Array.getElem_mem hjm))
 refine⟨_,hlen,hone,fun ty c=>?_⟩
 have hst:=run_storeCells_cells (P:=P) b o (Builtin.zeroCells z.cells n).toList 0 w (fun j hj=>by simpa using hc j (by omega)) (fun j hj=>by simp) hone
 simp only[Nat.add_zero]at hst
 obtain⟨m,rfl⟩ : ∃ m,n=m+1:=⟨n - 1,by omega⟩
 simp[Builtin.clear_,run_underlying ht,hv,hst]
structure K9 (w w':World) (g k n i:Nat):Prop where
 keep:bw (fun b o=>b=g∧o<n*k) w w'
 lo:∀ q,q<i*k→cel w' g q=cel w g q
 mid:∀ q,i*k≤q→q<(n - 1)*k→cel w' g q=cel w g (q+k)
 hi:∀ q,(n - 1)*k≤q→q<n*k→∃ z,cel w' g q=some z∧z.oneCell'=true
 fro:∀ b q,fro w' b q=fro w b q
theorem bw.up {M M':ab} {w w':World} (h:bw M w w') (hm:∀ b o,M b o→M' b o):bw M' w w':=(bw.refl M' w).trans h fun b o hb=>.inr (hm b o hb)
theorem FQ (w:World):bw NO w w.drew:=⟨rfl,rfl,rfl,Nat.le_refl _,fun _ _ _=>rfl,fun _ _ _ _=>rfl,fun _ _ _ _=>rfl⟩
theorem HD {w:World} {g k n i:Nat} {news zs:List Value} (hin:i<n) (hall:∀ q,q<n*k→∃ z,cel w g q=some z) (hl:news.length=(n - (i+1))*k) (hnews:∀ t u,news[t]? = some u→cel w g ((i+1)*k+t)=some u) (hz:zs.length=k) (hz1:∀ v∈zs,v.oneCell'=true) :
  K9 w ((w.drew.setCells g (i*k) news).setCells g ((n - 1)*k) zs) g k n i:=by
 have e1:i*k+(n - (i+1))*k=(n - 1)*k:=by rw[←Nat.add_mul];congr 1;omega
 have e2:(n - 1)*k+k=n*k:=by rw[show(n - 1)*k+k=(n - 1+1)*k by rw[Nat.add_mul,Nat.one_mul]];congr 1;omega
 have e3:(i+1)*k=i*k+k:=by rw[Nat.add_mul,Nat.one_mul]
 have c0:∀ b q,cel w.drew b q=cel w b q:=fun _ _=>rfl
 have hin1:∀ j,j<news.length→∃ z,cel w.drew g (i*k+j)=some z:=fun j hj=>by rw[c0];exact hall _ (by omega)
 have c1:∀ q,q<n*k→∃ z,cel (w.drew.setCells g (i*k) news) g q=some z:=fun q hq=>by
  by_cases h:i*k≤q∧q<i*k+news.length
  ·have:=dY hin1 (List.getElem?_eq_getElem (show q - i*k<news.length by omega))
   rw[show i*k+(q - i*k)=q by omega]at this
   exact⟨_,this⟩
  ·rw[cB (fun x=>h x.2),c0];exact hall q hq
 refine⟨?_,fun q hq=>?_,fun q h1 h2=>?_,fun q h1 h2=>?_,fun b q=>?_⟩
 ·have k1:=im (g:=g) (X:=fun b o=>b=g∧o<n*k) news (i*k) w.drew fun j hj=>⟨rfl,by omega⟩
  have k2:=im (g:=g) (X:=fun b o=>b=g∧o<n*k) zs ((n - 1)*k) (w.drew.setCells g (i*k) news) fun j hj=>⟨rfl,by omega⟩
  exact((FQ w).up fun _ _ h=>h.elim).trans (k1.trans k2 fun _ _ h=>.inr h) fun _ _ h=>.inr h
 ·rw[cB (by omega),cB (by omega)];rfl
 ·rw[cB (by omega)]
  obtain⟨u,hu⟩ : ∃ u,news[q - i*k]? = some u:=⟨_,List.getElem?_eq_getElem (by omega)⟩
  have h3:=dY hin1 hu
  have h4:=hnews _ u hu
  rw[show i*k+(q - i*k)=q by omega]at h3
  rw[show(i+1)*k+(q - i*k)=q+k by omega]at h4
  rw[h3,h4]
 ·obtain⟨u,hu⟩ : ∃ u,zs[q - (n - 1)*k]? = some u:=⟨_,List.getElem?_eq_getElem (by omega)⟩
  have h3:=dY (w:=w.drew.setCells g (i*k) news) (o:=(n - 1)*k) (vs:=zs) (fun j hj=>c1 _ (by omega)) hu
  rw[show(n - 1)*k+(q - (n - 1)*k)=q by omega]at h3
  exact⟨u,h3,hz1 u (List.mem_of_getElem? hu)⟩
 ·rw[dr,dr];rfl
def Pw (rows:List (List C)):Prop:=∀ r∈rows,∀ c∈r,∃ z,c=.v z
def Kz (P:Program) (f k:Nat):Prop:=Hk P f∧∀ (w:World) (g n cap i:Nat) (news:List Value),i<n→n≤cap→news.length=(n - (i+1))*k→(∀ t u,news[t]? = some u→cel w g ((i+1)*k+t)=some u)→(∀ u∈news,u.oneCell'=true)→
 (∀ q,q<n*k→(w.cell? ⟨g,q,none⟩).isSome=true∧w.frozen? ⟨g,q,none⟩ = false)→
 Calls P f #[.slice (some ⟨g,0,none⟩) n cap,.int .i64 i,.int .i64 ((i+1:Nat):Int)] w fun e w'=>e=.returned (.slice (some ⟨g,0,none⟩) (n - 1) cap)∧∃ zs:List Value,zs.length=k∧(∀ v∈zs,v.oneCell'=true)∧w'=(w.drew.setCells g (i*k) news).setCells g ((n - 1)*k) zs
theorem Nq {P:Program} {f k:Nat} (hf:Kz P f k) {rows:List (List C)} {i:Nat} (hi:i<rows.length) (hk:∀ r∈rows,r.length=k) (hsc:Pw rows) :
  aV P f false [.mut none [.s .own rows],.val none [I (i:Nat)],.val none [I ((i+1:Nat):Int)]] [.mut none [.x],.val none [I (i:Nat)],.val none [I ((i+1:Nat):Int)]] .one [oE (dele rows i)]:=by
 refine⟨hf.1,fun w S V vs hS hV hVV hA=>?_⟩
 match vs,hA with
 | [v,v1,v2],⟨hA,hA1,hA2,_⟩=>
  have hrep:=bv.rep1 (show bv w S (V 0) none [C.s .own rows] v from hA)
  have e1:v1=.int .i64 (i:Nat):=by
   have:=bv.rep1 (show bv w S NO none [C.v (.int .i64 (i:Nat))] v1 from hA1)
   cases this;rfl
  have e2:v2=.int .i64 ((i+1:Nat):Int):=by
   have:=bv.rep1 (show bv w S NO none [C.v (.int .i64 ((i+1:Nat):Int))] v2 from hA2)
   cases this;rfl
  subst e1 e2
  have hdl:(dele rows i).length=rows.length - 1:=by unfold dele;simp;omega
  generalize hcc:C.s .own rows=cc at hrep
  cases hrep with
  | nil _ o a ho=>cases hcc;simp at hi
  | own _ o g k' n cap rows' u f' ho hn hk' hcap hpos hF hu hff hd hc=>
   cases hcc
   have hkk:k'=k:=by rw[←hk' _ (List.getElem_mem hi),←hk _ (List.getElem_mem hi)]
   subst hkk
   have hval:∀ a b r c,rows[a]? = some r→r[b]? = some c→∃ z,c=.v z∧cel w g (a*k'+b)=some z:=fun a b r c ha hb=>by
    obtain⟨z,rfl⟩:=hsc r (List.mem_of_getElem? ha) c (List.mem_of_getElem? hb)
    have h1:=hc a b r _ ha hb
    have hlt:=zG hn hk' ha hb
    have h2:=hu (a*k'+b) (eZ hlt.1 hlt.2)
    generalize u (a*k'+b)=y at h1 h2
    cases h1
    exact⟨_,rfl,h2⟩
   have hnk:n*k'≤cap*k':=Nat.mul_le_mul_right _ hcap
   have hone:∀ q,q<cap*k'→∃ z,cel w g q=some z∧z.oneCell'=true:=fun q hq=>(hF q hq).2.1
   have e3:(i+1)*k'+(n - (i+1))*k'=n*k':=by rw[←Nat.add_mul];congr 1;omega
   obtain⟨news,hnl,hnw,hn1⟩ : ∃ news:List Value,news.length=(n - (i+1))*k'∧(∀ t u,news[t]? = some u→cel w g ((i+1)*k'+t)=some u)∧∀ u∈news,u.oneCell'=true:=by
    refine⟨(List.range ((n - (i+1))*k')).map fun t=>(cel w g ((i+1)*k'+t)).getD undef,by simp,fun t y ht=>?_,fun y hy=>?_⟩
    ·have hl:=(List.getElem?_eq_some_iff.1 ht).1
     simp only[List.length_map,List.length_range]at hl
     rw[List.getElem?_map,List.getElem?_range hl]at ht
     obtain⟨z,hz,-⟩:=hone ((i+1)*k'+t) (by omega)
     rw[Option.map_some,hz]at ht
     rw[hz];simpa using ht
    ·obtain⟨t,ht,rfl⟩:=List.mem_map.1 hy
     have hl:=List.mem_range.1 ht
     obtain⟨z,hz,hz1⟩:=hone ((i+1)*k'+t) (by omega)
     rw[hz];exact hz1
   refine(hf.2 w g n cap i news (by omega) hcap hnl hnw hn1 (fun q hq=>?_)).mono fun e w' ⟨he,zs,z1,z2,hw'⟩=>?_
   ·obtain⟨a1,⟨z,a2,a3⟩,a4⟩:=hF q (by omega)
    exact⟨by show(cel w g q).isSome=true;rw[a2];rfl,congrArg Prod.fst a4⟩
   have hD:=HD (w:=w) (by omega:i<n) (fun q hq=>by obtain⟨z,hz,-⟩:=hone q (by omega);exact⟨z,hz⟩) hnl hnw z1 z2
   rw[←hw']at hD
   have hgV:∀ q,q<cap*k'→V 0 g q:=fun q hq=>(hF q hq).1
   have hkeep:bw (fun b o=>∃ i,V i b o) w w':=hD.keep.up fun b o ⟨h1,h2⟩=>⟨0,by rw[h1];exact hgV o (by omega)⟩
   have e4:(n - 1)*k'+k'=n*k':=by rw[show(n - 1)*k'+k'=(n - 1+1)*k' by rw[Nat.add_mul,Nat.one_mul]];congr 1;omega
   have hcel':∀ q,q<cap*k'→∃ z,cel w' g q=some z∧z.oneCell'=true:=fun q hq=>by
    by_cases h1:q<i*k'
    ·rw[hD.lo q h1];exact hone q hq
    by_cases h2:q<(n - 1)*k'
    ·rw[hD.mid q (by omega) h2];exact hone _ (by omega)
    by_cases h3:q<n*k'
    ·exact hD.hi q (by omega) h3
    ·have hlt:=(hV 0 g q (hgV q hq)).1
     rw[hD.keep.cel g q hlt (fun x=>h3 x.2)];exact hone q hq
   have hrow:co w' NO (V 0) [oE (dele rows i)] (fun _=>.slice (some ⟨g,0,none⟩) (n - 1) cap):=by
    refine row1 ?_
    by_cases hz:dele rows i=[]
    ·rw[hz]
     have hn0:n - 1=0:=by rw[hz]at hdl;simp at hdl;omega
     rw[hn0]
     exact .imm _ g 0 k' 0 cap [] (fun _=>undef) rfl (fun r hr=>by cases hr) (Nat.zero_le _) (fun q hq=>by omega) (fun a b r c ha=>by simp at ha)
    ·rw[M1 hz]
     have hpos':0<n - 1:=by
      have:=List.length_pos_iff.2 hz
      omega
     refine .own _ .own g k' (n - 1) cap _ (fun q=>(cel w' g q).getD undef) (fun _=>NO) trivial (by rw[hdl];omega) (fun r hr=>hk' r ((fH ..).subset hr)) (by omega) hpos' (fun q hq=>⟨hgV q hq,hcel' q hq,(hD.fro g q).trans (hF q hq).2.2⟩) (fun q hq=>?_) (fun _ _ _ _ h=>h.elim) (fun _ _ _ _ _ _ _ h=>h.elim) (fun a b r c ha hb=>?_)
     ·obtain⟨z,hz,-⟩:=hcel' q (by omega)
      rw[hz];rfl
     ·have hbk:b<k':=by
       have:=hk' r ((fH ..).subset (List.mem_of_getElem? ha))
       rw[←this];exact(List.getElem?_eq_some_iff.1 hb).1
      have hal:=(List.getElem?_eq_some_iff.1 ha).1
      rw[hdl]at hal
      have hal2:a<n - 1:=by omega
      have hflat:a*k'+b<(n - 1)*k':=eZ hal2 hbk
      have hread:∃ z,c=.v z∧cel w' g (a*k'+b)=some z:=by
       unfold dele at ha
       by_cases h1:a<i
       ·rw[List.getElem?_append_left (by rw[List.length_take];omega),List.getElem?_take,if_pos h1]at ha
        obtain⟨z,hz,hz1⟩:=hval a b r c ha hb
        refine⟨z,hz,?_⟩
        rw[hD.lo _ (eZ h1 hbk)];exact hz1
       ·rw[List.getElem?_append_right (by rw[List.length_take];omega),List.length_take,List.getElem?_drop]at ha
        rw[show i+1+(a - min i rows.length)=a+1 by omega]at ha
        obtain⟨z,hz,hz1⟩:=hval (a+1) b r c ha hb
        refine⟨z,hz,?_⟩
        have:i*k'≤a*k':=Nat.mul_le_mul_right _ (by omega)
        rw[hD.mid _ (by omega) hflat,←hz1]
        congr 1
        rw[Nat.add_mul,Nat.one_mul];omega
      obtain⟨z,rfl,hz⟩:=hread
      simp only[hz,Option.getD_some]
      exact .v _ _ (by obtain⟨z',hz',h1⟩:=hcel' (a*k'+b) (by omega);rw[hz]at hz';cases hz';exact h1)
   exact⟨_,he,hkeep,V 0,fun _=>NO,NO,fun b o h=>.inl ⟨0,h⟩,fun _ _ _ h=>h.elim,fun _ _ h=>h.elim,fun _ _ _ _ _ h=>h.elim,fun _ _ _ _ h=>h.elim,fun _ _ _ h=>h.elim,fun _ _ _ h=>h.elim,rfl,hrow,⟨⟨rfl,fun _=>.slice (some ⟨g,0,none⟩) n cap,rfl,row1 (.x _ _ rfl)⟩,trivial,trivial,trivial⟩⟩
  | _=>cases hcc
end Go.Proofs.YtplcalfnngkffaaGreat.Ab
/- The library's Delete at objects, large objects and spans: its own text, walked. No condition. -/
namespace Go.Proofs.YtplcalfnngkffaaGreat.Ab
open Go.RowKit
set_option maxRecDepth 100000
set_option maxHeartbeats 4000000
theorem Mr {w:World} {g n cap i k:Nat} {news:List Value} (hl:news.length=(n - (i+1))*k) (hcap:n≤cap) (hin:i<n) (h:∀ t u,news[t]? = some u→cel w g ((i+1)*k+t)=some u):∃ A:Addr,(if cap=i+1 then some (⟨g,0,none⟩ : Addr) else some ⟨g,(i+1)*k,none⟩)=some A∧∀ t u,news[t]? = some u→w.drew.cell? (A.add t)=some u:=by
 by_cases e:cap=i+1
 ·refine⟨⟨g,0,none⟩,by simp[e],fun t u hu=>?_⟩
  have h0:news.length=0:=by rw[hl,show n - (i+1)=0 by omega,Nat.zero_mul]
  rw[List.length_eq_zero_iff.1 h0]at hu
  simp at hu
 ·refine⟨⟨g,(i+1)*k,none⟩,by simp[e],fun t u hu=>?_⟩
  rw[Addr.add_lit]
  exact h t u hu
theorem Jp:∀ w,(zeroValue 63).run Tryz.prog w=.ok (.agg #[.int .i64 0,.int .i64 0,.int .i64 0]) w:=fun _=>by kernel_rfl
theorem E2:Kz Tryz.prog 358 3:=by
 refine⟨⟨_,Tryz.func358,by kernel_rfl,by kernel_rfl⟩,fun w g n cap i news hin hcap hnl hnw hn1 hcl=>?_⟩
 obtain⟨A,hA,hsrc⟩:=Mr hnl hcap hin hnw
 have hsrc:Hid (∀ t u,news[t]? = some u→w.drew.cell? (A.add t)=some u):=hsrc
 have s1:Hid (news.length=(n - (i+1))*3):=hnl
 have s2:Hid (∀ u∈news,u.oneCell'=true):=hn1
 have s3:Hid (∀ t,t<news.length→(w.drew.cell? ⟨g,0+i*3+t,none⟩).isSome=true∧w.drew.frozen? ⟨g,0+i*3+t,none⟩ = false):=fun t ht=>by
  rw[Nat.zero_add];exact hcl (i*3+t) (by omega)
 obtain⟨W1,hW1⟩ : ∃ W1,W1=w.drew.setCells g (0+i*3) news:=⟨_,rfl⟩
 have c1:∀ q,q<n*3→(W1.cell? ⟨g,q,none⟩).isSome=true∧W1.frozen? ⟨g,q,none⟩ = false:=fun q hq=>by
  have hin1:∀ j,j<news.length→∃ z,cel w.drew g (0+i*3+j)=some z:=fun j hj=>by
   have:=(hcl (0+i*3+j) (by omega)).1
   exact Option.isSome_iff_exists.1 this
  refine⟨?_,by rw[hW1];exact(congrArg Prod.fst (dr g _ news w.drew g q)).trans (hcl q hq).2⟩
  rw[hW1]
  by_cases h:0+i*3≤q∧q<0+i*3+news.length
  ·have:=dY hin1 (List.getElem?_eq_getElem (show q - (0+i*3)<news.length by omega))
   rw[show 0+i*3+(q - (0+i*3))=q by omega]at this
   show(cel _ g q).isSome=true
   rw[this];rfl
  ·show(cel _ g q).isSome=true
   rw[cB (fun x=>h x.2)];exact(hcl q hq).1
 obtain⟨zs,hz1,hz2,hclr⟩:=LY (P:=Tryz.prog) W1 37 63 3 (.agg #[.int .i64 0,.int .i64 0,.int .i64 0]) Tryz.underlying37 Jp rfl (by intro v hv;simp[Value.cells]at hv;subst hv;rfl) g ((i+(n - (i+1)))*3) (n - (i+(n - (i+1)))) (by omega) (by decide) (fun j hj=>(c1 _ (by omega)).1) (fun j hj=>(c1 _ (by omega)).2)
 have hz1':Hid (zs.length=(n - (i+(n - (i+1))))*3):=hz1
 have hz2':Hid (∀ v∈zs,v.oneCell'=true):=hz2
 have hW:Hid (W1=w.drew.setCells g (0+i*3) news):=hW1
 have hic:i≤cap:=by omega
 have hjc:i+1≤cap:=by omega
 have hne:¬i=i+1:=by omega
 have hjn:i+1≤n:=hin
 have hin':n - 1=i+(n - (i+1)):=by omega
 clear hW1 c1 hcl hnw hn1 hnl hz1 hz2
 rw[hin']
 generalize hj:i+1=j at hA hsrc s1 hclr hz1' hjc hne hjn hin' ⊢
 obtain⟨i0,hi0,hz0⟩ : ∃ i0,Tryz.prog.info? 63=some i0∧i0.size=3:=by
  have h:=(vB 63 _ rfl).1
  cases e : Tryz.prog.info? 63 with
  | none=>rw[e]at h;cases h
  | some x=>rw[e]at h;simp only[Option.map_some,Option.some.injEq,Prod.mk.injEq]at h;exact⟨x,rfl,h.2.1⟩
 have mixed : Tryz.prog.follows .mixedOrders=true:=by kernel_rfl
 go_enter Tryz.func358,Tryz.ntmps358
 go_wp2_with fail
 go_region_law_o (refine step_append_room rfl (.tmp 22) (.tmp 25) 37 rfl 63 i0 3 Tryz.underlying37 hi0 hz0 g 0 i cap (by simp[Act.eval,Act.put]) A (n - j) (cap - j) news (by simp[Act.eval,Act.put]) s1.out hsrc.out s2.out (by omega) s3.out ?_;rw[←hW.out])
 go_wp2
 go_ret
 refine⟨rfl,zs,by have:=hz1'.out;omega,hz2'.out,?_⟩
 rw[hW.out,Nat.zero_add]
theorem DG (xs:List am):Pw (xs.map (am.enc .own)):=fun r hr c hc=>by
 obtain⟨s,-,rfl⟩:=List.mem_map.1 hr
 simp[am.enc]at hc
 rcases hc with rfl|rfl|rfl<;>exact⟨_,rfl⟩
theorem Ep (xs:List am) (i:Nat) (hi:i<xs.length):aV Tryz.prog 358 false [.mut none [.s .own (xs.map (am.enc .own))],.val none [I (i:Nat)],.val none [I ((i+1:Nat):Int)]] [.mut none [.x],.val none [I (i:Nat)],.val none [I ((i+1:Nat):Int)]] .one [oE ((dele xs i).map (am.enc .own))]:=by
 have h:=Nq E2 (rows:=xs.map (am.enc .own)) (i:=i) (by rw[List.length_map];exact hi) (bx fun _=>rfl) (DG xs)
 rwa [show dele (xs.map (am.enc .own)) i=(dele xs i).map (am.enc .own) by simp[dele,List.map_take,List.map_drop]]at h
end Go.Proofs.YtplcalfnngkffaaGreat.Ab
/- Freeing: the program's smaller functions. No condition. -/
namespace Go.Proofs.YtplcalfnngkffaaGreat.Ab
open Go.RowKit
set_option maxRecDepth 20000
set_option maxHeartbeats 4000000
theorem Jx (h:ac) (p:Int):ah Tryz.prog 286 false [.val (some 24) (ac.enc .imm h),.val none [I p]] .one [B (m6 h p)]:=by
 cases e:h.Meshing
 all_goals
  have hz:ac.enc .imm h=(ac.enc .imm h).set 18 (B h.Meshing):=rfl
  rw[e]at hz
  rw[hz]
  refine fO 23 [] Tryz.func286 rfl ?_
  repeat'(first|refine gO ?_|(conv=>whnf);first|with_reducible (first|refine Bf.D (fun hq=>?_) (fun hq=>?_)|refine Bf.E (fun hq=>?_) (fun hq=>?_)|refine Bf.N (fun hq=>?_) (fun hq=>?_))|refine Sm.rf ?_)
  all_goals exact congrArg (fun z=>[B z]) ((by unfold m6;rw[e];first|(simp[*];done)|(simp[*];rw[Bool.eq_iff_iff];simp;try omega)|(rw[Bool.eq_iff_iff];simp[*];try omega)))
theorem AP (h:ac):ah Tryz.prog 60 false [.val (some 24) (ac.enc .imm h)] .one [I (gi h:Nat)]:=by
 refine fO 9 [] Tryz.func60 rfl ?_
 repeat'(first|refine gO ?_|(conv=>whnf);first|refine Sm.rf ?_)
 rfl
end Go.Proofs.YtplcalfnngkffaaGreat.Ab
/- Freeing: the program's functions over a whole heap that is lent. No condition. -/
namespace Go.Proofs.YtplcalfnngkffaaGreat.Ab
open Go.RowKit
set_option maxRecDepth 20000
set_option maxHeartbeats 4000000
theorem mu (c:C):Me c c:=(ot [c]).1
def cE (h:ac) (s l o:C):List C:=[.s .own (h.Kernel.Machine.Frames.Cells.map (aI .own)),.s .own (h.Kernel.Machine.Frames.Used.map (rB .own)),.s .own (h.Kernel.Machine.Table.Entries.map (aG.enc .own)),I h.Kernel.Calls,.s .own (h.Kernel.Refuse.map (rI .own)),.s .own (h.Free.map (ar.enc .own)),s,l,o,.s .own (h.Caches.map (ay.enc .own)),.s .own (h.Mail.Buffers.map (b6 .own)),.s .own (h.Mail.Inbox.map (aI .own)),I h.Quar.Room,.s .own (h.Quar.Lst.map (aE.enc .own)),I h.Seed,I h.Clock,I h.Limit,I h.Next,B h.Meshing,I h.Job.Plan.Keep,I h.Job.Plan.Move,.s .own (h.Job.Plan.Cells.map (rI .own)),I h.Job.Phase,I h.Job.Next]
def oS (h:ac):C:=oE (h.Spans.map (am.enc .own))
def oL (h:ac):C:=oE (h.Larges.map (au.enc .own))
def oO (h:ac):C:=oE (h.Objs.map (aX.enc .own))
def eN (h:ac):List C:=cE h (oS h) (oL h) (oO h)
theorem Ku (rows:List (List C)):fz (oE rows)=fz (.s .own rows):=by cases rows<;>rfl
theorem DQ {rows:List (List C)} : oE rows=.s .own rows∨(rows=[]∧oE rows=.s .imm []):=by cases rows with|nil=>exact .inr ⟨rfl,rfl⟩|cons=>exact .inl rfl
theorem N0 (h:ac) {s l o:C} (hs:fz s=.s .imm (h.Spans.map (am.enc .imm))) (hl:fz l=.s .imm (h.Larges.map (au.enc .imm))) (ho:fz o=.s .imm (h.Objs.map (aX.enc .imm))):ey (cE h s l o)=ac.enc .imm h:=by
 have h1:=ac.enc_fz h
 have h2:ey (cE h s l o)=(((ey (ac.enc .own h)).set 6 (fz s)).set 7 (fz l)).set 8 (fz o):=rfl
 rw[h2,h1,hs,hl,ho];rfl
theorem NA (h:ac):fz (oS h)=.s .imm (h.Spans.map (am.enc .imm)):=(Ku _).trans (De _)
theorem ME (h:ac):fz (oL h)=.s .imm (h.Larges.map (au.enc .imm)):=(Ku _).trans (Hz _)
theorem NX (h:ac):fz (oO h)=.s .imm (h.Objs.map (aX.enc .imm)):=(Ku _).trans (LS _)
theorem jY (h:ac):ey (eN h)=ac.enc .imm h:=N0 h (NA h) (ME h) (NX h)
theorem FB {rows:List (List C)} (h:MD rows):Nw (oE rows):=by cases rows with|nil=>exact⟨.inr rfl,trivial⟩|cons r rs=>exact⟨.inl fun e=>(by cases e),h⟩
theorem lb (h:ac):gq (eN h):=by
 have h1:=ac.enc_fr h
 simp only[ac.enc,gq]at h1
 unfold eN cE
 simp only[gq]
 refine⟨h1.1,h1.2.1,h1.2.2.1,h1.2.2.2.1,h1.2.2.2.2.1,h1.2.2.2.2.2.1,FB ?_,FB ?_,FB ?_,h1.2.2.2.2.2.2.2.2.2⟩
 ·exact h1.2.2.2.2.2.2.1.2
 ·exact h1.2.2.2.2.2.2.2.1.2
 ·exact h1.2.2.2.2.2.2.2.2.1.2
theorem sP {w:World} {S Y:ab} {rows:List (List C)} {v:Value} (h:ez w S Y (.s .own rows) v):ez w S Y (oE rows) v:=by
 cases rows with
 | cons=>exact h
 | nil=>
  cases h with
  | nil _ o a ho=>exact .nil _ .imm a trivial
  | own _ o g k n cap rows u f ho hn hk hcap hpos hF hu hf hd hc=>simp at hn;omega
theorem KM {w:World} {S Y:ab} {h:ac} {u:Nat→Value} (hr:co w S Y (ac.enc .own h) u):co w S Y (eN h) u:=by
 obtain⟨f,h1,h2,h3⟩:=hr
 refine⟨f,fun j c hj=>?_,h2,h3⟩
 have hz:eN h=(((ac.enc .own h).set 6 (oS h)).set 7 (oL h)).set 8 (oO h):=rfl
 rw[hz]at hj
 by_cases e8:j=8
 ·subst e8
  have:c=oO h:=by simpa[ac.enc] using hj.symm
  rw[this];exact sP (h1 8 _ rfl)
 by_cases e7:j=7
 ·subst e7
  have:c=oL h:=by simpa[ac.enc] using hj.symm
  rw[this];exact sP (h1 7 _ rfl)
 by_cases e6:j=6
 ·subst e6
  have:c=oS h:=by simpa[ac.enc] using hj.symm
  rw[this];exact sP (h1 6 _ rfl)
 ·rw[List.getElem?_set_ne (by omega),List.getElem?_set_ne (by omega),List.getElem?_set_ne (by omega)]at hj
  exact h1 j c hj
theorem kI (h:ac) (hs:ac.sml h):ah Tryz.prog 71 false [.val (some 24) (ac.enc .imm h)] .agg (eN h):=by
 obtain⟨h1,h2⟩:=pA h hs
 refine⟨h1,fun w S vs hS hA=>(h2 w S vs hS hA).mono fun e w1 hv=>?_⟩
 obtain⟨v,he,hk,X,S1,a1,a2,a3,a4,a5⟩:=hv
 exact⟨v,he,hk,X,S1,a1,a2,a3,a4,KM a5⟩
theorem uV (h:ac) (r:ar) (n:Nat) (hk:aH h.Kernel=true) (hc:h.Kernel.Calls≠100000) (hfl:h.Free.length≤1048576) (hr:r.Len=n∧0≤r.At∧r.At≤1000∧n≤1000) :
  aV Tryz.prog 359 false [.ptr (eN h),.val (some 2) (ar.enc .imm r)] [.ptr (eN {h with Kernel:=jy h.Kernel r.At n,Free:=(cG (gi h) h.Free r).getD h.Free}),.val (some 2) (ar.enc .imm r)] (.tup []) []:=by
 have hok:=hk
 have hpg:gi h≤32:=(bU.1 (aJ.1 hk).2.2.1).2.2
 have c2:=AP {h with Kernel:=jy h.Kernel r.At n}
 rw[show gi {h with Kernel:=jy h.Kernel r.At n} = gi h from(oy _ _ _).1]at c2
 have c3:=xT (gi h:Nat) h.Free r ⟨by omega,by omega⟩ ⟨hfl,fun _ _=>trivial⟩
 refine fM 44 [] [(5,272,[29,30,31,32,33,34,35,36,37,38,39,28,40,41,42,43,0,1,2,3,4,5,6,7,8,9,10,11,12,13,14,15,16,1013])] [(0,0),(0,0)] Tryz.func359 rfl (fun u q=>?_) (.inr trivial)
 repeat'(first|refine gO ?_|(conv=>whnf);first|refine Sm.rf ?_)
 (conv=>whnf)
 refine Lp.mk (ι:=Nat) (fun k=>[(0,.hold .box (eN {h with Kernel:=jy h.Kernel r.At k})),(3,.hold .box (ar.enc .imm r)),(4,.hold .one [I ((r.At+k))])]) (fun k=>k≤n) (fun k=>n - k) (0) ?_ (Nat.zero_le _) fun k hk=>?_
 ·exact wC
 by_cases lk:k<n
 ·have c1:=BV (jy h.Kernel r.At k) (r.At+k) (uq hok _ _) (by rw[(yC _ _ _).1];exact hc)
  repeat'(first|refine gD ?_|(conv=>whnf);first|refine Sm.rf ?_|refine Cl.eq (c1) ⟨⟨rfl,af.enc_fz _⟩,⟨rfl,rfl⟩,trivial⟩ ?_)
  ((conv=>whnf);refine Nx.mk (k+1) (by omega) (by omega) ?_;(exact wC))
 ·obtain rfl:k=n:=by omega
  repeat'(first|refine gD ?_|(conv=>whnf);first|refine Sm.rf ?_|refine Cl.eq (c2) ⟨⟨rfl,jY _⟩,trivial⟩ ?_|refine Cl.eq (c3) ⟨⟨rfl,rfl⟩,⟨rfl,ll h.Free⟩,⟨rfl,rfl⟩,trivial⟩ ?_|refine Sm.rf ?_)
  refine bK.mk rfl rfl ?_
  exact wC
end Go.Proofs.YtplcalfnngkffaaGreat.Ab
