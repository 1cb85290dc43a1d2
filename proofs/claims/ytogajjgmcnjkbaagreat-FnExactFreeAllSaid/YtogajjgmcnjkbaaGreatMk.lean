/- The reference and the program mean the same by a valid heap. No condition. -/
import Derived.Test.YtogajjgmcnjkbaaGreatMj
namespace Go.Proofs.YtogajjgmcnjkbaaGreat.Ab
theorem kY {α:Type} [Inhabited α] {xs:List α} {f:α→Int} (hn:(xs.map f).Nodup) {i j:Nat} (hi:i<xs.length) (hj:j<xs.length) (h:f (nth xs i)=f (nth xs j)):i=j:=by
 have h1:=List.pairwise_iff_getElem.1 hn
 rcases Nat.lt_trichotomy i j with hlt|rfl|hlt
 ·have:=h1 i j (by simpa using hi) (by simpa using hj) hlt
  simp only[List.getElem_map]at this
  rw[bE (List.getElem?_eq_getElem hi),bE (List.getElem?_eq_getElem hj)]at h
  exact absurd h this
 ·rfl
 ·have:=h1 j i (by simpa using hj) (by simpa using hi) hlt
  simp only[List.getElem_map]at this
  rw[bE (List.getElem?_eq_getElem hi),bE (List.getElem?_eq_getElem hj)]at h
  exact absurd h.symm this
theorem bH {α:Type} [Inhabited α] {xs:List α} {x:α} (h:x∈xs):∃ i,i<xs.length∧nth xs i=x:=by
 obtain⟨i,hi⟩:=List.mem_iff_getElem?.1 h
 exact⟨i,(List.getElem?_eq_some_iff.1 hi).1,bE hi⟩
theorem oz:∀ {H L:List Int},H.Nodup→(∀ x∈H,x∈L)→L.length≤H.length→∀ x∈L,x∈H
 | [],L,_,_,hl,x,hx=>by
  have:L=[]:=List.eq_nil_of_length_eq_zero (by simpa using hl)
  subst this;exact hx
 | y::H,L,hn,hs,hl,x,hx=>by
  have hy:y∈L:=hs y (List.mem_cons_self ..)
  have hn2:=List.nodup_cons.1 hn
  by_cases hxy:x=y
  ·subst hxy;exact List.mem_cons_self ..
  ·refine List.mem_cons_of_mem _ (oz (L:=L.erase y) hn2.2 (fun z hz=>?_) ?_ x ((List.mem_erase_of_ne hxy).2 hx))
   ·exact(List.mem_erase_of_ne (fun e:z=y=>hn2.1 (by rw[←e];exact hz))).2 (hs z (List.mem_cons_of_mem _ hz))
   ·rw[List.length_erase_of_mem hy]
    simp only[List.length_cons]at hl
    omega
theorem va {H L:List Int} (hL:L.Nodup) (hs:∀ x∈H,x∈L):(H.Nodup∧H.length=L.length)↔∀ a∈L,H.count a=1:=by
 constructor
 ·rintro⟨hn,hl⟩ a ha
  have hm:=oz hn hs (by omega) a ha
  have h1:=List.nodup_iff_count.1 hn a
  have h2:=List.count_pos_iff.2 hm
  omega
 ·intro hc
  have hn:H.Nodup:=List.nodup_iff_count.2 fun a=>by
   by_cases ha:a∈H
   ·rw[hc a (hs a ha)];exact Nat.le_refl 1
   ·rw[List.count_eq_zero_of_not_mem ha];exact Nat.zero_le _
  refine⟨hn,?_⟩
  have:H.Perm L:=List.perm_iff_count.2 fun a=>by
   by_cases ha:a∈L
   ·rw[hc a ha]
    have h1:=List.nodup_iff_count.1 hL a
    have h2:=List.count_pos_iff.2 ha
    omega
   ·rw[List.count_eq_zero_of_not_mem ha,List.count_eq_zero_of_not_mem fun h=>ha (hs a h)]
  exact this.length_eq
theorem ey {l:ah} {n:Nat} {p:Int} : p∈lpgs l n↔∃ k:Nat,k<n∧p=l.Page+(k:Nat):=by
 unfold lpgs;simp only[List.mem_map,List.mem_range]
 constructor
 ·rintro⟨k,hk,rfl⟩;exact⟨k,hk,rfl⟩
 ·rintro⟨k,hk,rfl⟩;exact⟨k,hk,rfl⟩
structure rr (sp:List am) (la:List ah):Prop where
 sok:∀ s∈sp,b8 s=true
 lok:∀ l∈la,cS l=true
 nd:(sp.map (·.Page)).Nodup
 dis:∀ s∈sp,∀ l∈la,∀ k:Nat,k<l.Pages.toNat→s.Page≠l.Page+(k:Nat)
 one:∀ i j,i<la.length→j<la.length→∀ k k':Nat,k<(nth la i).Pages.toNat→k'<(nth la j).Pages.toNat→(nth la i).Page+(k:Nat)=(nth la j).Page+(k':Nat)→i=j
theorem rr.of {sp:List am} {la:List ah} (h:bj sp la=true):rr sp la:=by
 obtain⟨h1,h2,h3⟩:=eR h
 unfold pgs at h3
 rw[List.nodup_append]at h3
 obtain⟨h4,h5,h6⟩:=h3
 have h7:=List.pairwise_flatMap.1 h5
 refine⟨fun s hs=>List.all_eq_true.1 h1 s hs,fun l hl=>List.all_eq_true.1 h2 l hl,h4,fun s hs l hl k hk e=>?_,fun i j hi hj k k' hk hk' e=>?_⟩
 ·exact h6 _ (List.mem_map.2 ⟨s,hs,rfl⟩) _ (List.mem_flatMap.2 ⟨l,hl,ey.2 ⟨k,hk,rfl⟩⟩) e
 ·have h8:=List.pairwise_iff_getElem.1 h7.2
  have ei:=bE (List.getElem?_eq_getElem hi)
  have ej:=bE (List.getElem?_eq_getElem hj)
  rw[ei]at hk e
  rw[ej]at hk' e
  rcases Nat.lt_trichotomy i j with hlt|heq|hlt
  ·exact absurd e (h8 i j hi hj hlt _ (ey.2 ⟨k,hk,rfl⟩) _ (ey.2 ⟨k',hk',rfl⟩))
  ·exact heq
  ·exact absurd e.symm (h8 j i hj hi hlt _ (ey.2 ⟨k',hk',rfl⟩) _ (ey.2 ⟨k,hk,rfl⟩))
theorem ff {s:am} {a:Int} (hs:b8 s=true):cg s a=true↔16*s.Page≤a∧a≤16*s.Page+15:=by
 unfold cg;rw[hs];simp
theorem fA {sp:List am} {la:List ah} (hL:rr sp la) {a:Int} {i:Nat} (hi:i<sp.length) (h:16*(nth sp i).Page≤a∧a≤16*(nth sp i).Page+15):denotes sp la a=mh i (nth sp i) a:=by
 refine lz hi ((ff (hL.sok _ (ay hi))).2 h) fun j z hj hz=>?_
 cases e:cg z a with
 | false=>rfl
 | true=>
  exfalso
  have hjl:=(List.getElem?_eq_some_iff.1 hz).1
  have h2:=(ff (hL.sok z (List.mem_of_getElem? hz))).1 e
  have hzj:=bE hz
  subst hzj
  have:=kY (f:=(·.Page)) hL.nd hi hjl (by omega)
  omega
theorem HA {sp:List am} {la:List ah} (hL:rr sp la) {a:Int} (h:∀ i,i<sp.length→¬(16*(nth sp i).Page≤a∧a≤16*(nth sp i).Page+15)):∀ (j:Nat) (z:am),j<sp.length→sp[j]? = some z→cg z a=false:=by
 intro j z hj hz
 cases e:cg z a with
 | false=>rfl
 | true=>
  have h2:=(ff (hL.sok z (List.mem_of_getElem? hz))).1 e
  have hzj:=bE hz
  subst hzj
  exact absurd h2 (h j hj)
theorem EO {sp:List am} {la:List ah} (hL:rr sp la) (a:Int):a∈live0 sp la↔a∈gu sp la:=by
 have hS:a∈gu sp la↔∃ n:Nat,n<512∧iE sp la n=true∧(n:Int)=a:=by
  unfold gu jM
  simp only[List.mem_map,List.mem_filter,List.mem_range]
  constructor
  ·rintro⟨n,⟨h1,h2⟩,h3⟩;exact⟨n,h1,h2,h3⟩
  ·rintro⟨n,h1,h2,h3⟩;exact⟨n,⟨h1,h2⟩,h3⟩
 rw[hS]
 unfold live0 dX
 rw[List.mem_append,List.mem_flatMap,List.mem_map]
 constructor
 ·rintro(⟨s,hs,ha⟩|⟨l,hl,rfl⟩)
  ·obtain⟨i,hi,rfl⟩:=bH hs
   unfold d7 at ha
   obtain⟨k,hk,rfl⟩:=List.mem_map.1 ha
   obtain⟨hk1,hk2⟩:=List.mem_filter.1 hk
   have hk1:=List.mem_range.1 hk1
   have hc:=aU (hL.sok _ hs)
   have hsc:=v7 ⟨hc.2.2.1,hc.2.2.2⟩
   have hsb:=oG (nth sp i).Class
   unfold j7
   have hbd:0≤(k:Int)*csz (nth sp i).Class∧(k:Int)*csz (nth sp i).Class≤15:=by
    rcases d2 ⟨hc.2.2.1,hc.2.2.2⟩ with e|e|e|e<;>rw[e]at hsc ⊢<;>omega
   have hd:=fA hL hi (a:=16*(nth sp i).Page+(k:Nat)*csz (nth sp i).Class) (by omega)
   have hq:(16*(nth sp i).Page+(k:Nat)*csz (nth sp i).Class - 16*(nth sp i).Page) / csz (nth sp i).Class=(k:Nat)∧(16*(nth sp i).Page+(k:Nat)*csz (nth sp i).Class - 16*(nth sp i).Page) % csz (nth sp i).Class=0:=by
    rcases d2 ⟨hc.2.2.1,hc.2.2.2⟩ with e|e|e|e<;>rw[e]<;>omega
   refine⟨(16*(nth sp i).Page+(k:Nat)*csz (nth sp i).Class).toNat,by omega,?_,by omega⟩
   have hcast:(((16*(nth sp i).Page+(k:Nat)*csz (nth sp i).Class).toNat:Nat):Int)=16*(nth sp i).Page+(k:Nat)*csz (nth sp i).Class:=by omega
   unfold iE
   rw[hcast,hd]
   simp only[mh,hq.1,hq.2,hk2]
   rfl
  ·obtain⟨i,hi,rfl⟩:=bH hl
   have hf:=bn (hL.lok _ hl)
   have hf2:=dS (hL.lok _ hl)
   have h1:=HA hL (a:=16*(nth la i).Page) fun j hj he=>hL.dis _ (ay hj) _ hl 0 (by omega) (by omega)
   have hh:bi (nth la i) (16*(nth la i).Page)=true:=by
    unfold bi;rw[hL.lok _ hl,decide_eq_true (by omega)];rfl
   have hd:=kz (a:=16*(nth la i).Page) (Nat.le_refl _) h1 hi hh fun j z hj hz=>by
    cases e:bi z (16*(nth la i).Page) with
    | false=>rfl
    | true=>
     exfalso
     have hjl:=(List.getElem?_eq_some_iff.1 hz).1
     have hzm:=List.mem_of_getElem? hz
     have hzj:=bE hz
     subst hzj
     have hf3:=bn (hL.lok _ hzm)
     have hlo:=hL.lok _ hzm
     unfold cS at hlo
     rw[decide_eq_true_eq]at hlo
     unfold bi at e
     rw[Bool.and_eq_true,decide_eq_true_eq]at e
     have:=hL.one i j hi hjl 0 ((nth la i).Page - (nth la j).Page).toNat (by omega) (by omega) (by omega)
     omega
   refine⟨(16*(nth la i).Page).toNat,by omega,?_,by omega⟩
   have hcast:(((16*(nth la i).Page).toNat:Nat):Int)=16*(nth la i).Page:=by omega
   unfold iE
   rw[hcast,hd]
   simp
 ·rintro⟨n,hn,hl,rfl⟩
  cases h1:sp.findIdx? (cg · (n:Nat)) with
  | some i=>
   obtain⟨hi,hp,-⟩:=List.findIdx?_eq_some_iff_getElem.1 h1
   have hi':=bE (List.getElem?_eq_getElem hi)
   rw[←hi']at hp
   have hs:=hL.sok _ (ay hi)
   have h2:=(ff hs).1 hp
   have hc:=aU hs
   have hsc:=v7 ⟨hc.2.2.1,hc.2.2.2⟩
   have hd:denotes sp la (n:Nat)=mh i (nth sp i) (n:Nat):=by unfold denotes;rw[h1]
   rw[pb hd]at hl
   simp only[Bool.and_eq_true,Bool.or_eq_true,decide_eq_true_eq]at hl
   simp only[mh]at hl
   cases hh:cy (nth sp i).Bits (((n:Int) - 16*(nth sp i).Page) / csz (nth sp i).Class) with
   | false=>rw[hh]at hl;simp at hl
   | true=>
    have hz:((n:Int) - 16*(nth sp i).Page) % csz (nth sp i).Class=0:=hl.1
    refine .inl ⟨nth sp i,ay hi,?_⟩
    unfold d7
    refine List.mem_map.2 ⟨(((n:Int) - 16*(nth sp i).Page) / csz (nth sp i).Class).toNat,List.mem_filter.2 ⟨List.mem_range.2 ?_,?_⟩,?_⟩
    ·rcases d2 ⟨hc.2.2.1,hc.2.2.2⟩ with e|e|e|e<;>rw[e]at hsc hz ⊢<;>omega
    ·have:((((n:Int) - 16*(nth sp i).Page) / csz (nth sp i).Class).toNat:Int)=((n:Int) - 16*(nth sp i).Page) / csz (nth sp i).Class:=by
      rcases d2 ⟨hc.2.2.1,hc.2.2.2⟩ with e|e|e|e<;>rw[e]<;>omega
     rw[this];exact hh
    ·unfold j7
     rcases d2 ⟨hc.2.2.1,hc.2.2.2⟩ with e|e|e|e<;>rw[e]at hz ⊢<;>omega
  | none=>
   cases h2:la.findIdx? (bi · (n:Nat)) with
   | some i=>
    obtain⟨hi,hp,-⟩:=List.findIdx?_eq_some_iff_getElem.1 h2
    have hd:denotes sp la (n:Nat) = ⟨3,i,0,(n:Nat) - 16*(nth la i).Page⟩:=by unfold denotes;rw[h1,h2]
    rw[pb hd]at hl
    simp only[Bool.and_eq_true,decide_eq_true_eq]at hl
    exact .inr ⟨nth la i,ay hi,by have:=hl.1;omega⟩
   | none=>
    have hd:denotes sp la (n:Nat) = ⟨0,0,0,0⟩:=by unfold denotes;rw[h1,h2]
    rw[pb hd]at hl;simp at hl
end Go.Proofs.YtogajjgmcnjkbaaGreat.Ab
namespace Go.Proofs.YtogajjgmcnjkbaaGreat.Ab
theorem rD {sp:List am} {la:List ah} (hL:rr sp la) {a:Int} (h0:(denotes sp la a).Offset=0) (hk:(denotes sp la a).Kind=1∨(denotes sp la a).Kind=3):a∈gu sp la:=by
 have hb:0≤a∧a<512:=by
  unfold denotes at h0 hk
  cases h1:sp.findIdx? (cg · a) with
  | some i=>
   obtain⟨hi,hp,-⟩:=List.findIdx?_eq_some_iff_getElem.1 h1
   have hm:=List.getElem_mem hi
   have h2:=(ff (hL.sok _ hm)).1 hp
   have hc:=aU (hL.sok _ hm)
   omega
  | none=>
   rw[h1]at h0 hk
   cases h2:la.findIdx? (bi · a) with
   | some i=>
    obtain⟨hi,-⟩:=List.findIdx?_eq_some_iff_getElem.1 h2
    rw[h2]at h0
    have hf:=bn (hL.lok _ (ay hi))
    simp only at h0
    omega
   | none=>rw[h2]at hk;simp at hk
 have hc:((a.toNat:Nat):Int)=a:=by omega
 unfold gu jM
 refine List.mem_map.2 ⟨a.toNat,List.mem_filter.2 ⟨List.mem_range.2 (by omega),?_⟩,hc⟩
 unfold iE
 rw[hc]
 simp only[Bool.and_eq_true,Bool.or_eq_true,decide_eq_true_eq]
 exact⟨h0,hk⟩
theorem mn (sp:List am) (la:List ah):(gu sp la).Nodup:=by
 unfold gu jM List.Nodup
 rw[List.pairwise_map]
 exact(List.nodup_range.sublist List.filter_sublist).imp fun h e=>h (by omega)
theorem pV {h:ac} (hL:rr h.Spans h.Larges) {a c:Int} (hh:cM h a c=true):a∈gu h.Spans h.Larges:=by
 unfold cM at hh
 simp only[Bool.and_eq_true,decide_eq_true_eq]at hh
 exact rD hL hh.1.2 (.inl hh.1.1)
theorem Ft {h:ac} (hL:rr h.Spans h.Larges) {o:aM} (hh:iK h o=true):o.Addr∈gu h.Spans h.Larges:=by
 unfold iK at hh
 simp only[Bool.and_eq_true,Bool.or_eq_true,decide_eq_true_eq]at hh
 exact rD hL hh.1 (hh.2.elim (fun e=>.inl e.1) (fun e=>.inr e.1))
theorem Bh (h:ac) (a:Int):(kR h).count a=(holders h).count a:=by
 unfold kR holders
 simp only[List.count_append]
 omega
theorem jP (h:ac):fH h=true↔(h.Caches.all (dJ h)=true∧h.Quar.Lst.all (fC h)=true)∧(aX h.Mail).all (iS h)=true:=by
 unfold fH;simp only[Bool.and_eq_true]
theorem iJ {h:ac} (hL:rr h.Spans h.Larges) (ho:eg h=true) (hh:fH h=true):∀ a∈holders h,a∈gu h.Spans h.Larges:=by
 obtain⟨⟨h1,h2⟩,h3⟩:=(jP h).1 hh
 intro a ha
 unfold holders at ha
 simp only[List.mem_append]at ha
 rcases ha with((ha|ha)|ha)|ha
 ·obtain⟨o,hom,rfl⟩:=List.mem_map.1 ha
  obtain⟨i,hi,rfl⟩:=bH hom
  have h4:=eK ho hi
  unfold objAt at h4
  rw[Bool.and_eq_true]at h4
  exact Ft hL h4.2
 ·unfold eY at ha
  obtain⟨c,hc,ha⟩:=List.mem_flatMap.1 ha
  obtain⟨l,hl,ha⟩:=List.mem_flatten.1 ha
  obtain⟨k,hk,rfl⟩:=bH hl
  have h4:=List.all_eq_true.1 h1 c hc
  unfold dJ at h4
  have h5:=List.all_eq_true.1 (show(nth c.Lists k).all _=true from eK h4 hk) a ha
  exact pV hL h5
 ·obtain⟨x,hx,rfl⟩:=List.mem_map.1 ha
  exact pV hL (List.all_eq_true.1 h2 x hx)
 ·exact pV hL (List.all_eq_true.1 h3 a ha)
theorem Ed {h:ac} (hlay:bj h.Spans h.Larges=true) (ho:eg h=true):(iU h&&gj h)=gV h:=by
 have hL:=rr.of hlay
 have hq:(iU h=true∧h.Quar.Lst.all (fC h)=true)↔h.Quar.Lst.all (pd h)=true:=by
  unfold iU pd
  simp only[List.all_eq_true,Bool.and_eq_true]
  exact⟨fun e x hx=>⟨e.2 x hx,e.1 x hx⟩,fun e=>⟨fun x hx=>(e x hx).2,fun x hx=>(e x hx).1⟩⟩
 have hI:gV h=true↔((h.Caches.all (dJ h)=true∧h.Quar.Lst.all (pd h)=true)∧(aX h.Mail).all (iS h)=true)∧∀ a∈gu h.Spans h.Larges,(holders h).count a=1:=by
  unfold gV
  simp only[Bool.and_eq_true]
  refine and_congr Iff.rfl ?_
  simp only[List.all_eq_true,decide_eq_true_eq,Bh]
  unfold lT sorted
  simp only[List.mem_mergeSort,EO hL]
 have hSS:gj h=true↔fH h=true∧((holders h).Nodup∧(holders h).length=(gu h.Spans h.Larges).length):=by
  unfold gj
  simp only[Bool.and_eq_true,decide_eq_true_eq,and_assoc]
 rw[Bool.eq_iff_iff,Bool.and_eq_true,hI,hSS]
 constructor
 ·rintro⟨h1,h2,h3⟩
  obtain⟨⟨h4,h5⟩,h6⟩:=(jP h).1 h2
  exact⟨⟨⟨h4,hq.1 ⟨h1,h5⟩⟩,h6⟩,(va (mn ..) (iJ hL ho h2)).1 h3⟩
 ·rintro⟨⟨⟨h1,h2⟩,h3⟩,h4⟩
  obtain⟨h5,h6⟩:=hq.2 h2
  have h7:fH h=true:=(jP h).2 ⟨⟨h1,h6⟩,h3⟩
  exact⟨h5,h7,(va (mn ..) (iJ hL ho h7)).2 h4⟩
theorem pW (s t:am):meshable s t=meshable t s:=by
 unfold meshable
 rw[Bool.and_comm (b8 s)]
 congr 1
 refine decide_eq_decide.2 ?_
 rw[Nat.and_comm]
 exact⟨fun h=>⟨h.1.symm,fun e=>h.2.1 e.symm,h.2.2⟩,fun h=>⟨h.1.symm,fun e=>h.2.1 e.symm,h.2.2⟩⟩
theorem ed {t:aB} {f:Int} {p:Nat} : (p:Int)∈cj t f↔p<t.Entries.length∧(nth t.Entries p).Mode≠0∧(nth t.Entries p).Frame=f:=by
 unfold cj jq
 simp only[List.mem_map,List.mem_filter,List.mem_range]
 constructor
 ·rintro⟨n,⟨h1,h2⟩,h3⟩
  obtain rfl:n=p:=by omega
  unfold G6 at h2
  rw[decide_eq_true_eq]at h2
  exact⟨h1,h2⟩
 ·rintro⟨h1,h2⟩
  exact⟨p,⟨h1,by unfold G6;rw[decide_eq_true_eq];exact h2⟩,rfl⟩
theorem qZ {t:aB} {f q:Int} (h:q∈cj t f):∃ p:Nat,q=(p:Nat):=by
 unfold cj jq at h
 obtain⟨n,-,rfl⟩:=List.mem_map.1 h
 exact⟨n,rfl⟩
theorem pe {h:ac} (hp:pages0 h=true):(∀ i,i<h.Larges.length→∀ k:Nat,k<(nth h.Larges i).Pages.toNat→(bc h ((nth h.Larges i).Page+(k:Nat))).length=1)∧(∀ p∈pgs h.Spans h.Larges,p<eP h)∧∀ p:Nat,p<eP h→((nth (tbl h).Entries p).Mode≠0↔(p:Int)∈pgs h.Spans h.Larges):=by
 unfold pages0 at hp
 simp only[Bool.and_eq_true]at hp
 obtain⟨⟨⟨-,h1⟩,h2⟩,h3⟩:=hp
 refine⟨fun i hi k hk=>?_,fun p hp=>?_,fun p hp=>?_⟩
 ·have h4:=eK h1 hi
  unfold oX at h4
  rw[Bool.and_eq_true]at h4
  have h5:=eK h4.2 hk
  unfold sg at h5
  rw[decide_eq_true_eq]at h5
  exact h5
 ·have:=List.all_eq_true.1 h2 p hp
  rw[decide_eq_true_eq]at this
  exact this
 ·have h4:=eK h3 hp
  unfold rg at h4
  rw[Bool.and_eq_true,decide_eq_true_eq]at h4
  exact h4.1
theorem sj {h:ac} {p:Nat} (hp:p<eP h):aF (tbl h) (p:Nat)=nth (tbl h).Entries p:=k5 hp
theorem f9 {h:ac} {p:Nat} (hp:p<eP h) (hm:(nth (tbl h).Entries p).Mode≠0):bc h (p:Nat)=cj (tbl h) (nth (tbl h).Entries p).Frame:=by
 unfold bc
 rw[show h.Kernel.Machine.Table=tbl h from rfl,sj hp,if_neg hm]
theorem pJ {h:ac} (hL:rr h.Spans h.Larges) {j:Nat} (hj:j<h.Spans.length):eX h (nth h.Spans j).Page=(j:Nat):=by
 unfold eX
 refine fj (au hj) (by unfold iA;simp) fun k z hk hz=>?_
 have hzk:=bE hz
 have hkl:=(List.getElem?_eq_some_iff.1 hz).1
 subst hzk
 unfold iA
 refine decide_eq_false fun e=>?_
 have:=kY (f:=(·.Page)) hL.nd hkl hj e
 omega
theorem qu {h:ac} (hlay:bj h.Spans h.Larges=true) (hp:pages0 h=true):rb h=lU h:=by
 have hL:=rr.of hlay
 obtain⟨f1,f2,f3⟩:=pe hp
 have hpg:∀ i,i<h.Spans.length→∃ p:Nat,(nth h.Spans i).Page=(p:Nat)∧p<eP h∧(nth (tbl h).Entries p).Mode≠0:=fun i hi=>by
  have hc:=aU (hL.sok _ (ay hi))
  have hm:(nth h.Spans i).Page∈pgs h.Spans h.Larges:=by
   unfold pgs;exact List.mem_append.2 (.inl (List.mem_map.2 ⟨_,ay hi,rfl⟩))
  have hlt:=f2 _ hm
  refine⟨(nth h.Spans i).Page.toNat,by omega,by omega,?_⟩
  refine(f3 _ (by omega)).2 ?_
  rw[show(((nth h.Spans i).Page.toNat:Nat):Int)=(nth h.Spans i).Page by omega]
  exact hm
 rw[Bool.eq_iff_iff]
 unfold rb lU
 rw[co,co]
 constructor
 ·intro hs i hi
  rw[co]
  intro j hj
  have hjl:j<h.Spans.length:=by omega
  unfold jp
  rw[Bool.or_eq_true,decide_eq_true_eq]
  by_cases hfr:(aF (tbl h) (nth h.Spans i).Page).Frame=(aF (tbl h) (nth h.Spans j).Page).Frame
  ·right
   obtain⟨p,hp1,hp2,hp3⟩:=hpg i hi
   obtain⟨q,hq1,hq2,hq3⟩:=hpg j hjl
   have h1:=List.all_eq_true.1 (hs i hi)
   rw[hp1,hq1,sj hp2,sj hq2]at hfr
   have h2:(q:Int)∈bc h (nth h.Spans i).Page:=by
    rw[hp1,f9 hp2 hp3]
    exact ed.2 ⟨hq2,hq3,hfr.symm⟩
   have h3:=h1 _ h2
   unfold ke at h3
   rw[←hq1,pJ hL hjl]at h3
   rw[Bool.or_eq_true,Bool.and_eq_true,decide_eq_true_eq]at h3
   rcases h3 with h3|h3
   ·omega
   ·simpa using h3.2
  ·exact .inl hfr
 ·intro hi0 i hi
  rw[List.all_eq_true]
  intro q hq
  obtain⟨p,hp1,hp2,hp3⟩:=hpg i hi
  have hq0:=hq
  rw[hp1,f9 hp2 hp3]at hq
  obtain⟨q',rfl⟩:=qZ hq
  obtain⟨hq2,hq3,hq4⟩:=ed.1 hq
  have hqm:=(f3 q' hq2).1 hq3
  unfold pgs at hqm
  rw[List.mem_append,List.mem_map,List.mem_flatMap]at hqm
  rcases hqm with⟨s,hs,hsp⟩|⟨l,hl,hlp⟩
  ·obtain⟨j,hj,rfl⟩:=bH hs
   unfold ke
   rw[←hsp,pJ hL hj]
   rw[Bool.or_eq_true,Bool.and_eq_true,decide_eq_true_eq,decide_eq_true_eq]
   have hfr:(aF (tbl h) (nth h.Spans i).Page).Frame=(aF (tbl h) (nth h.Spans j).Page).Frame:=by
    rw[hp1,hsp,sj hp2,sj hq2,hq4]
   rcases Nat.lt_trichotomy j i with hlt|heq|hlt
   ·have h1:=eK (hi0 i hi) hlt
    unfold jp at h1
    rw[Bool.or_eq_true,decide_eq_true_eq]at h1
    exact .inr ⟨by omega,by simpa using h1.resolve_left fun e=>e hfr⟩
   ·exact .inl (by omega)
   ·have h1:=eK (hi0 j hj) hlt
    unfold jp at h1
    rw[Bool.or_eq_true,decide_eq_true_eq]at h1
    exact .inr ⟨by omega,by rw[pW];simpa using h1.resolve_left fun e=>e hfr.symm⟩
  ·exfalso
   obtain⟨i2,hi2,rfl⟩:=bH hl
   obtain⟨k,hk,hkp⟩:=ey.1 hlp
   have h1:=f1 i2 hi2 k hk
   rw[←hkp,f9 hq2 hq3]at h1
   have m1:(q':Int)∈cj (tbl h) (nth (tbl h).Entries q').Frame:=ed.2 ⟨hq2,hq3,rfl⟩
   have m2:(p:Int)∈cj (tbl h) (nth (tbl h).Entries q').Frame:=ed.2 ⟨hp2,hp3,hq4.symm⟩
   obtain⟨z,hz⟩:=List.length_eq_one_iff.1 h1
   rw[hz]at m1 m2
   simp only[List.mem_singleton]at m1 m2
   have:=hL.dis _ (ay hi) _ (ay hi2) k hk
   omega
theorem qv (h:ac):iH h=dY h:=by
 unfold iH dY kb
 cases e1:bf h.Kernel with
 | false=>rfl
 | true=>
  cases e2:b7 (eP h) h.Free with
  | false=>rfl
  | true=>
   cases e3:bj h.Spans h.Larges with
   | false=>rfl
   | true=>
    cases e4:pages0 h with
    | false=>rfl
    | true=>
     rw[qu e3 e4]
     cases e5:eg h with
     | false=>simp
     | true=>
      have:=Ed e3 e5
      rw[←this]
      cases lU h<;>cases cI h<;>cases iU h<;>cases h.Caches.all bw<;>cases eV h<;>cases gj h<;>cases n5 h<;>rfl
end Go.Proofs.YtogajjgmcnjkbaaGreat.Ab
namespace Go.Proofs.YtogajjgmcnjkbaaGreat.Ab
def gN (k:ao) (f:Int):ao:=if(cj k.Machine.Table f).length=0 then {k with Machine:=⟨⟨k.Machine.Frames.Cells.set f.toNat (List.replicate 16 0),k.Machine.Frames.Used.set f.toNat false⟩,k.Machine.Table⟩} else k
def kT (k:ao) (p:Int):ao:={k with Machine:=⟨k.Machine.Frames,⟨k.Machine.Table.Entries.set p.toNat ⟨0,0⟩⟩⟩}
def cX (k:ao) (p:Int):ao:=if(aF k.Machine.Table p).Mode=0 then k else gN (kT k p) (aF k.Machine.Table p).Frame
theorem iI {α:Type} [Inhabited α] (xs:List α) (i j:Nat) (x:α):nth (xs.set i x) j=if i=j∧j<xs.length then x else nth xs j:=by
 unfold nth
 rw[List.getD_eq_getElem?_getD,List.getD_eq_getElem?_getD,List.getElem?_set]
 by_cases h:i=j
 ·subst h
  by_cases h2:i<xs.length
  ·simp[h2]
  ·simp[h2]
 ·simp[h]
theorem uQ (k:ao) (f:Int):(gN k f).Machine.Table=k.Machine.Table∧(gN k f).Calls=k.Calls∧(gN k f).Refuse=k.Refuse∧(gN k f).Machine.Frames.Cells.length=k.Machine.Frames.Cells.length∧(gN k f).Machine.Frames.Used.length=k.Machine.Frames.Used.length:=by
 unfold gN;split<;>simp
theorem oo (k:ao) (p:Int):(cX k p).Machine.Table.Entries.length=k.Machine.Table.Entries.length∧(cX k p).Calls=k.Calls∧(cX k p).Refuse=k.Refuse:=by
 unfold cX
 split
 ·exact⟨rfl,rfl,rfl⟩
 ·obtain⟨h1,h2,h3,-⟩:=uQ (kT k p) (aF k.Machine.Table p).Frame
  rw[h1,h2,h3];simp[kT]
theorem bG {k:ao} : bf k=true↔(∀ j,j<k.Refuse.length→0≤nth k.Refuse j)∧dn k.Machine.Frames=true∧fm k.Machine.Table k.Machine.Frames.Used.length=true∧(∀ j,j<k.Machine.Frames.Used.length→nth k.Machine.Frames.Used j=decide (0<(cj k.Machine.Table (j:Int)).length))∧0≤k.Calls∧k.Calls≤100000∧k.Refuse.length≤40:=by
 unfold bf d3
 simp only[Bool.and_eq_true,co,decide_eq_true_eq,mf,beq_iff_eq,and_assoc]
theorem d8 {f:aC} : dn f=true↔1≤f.Cells.length∧f.Cells.length≤32∧f.Used.length=f.Cells.length∧∀ j,j<f.Cells.length→j9 (nth f.Cells j) (nth f.Used j)=true:=by
 unfold dn
 simp only[Bool.and_eq_true,decide_eq_true_eq,List.all_eq_true,and_assoc]
 refine and_congr Iff.rfl (and_congr Iff.rfl (and_congr_right fun hu=>⟨fun h j hj=>?_,fun h q hq=>?_⟩))
 ·exact h _ (List.mem_of_getElem? (rC (au hj) (au (by omega))))
 ·obtain⟨j,hj⟩:=List.mem_iff_getElem?.1 hq
  obtain⟨h1,h2⟩:=List.getElem?_zip_eq_some.1 hj
  have:=h j (List.getElem?_eq_some_iff.1 h1).1
  rwa [bE h1,bE h2]at this
theorem eb {t:aB} {fr:Int} : fm t fr=true↔(∀ j,j<t.Entries.length→sF fr (nth t.Entries j)=true)∧1≤t.Entries.length∧t.Entries.length≤32:=by
 unfold fm
 simp only[Bool.and_eq_true,co,decide_eq_true_eq]
theorem qM {t:aB} {f:Int} : 0<(cj t f).length↔∃ q,q<t.Entries.length∧(nth t.Entries q).Mode≠0∧(nth t.Entries q).Frame=f:=by
 unfold cj jq
 rw[List.length_map,List.length_pos_iff_exists_mem]
 simp[G6]
theorem nk {k:ao} {p:Int} (h:bf k=true) (hm:(aF k.Machine.Table p).Mode≠0):0≤p∧p<k.Machine.Table.Entries.length∧aF k.Machine.Table p=nth k.Machine.Table.Entries p.toNat∧0≤(aF k.Machine.Table p).Frame∧(aF k.Machine.Table p).Frame<k.Machine.Frames.Used.length:=by
 obtain⟨-,-,h3,-⟩:=bG.1 h
 have hp:0≤p∧p<k.Machine.Table.Entries.length:=by
  by_cases hp:0≤p∧p<k.Machine.Table.Entries.length
  ·exact hp
  ·unfold aF at hm;rw[if_neg hp]at hm;exact absurd rfl hm
 have he:aF k.Machine.Table p=nth k.Machine.Table.Entries p.toNat:=by unfold aF;rw[if_pos hp]
 have:=(eb.1 h3).1 p.toNat (by omega)
 rw[he]at hm ⊢
 unfold sF at this
 rw[decide_eq_true_eq]at this
 exact⟨hp.1,hp.2,rfl,this.2.2.2 hm⟩
theorem sf {k:ao} (p:Int) (h:bf k=true):bf (cX k p)=true:=by
 unfold cX
 split
 ·exact h
 rename_i hm
 obtain⟨hp0,hp1,he,hf0,hf1⟩:=nk h hm
 obtain⟨h1,h2,h3,h4,h5,h6,h7⟩:=bG.1 h
 obtain⟨g1,g2,g3,g4⟩:=d8.1 h2
 obtain⟨t1,t2,t3⟩:=eb.1 h3
 rw[he]at hm hf0 hf1 ⊢
 generalize hfe:(nth k.Machine.Table.Entries p.toNat).Frame=f at hf0 hf1
 have hent:∀ q,nth (k.Machine.Table.Entries.set p.toNat ⟨0,0⟩) q=if p.toNat=q then⟨0,0⟩ else nth k.Machine.Table.Entries q:=fun q=>by
  rw[iI]
  by_cases hq:p.toNat=q
  ·rw[if_pos ⟨hq,by omega⟩,if_pos hq]
  ·rw[if_neg (fun e=>hq e.1),if_neg hq]
 have hpos:∀ j:Int,0<(cj (⟨k.Machine.Table.Entries.set p.toNat ⟨0,0⟩⟩ : aB) j).length↔∃ q,q<k.Machine.Table.Entries.length∧q≠p.toNat∧(nth k.Machine.Table.Entries q).Mode≠0∧(nth k.Machine.Table.Entries q).Frame=j:=fun j=>by
  rw[qM]
  simp only[List.length_set,hent]
  grind
 have hold:∀ j:Int,0<(cj k.Machine.Table j).length↔∃ q,q<k.Machine.Table.Entries.length∧(nth k.Machine.Table.Entries q).Mode≠0∧(nth k.Machine.Table.Entries q).Frame=j:=fun j=>qM
 have htab:fm ⟨k.Machine.Table.Entries.set p.toNat ⟨0,0⟩⟩ k.Machine.Frames.Used.length=true:=by
  rw[eb]
  simp only[List.length_set,hent]
  refine⟨fun j hj=>?_,t2,t3⟩
  split
  ·unfold sF;simp
  ·exact t1 j hj
 unfold gN
 split
 ·rename_i hz
  rw[bG]
  simp only[kT,List.length_set]at hz ⊢
  refine⟨h1,?_,htab,fun j hj=>?_,h5,h6,h7⟩
  ·rw[d8]
   simp only[List.length_set,iI]
   refine⟨g1,g2,g3,fun j hj=>?_⟩
   by_cases hjf:f.toNat=j
   ·rw[if_pos ⟨hjf,hj⟩,if_pos ⟨hjf,by omega⟩];decide
   ·rw[if_neg (fun e=>hjf e.1),if_neg (fun e=>hjf e.1)];exact g4 j hj
  ·rw[iI]
   by_cases hjf:f.toNat=j
   ·rw[if_pos ⟨hjf,hj⟩]
    have:(j:Int)=f:=by omega
    rw[this];exact(decide_eq_false fun hh=>absurd hz (Nat.ne_of_gt hh)).symm
   ·rw[if_neg (fun e=>hjf e.1),h4 j hj]
    refine decide_eq_decide.2 ?_
    rw[hold,hpos]
    grind
 ·rename_i hz
  rw[bG]
  simp only[kT]at hz ⊢
  refine⟨h1,h2,htab,fun j hj=>?_,h5,h6,h7⟩
  rw[h4 j hj]
  refine decide_eq_decide.2 ?_
  by_cases hjf:f=j
  ·have h0:0<(cj (⟨k.Machine.Table.Entries.set p.toNat ⟨0,0⟩⟩ : aB) j).length:=by rw[←hjf];exact Nat.pos_of_ne_zero hz
   have:=(hpos j).1 h0
   constructor
   ·intro _;exact h0
   ·intro _;rw[hold];grind
  ·rw[hold,hpos];grind
theorem fp {k:ao} (h:bf k=true):ao.sml k:=by
 obtain⟨h1,h2,h3,h4,h5,h6,h7⟩:=bG.1 h
 obtain⟨g1,g2,g3,g4⟩:=d8.1 h2
 obtain⟨t1,t2,t3⟩:=eb.1 h3
 refine⟨⟨⟨⟨by omega,fun r hr=>?_⟩,(by omega:_≤1048576)⟩,⟨by omega,fun e _=>trivial⟩⟩,(by omega:_≤1048576)⟩
 obtain⟨j,hj⟩:=List.mem_iff_getElem?.1 hr
 have:=g4 j (List.getElem?_eq_some_iff.1 hj).1
 rw[bE hj]at this
 unfold j9 at this
 simp only[Bool.and_eq_true,decide_eq_true_eq]at this
 show r.length≤1048576
 omega
end Go.Proofs.YtogajjgmcnjkbaaGreat.Ab
namespace Go.Proofs.YtogajjgmcnjkbaaGreat.Ab
open Go.RowKit
set_option maxRecDepth 20000
set_option maxHeartbeats 4000000
theorem Ap.cp {α:Type} {e:α→List C} {xs:List α} {sz by_:Nat} {K:List (List C)→Prop} (h2:∀ x,(e x).length=sz) (h3:∀ x,aQ (e x)=true) (hl:xs.length≤1048576) (hb:by_≤1000) (hK:K (xs.map e)):Ap true [] (xs.map e) sz by_ K:=
 Ap.mk (fun r hr=>by cases hr) (fun r hr=>by obtain⟨y,-,rfl⟩:=List.mem_map.1 hr;exact h2 y) (fun _ r hr=>by obtain⟨y,-,rfl⟩:=List.mem_map.1 hr;exact h3 y) (by simp;omega) (by simp only[List.length_map,List.length_nil,Nat.zero_add];exact tO hl hb) rfl hK
theorem Fl.cp {α:Type} {e:α→List C} {xs:List α} {sz by_:Nat} {X:Prop} (h2:∀ x,(e x).length=sz) (h3:∀ x,aQ (e x)=true) (hl:xs.length≤1048576) (hb:by_≤1000) (hK:X):Fl (xs.map e) sz by_ X:=
 Fl.mk (fun r hr=>by obtain⟨y,-,rfl⟩:=List.mem_map.1 hr;exact⟨h2 y,h3 y⟩) (by simp;omega) (by simp only[List.length_map];exact tO hl hb) hK
theorem Ap.sn {rows rs:List (List C)} {r:List C} {sz by_:Nat} {K:List (List C)→Prop} (h1:∀ r∈rows,r.length=sz) (h2:r.length=sz) (hl:rows.length+1≤1048576) (hb:by_≤1000) (hr:rs=rows++[r]) (hK:K rs):Ap false rows [r] sz by_ K:=
 Ap.mk h1 (fun r' hr=>by rw[List.mem_singleton.1 hr];exact h2) (fun h=>by cases h) (by simp;omega) (tO (by simpa using hl) hb) hr hK
theorem gI (xs:List Int) (hl:xs.length≤1048576):af Tryz.prog 246 false [.val none (aI .imm xs)] .one (aI .own xs):=by
 refine fO (n:=6) [] Tryz.func246 (by kernel_rfl) rfl (by kernel_rfl) (by rfl) (.inr (bZ _)) ?_
 repeat'((conv=>whnf);first|with_reducible (first|refine Lm ?_|refine Wm (by omega) ?_|refine Bn ?_|refine Fm rfl ?_)|refine Bt ?_|refine Bu ?_|refine Ap.cp (fun _=>rfl) (fun _=>rfl) hl (by decide) ?_)
 rfl
theorem xv (t:aB) (hs:aB.sml t):af Tryz.prog 299 false [.val (some 1) (aB.enc .imm t)] .agg (aB.enc .own t):=by
 have hl:=hs.1
 refine fO (n:=8) [] Tryz.func299 (by kernel_rfl) rfl (by kernel_rfl) (by rfl) (.inr (aB.enc_fr _)) ?_
 repeat'((conv=>whnf);first|with_reducible (first|refine Lm ?_|refine Wm (by omega) ?_|refine Bn ?_|refine Fm rfl ?_)|refine Bt ?_|refine Bu ?_|refine Ap.cp (fun _=>rfl) (fun _=>rfl) hl (by decide) ?_)
 rfl
theorem rN (t:aB) (hs:aB.sml t):af Tryz.prog 319 false [.val (some 1) (aB.enc .imm t)] .agg (aB.enc .own t):=by
 have hl:=hs.1
 refine fO (n:=8) [] Tryz.func319 (by kernel_rfl) rfl (by kernel_rfl) (by rfl) (.inr (aB.enc_fr _)) ?_
 repeat'((conv=>whnf);first|with_reducible (first|refine Lm ?_|refine Wm (by omega) ?_|refine Bn ?_|refine Fm rfl ?_)|refine Bt ?_|refine Bu ?_|refine Ap.cp (fun _=>rfl) (fun _=>rfl) hl (by decide) ?_)
 rfl
theorem bl {α:Type} {e:α→List C} {l:List α} {n:Nat} (h:∀ x,(e x).length=n):∀ r∈l.map e,r.length=n:=fun r hr=>by
 obtain⟨y,-,rfl⟩:=List.mem_map.1 hr;exact h y
theorem eH {α β:Type} [Inhabited α] {xs:List α} {f:α→β} {i:Nat} (hi:i<xs.length):(xs.take (i+1)).map f=(xs.take i).map f++[f (nth xs i)]:=by
 rw[List.take_add_one,au hi];simp
theorem wE (f:aC) (hs:aC.sml f):af Tryz.prog 298 false [.val (some 2) (aC.enc .imm f)] .agg (aC.enc .own f):=by
 have hl:=hs.1.1
 have hu:f.Used.length≤1048576:=hs.2
 refine fO (n:=30) [(5,10,[17,18,19,20,21,22,23,24,25,26])] Tryz.func298 (by kernel_rfl) rfl (by kernel_rfl) (by rfl) (.inr (aC.enc_fr _)) ?_
 repeat'((conv=>whnf);first|with_reducible (first|refine Lm ?_|refine Wm (by omega) ?_|refine Bn ?_|refine Fm rfl ?_)|refine Bt ?_|refine Bu ?_|refine Ap.cp (fun _=>rfl) (fun _=>rfl) hu (by decide) ?_)
 (conv=>whnf)
 refine Lp.mk (ι:=Nat) (fun i=>[(1,.hold .box (aC.enc .imm f)),(2,.hold .box [.z,.z]),(3,.hold .box [.s .own ((f.Cells.take i).map (aI .own)),.s .own (f.Used.map (rB .own))]),(4,.hold .one [I ((i:Nat):Int)])]) (fun i=>i≤f.Cells.length) (fun i=>f.Cells.length - i) (0) ?_ (Nat.zero_le _) fun i hi=>?_
 ·repeat'(first|exact trivial|rfl|refine And.intro ?_ ?_|(exact bQ (by first|omega|(simp only;omega)|(simp;omega))))
 by_cases li:i<f.Cells.length
 ·have hx:=au li
  have hxl:(nth f.Cells i).length≤1048576:=hs.1.2 _ (ay li)
  repeat'((conv=>whnf);first|with_reducible (first|refine Lm ?_|refine Wm (by omega) ?_|refine Ix.nat (aa hx) ?_|refine dT (by omega) (fun hq=>?_)|refine Bn ?_|refine Fm rfl ?_)|refine Bt ?_|refine Bu ?_|refine Fl.cp (fun _=>rfl) (fun _=>rfl) hxl (by decide) ?_|refine Ap.sn (bl fun _=>rfl) rfl (by simp;omega) (by decide) (eH li) ?_)
  ((conv=>whnf);refine Nx.mk (i+1) (by omega) (by omega) ?_;(repeat'(first|exact trivial|rfl|refine And.intro ?_ ?_|(exact bQ (by first|omega|(simp only;omega)|(simp;omega))))))
 ·repeat'((conv=>whnf);first|with_reducible (first|refine Lm ?_|refine Wm (by omega) ?_|refine dF (by omega) (fun hq=>?_)|refine Bn ?_|refine Fm rfl ?_)|refine Bt ?_|refine Bu ?_)
  obtain rfl:i=f.Cells.length:=by omega
  rw[List.take_length]
  rfl
theorem rh (f:aC) (hs:aC.sml f):af Tryz.prog 318 false [.val (some 2) (aC.enc .imm f)] .agg (aC.enc .own f):=by
 have hl:=hs.1.1
 have hu:f.Used.length≤1048576:=hs.2
 refine fO (n:=27) [(5,5,[18,19,20,21,22])] Tryz.func318 (by kernel_rfl) rfl (by kernel_rfl) (by rfl) (.inr (aC.enc_fr _)) ?_
 repeat'((conv=>whnf);first|with_reducible (first|refine Lm ?_|refine Wm (by omega) ?_|refine Bn ?_|refine Fm rfl ?_)|refine Bt ?_|refine Bu ?_|refine Ap.cp (fun _=>rfl) (fun _=>rfl) hu (by decide) ?_)
 (conv=>whnf)
 refine Lp.mk (ι:=Nat) (fun i=>[(2,.hold .box [.z,.z]),(3,.hold .box [.s .own ((f.Cells.take i).map (aI .own)),.s .own (f.Used.map (rB .own))]),(12,.hold .one (d5 .imm f.Cells)),(13,.hold .one [I (f.Cells.length)]),(14,.hold .one [I ((i:Nat):Int)])]) (fun i=>i≤f.Cells.length) (fun i=>f.Cells.length - i) (0) ?_ (Nat.zero_le _) fun i hi=>?_
 ·repeat'(first|exact trivial|rfl|refine And.intro ?_ ?_|(exact bQ (by first|omega|(simp only;omega)|(simp;omega))))
 by_cases li:i<f.Cells.length
 ·have hx:=au li
  have hxl:(nth f.Cells i).length≤1048576:=hs.1.2 _ (ay li)
  repeat'((conv=>whnf);first|with_reducible (first|refine Lm ?_|refine Wm (by omega) ?_|refine Ix.nat (aa hx) ?_|refine dT (by omega) (fun hq=>?_)|refine Bn ?_|refine Fm rfl ?_)|refine Bt ?_|refine Bu ?_|refine Cl.mk (gI (nth f.Cells i) hxl) ?_|refine Ap.sn (bl fun _=>rfl) rfl (by simp;omega) (by decide) (eH li) ?_)
  ((conv=>whnf);refine Nx.mk (i+1) (by omega) (by omega) ?_;(repeat'(first|exact trivial|rfl|refine And.intro ?_ ?_|(exact bQ (by first|omega|(simp only;omega)|(simp;omega))))))
 ·repeat'((conv=>whnf);first|with_reducible (first|refine Lm ?_|refine Wm (by omega) ?_|refine dF (by omega) (fun hq=>?_)|refine Bn ?_|refine Fm rfl ?_)|refine Bt ?_|refine Bu ?_)
  obtain rfl:i=f.Cells.length:=by omega
  rw[List.take_length]
  rfl
theorem xt (m:aA) (hs:aA.sml m):af Tryz.prog 217 false [.val (some 3) (aA.enc .imm m)] .agg (aA.enc .own m):=by
 refine fO (n:=10) [(1,5,[3,4,5,6,7])] Tryz.func217 (by kernel_rfl) rfl (by kernel_rfl) (by rfl) (.inr (aA.enc_fr _)) ?_
 repeat'((conv=>whnf);first|with_reducible (first|refine Lm ?_|refine Wm (by omega) ?_|refine Bn ?_|refine Fm rfl ?_)|refine Bt ?_|refine Bu ?_|refine Cl.mk (wE m.Frames hs.1) ?_|refine Cl.mk (xv m.Table hs.2) ?_)
 rfl
theorem qe (m:aA) (hs:aA.sml m):af Tryz.prog 245 false [.val (some 3) (aA.enc .imm m)] .agg (aA.enc .own m):=by
 refine fO (n:=10) [(1,5,[3,4,5,6,7])] Tryz.func245 (by kernel_rfl) rfl (by kernel_rfl) (by rfl) (.inr (aA.enc_fr _)) ?_
 repeat'((conv=>whnf);first|with_reducible (first|refine Lm ?_|refine Wm (by omega) ?_|refine Bn ?_|refine Fm rfl ?_)|refine Bt ?_|refine Bu ?_|refine Cl.mk (rh m.Frames hs.1) ?_|refine Cl.mk (rN m.Table hs.2) ?_)
 rfl
theorem wh (k:ao) (hs:ao.sml k):af Tryz.prog 102 false [.val (some 5) (ao.enc .imm k)] .agg (ao.enc .own k):=by
 have hr:k.Refuse.length≤1048576:=hs.2
 refine fO (n:=13) [(1,9,[3,4,5,6,7,8,9,10,11])] Tryz.func102 (by kernel_rfl) rfl (by kernel_rfl) (by rfl) (.inr (ao.enc_fr _)) ?_
 repeat'((conv=>whnf);first|with_reducible (first|refine Lm ?_|refine Wm (by omega) ?_|refine Bn ?_|refine Fm rfl ?_)|refine Bt ?_|refine Bu ?_|refine Cl.mk (xt k.Machine hs.1) ?_|refine Fl.cp (fun _=>rfl) (fun _=>rfl) hr (by decide) ?_)
 rfl
theorem lR (k:ao) (hs:ao.sml k):af Tryz.prog 131 false [.val (some 5) (ao.enc .imm k)] .agg (ao.enc .own k):=by
 refine fO (n:=12) [(1,8,[3,4,5,6,7,8,9,10])] Tryz.func131 (by kernel_rfl) rfl (by kernel_rfl) (by rfl) (.inr (ao.enc_fr _)) ?_
 repeat'((conv=>whnf);first|with_reducible (first|refine Lm ?_|refine Wm (by omega) ?_|refine Bn ?_|refine Fm rfl ?_)|refine Bt ?_|refine Bu ?_|refine Cl.mk (qe k.Machine hs.1) ?_|refine Cl.mk (gI k.Refuse hs.2) ?_)
 rfl
end Go.Proofs.YtogajjgmcnjkbaaGreat.Ab
namespace Go.Proofs.YtogajjgmcnjkbaaGreat.Ab
open Go.RowKit
set_option maxRecDepth 20000
set_option maxHeartbeats 4000000
theorem yL (k:ao) (hs:ao.sml k):af Tryz.prog 27 false [.val (some 5) (ao.enc .imm k)] .one [B (bf k&&decide (k.Calls<100000))]:=by
 have h1:=nC k hs
 cases e:bf k<;>rw[e]at h1
 ·refine fO (n:=10) [] Tryz.func27 (by kernel_rfl) rfl (by kernel_rfl) (by rfl) (.inr ⟨trivial,trivial⟩) ?_
  repeat'((conv=>whnf);first|with_reducible (first|refine Lm ?_|refine Wm (by omega) ?_|refine Bf.D (fun hq=>?_) (fun hq=>?_)|refine Bn ?_|refine Fm rfl ?_)|refine Bt ?_|refine Bu ?_|refine Cl.mk (h1) ?_)
  all_goals rfl
 ·refine fO (n:=10) [] Tryz.func27 (by kernel_rfl) rfl (by kernel_rfl) (by rfl) (.inr ⟨trivial,trivial⟩) ?_
  repeat'((conv=>whnf);first|with_reducible (first|refine Lm ?_|refine Wm (by omega) ?_|refine Bn ?_|refine Fm rfl ?_)|refine Bt ?_|refine Bu ?_|refine Cl.mk (h1) ?_)
  all_goals rfl
theorem wY (k:ao) (hs:ao.sml k):af Tryz.prog 248 false [.val (some 5) (ao.enc .imm k)] .one [B (decide (k.Calls≠100000)&&bf k)]:=by
 have h1:=nI k hs
 refine fO (n:=10) [] Tryz.func248 (by kernel_rfl) rfl (by kernel_rfl) (by rfl) (.inr ⟨trivial,trivial⟩) ?_
 repeat'((conv=>whnf);first|with_reducible (first|refine Lm ?_|refine Wm (by omega) ?_|refine Bf.N (fun hq=>?_) (fun hq=>?_)|refine Bf.D (fun hq=>?_) (fun hq=>?_)|refine Bn ?_|refine Fm rfl ?_)|refine Bt ?_|refine Bu ?_|refine Cl.mk (h1) ?_)
 all_goals(exact congrArg (fun z=>[B z]) ((by simp[*])))
theorem v6 {k:ao} {f:Int} (h:(cj k.Machine.Table f).length=0):ao.enc .own (gN k f)=[.s .own ((k.Machine.Frames.Cells.map (aI .own)).set f.toNat (aI .own (List.replicate 16 0))),.s .own ((k.Machine.Frames.Used.map (rB .own)).set f.toNat (rB .own false)),.s .own (k.Machine.Table.Entries.map (aE.enc .own)),I k.Calls,.s .own (k.Refuse.map (rI .own))]:=by
 unfold gN;rw[if_pos h];simp only[ao.enc,List.map_set]
theorem zf {k:ao} {f:Int} (h:¬(cj k.Machine.Table f).length=0):ao.enc .own (gN k f)=ao.enc .own k:=by
 unfold gN;rw[if_neg h]
theorem x4 (k:ao) (f:Int) (hs:aB.sml k.Machine.Table) (hf:0≤f∧f<k.Machine.Frames.Cells.length∧f<k.Machine.Frames.Used.length) :
  bm Tryz.prog 249 false [.ptr (ao.enc .own k),.val none [I f]] [.ptr (ao.enc .own (gN k f)),.val none [I f]] (.tup []) []:=by
 have h1:=au (xs:=k.Machine.Frames.Cells) (i:=f.toNat) (by omega)
 have h2:=au (xs:=k.Machine.Frames.Used) (i:=f.toNat) (by omega)
 by_cases hz:(cj k.Machine.Table f).length=0
 ·rw[v6 hz]
  refine bL (n:=30) (mo:=[]) (tb:=[(2,8,[21,22,23,24,25,26,27,28])]) [(0,0),(0,0)] Tryz.func249 (by kernel_rfl) rfl (by kernel_rfl) (by rfl) (by rfl) (.inr trivial) fun u q=>?_
  repeat'((conv=>whnf);first|with_reducible (first|refine Lm ?_|refine Wm (by omega) ?_|refine eT (by omega) (fun hq=>?_)|refine Ix.mk hf.1 (aa h2) ?_|refine Ix.mk hf.1 (aa h1) ?_|refine Bn ?_|refine Fm rfl ?_)|refine Bt ?_|refine Bu ?_|refine Cl.eq (iM k.Machine.Table f hs) ⟨⟨rfl,aB.enc_fz k.Machine.Table⟩,⟨rfl,rfl⟩,trivial⟩ ?_|refine Pu.one rfl rfl (aa h1) rfl (Nat.le_of_ble_eq_true rfl) rfl ?_|refine Pu.one rfl rfl (aa h2) rfl (Nat.le_of_ble_eq_true rfl) rfl ?_|refine Mk.mk 16 rfl rfl (by decide) (by decide) rfl ?_)
  refine cY.mk rfl rfl ?_
  repeat'(first|exact trivial|rfl|refine And.intro ?_ ?_|(exact bQ (by first|omega|(simp only;omega)|(simp;omega))))
 ·rw[zf hz]
  refine bL (n:=30) (mo:=[]) (tb:=[(2,8,[21,22,23,24,25,26,27,28])]) [(0,0),(0,0)] Tryz.func249 (by kernel_rfl) rfl (by kernel_rfl) (by rfl) (by rfl) (.inr trivial) fun u q=>?_
  repeat'((conv=>whnf);first|with_reducible (first|refine Lm ?_|refine Wm (by omega) ?_|refine eF (by omega) (fun hq=>?_)|refine Bn ?_|refine Fm rfl ?_)|refine Bt ?_|refine Bu ?_|refine Cl.eq (iM k.Machine.Table f hs) ⟨⟨rfl,aB.enc_fz k.Machine.Table⟩,⟨rfl,rfl⟩,trivial⟩ ?_)
  refine cY.mk rfl rfl ?_
  repeat'(first|exact trivial|rfl|refine And.intro ?_ ?_|(exact bQ (by first|omega|(simp only;omega)|(simp;omega))))
end Go.Proofs.YtogajjgmcnjkbaaGreat.Ab
namespace Go.Proofs.YtogajjgmcnjkbaaGreat.Ab
open Go.RowKit
set_option maxRecDepth 20000
set_option maxHeartbeats 4000000
theorem z8 (k:ao) (p:Int):ao.enc .own (kT k p)=[.s .own (k.Machine.Frames.Cells.map (aI .own)),.s .own (k.Machine.Frames.Used.map (rB .own)),.s .own ((k.Machine.Table.Entries.map (aE.enc .own)).set p.toNat (aE.enc .own ⟨0,0⟩)),I k.Calls,.s .own (k.Refuse.map (rI .own))]:=by
 unfold kT;simp only[ao.enc,List.map_set]
theorem zr {k:ao} {p:Int} (h:bf k=true):aB.sml (kT k p).Machine.Table:=by
 obtain⟨t1,t2,t3⟩:=eb.1 (bG.1 h).2.2.1
 exact⟨by simp only[kT,List.length_set];omega,fun _ _=>trivial⟩
theorem yw (k:ao) (p:Int) (hk:bf k=true) (hc:k.Calls≠100000) :
  af Tryz.prog 137 false [.val (some 5) (ao.enc .imm k),.val none [I p]] (.tup [some 5,none]) (ao.enc .own (cX k p)++[B (decide ((aF k.Machine.Table p).Mode≠0))]):=by
 have hs:=fp hk
 have c1:=lR k hs
 have c2:=wY k hs
 have c3:=q9 k p hs.1.2
 rw[hk,decide_eq_true hc]at c2
 by_cases hm:(aF k.Machine.Table p).Mode=0
 ·rw[show cX k p=k by unfold cX;rw[if_pos hm]]
  rw[decide_eq_false (by simpa using hm)]at c3 ⊢
  refine nn (n:=38) (mo:=[(249,[2,0])]) (tb:=[]) Tryz.func137 (by kernel_rfl) rfl (by kernel_rfl) (by rfl) (.inr (bI (ao.enc_fr k) ⟨trivial,trivial⟩)) ?_
  repeat'((conv=>whnf);first|with_reducible (first|refine Lm ?_|refine Wm (by omega) ?_|refine Bn ?_|refine Fm rfl ?_)|refine Bt ?_|refine Bu ?_|refine Cl.mk (c1) ?_|refine Cl.mk (c2) ?_|refine Cl.mk (c3) ?_)
  all_goals rfl
 ·obtain⟨h0,h1,he,hf0,hf1⟩:=nk hk hm
  have hlen:=(d8.1 (bG.1 hk).2.1).2.2.1
  rw[show cX k p=gN (kT k p) (aF k.Machine.Table p).Frame by unfold cX;rw[if_neg hm]]
  have c4:=x4 (kT k p) (aF k.Machine.Table p).Frame (zr hk) ⟨hf0,by simp only[kT];omega,by simp only[kT];omega⟩
  rw[z8]at c4
  have hx:=au (xs:=k.Machine.Table.Entries) (i:=p.toNat) (by omega)
  rw[decide_eq_true hm]at c3 ⊢
  rw[he]at c4 ⊢
  refine nn (n:=38) (mo:=[(249,[2,0])]) (tb:=[]) Tryz.func137 (by kernel_rfl) rfl (by kernel_rfl) (by rfl) (.inr (bI (ao.enc_fr _) ⟨trivial,trivial⟩)) ?_
  repeat'((conv=>whnf);first|with_reducible (first|refine Lm ?_|refine Wm (by omega) ?_|refine Ix.mk h0 (aa hx) ?_|refine Bn ?_|refine Fm rfl ?_)|refine Bt ?_|refine Bu ?_|refine Cl.mk (c1) ?_|refine Cl.mk (c2) ?_|refine Cl.mk (c3) ?_|refine Pu.one rfl rfl (aa hx) rfl (Nat.le_of_ble_eq_true rfl) rfl ?_|refine Rw.one rfl (aa hx) rfl ?_|refine dZ.mk (c4) (.inl rfl) ?_)
  all_goals rfl
end Go.Proofs.YtogajjgmcnjkbaaGreat.Ab
namespace Go.Proofs.YtogajjgmcnjkbaaGreat.Ab
end Go.Proofs.YtogajjgmcnjkbaaGreat.Ab
namespace Go.Proofs.YtogajjgmcnjkbaaGreat.Ab
open Go.RowKit
set_option maxRecDepth 20000
set_option maxHeartbeats 4000000
end Go.Proofs.YtogajjgmcnjkbaaGreat.Ab
