/- A slot taken, an address taken out of a cache, an object begun: a heap stays whole. No condition. -/
import Derived.Test.YtembpgjjnioagaaGreatMd
import Derived.Test.YtembpgjjnioagaaGreatMf
import Derived.Test.YtembpgjjnioagaaGreatMe
set_option linter.unusedVariables false
set_option linter.unusedSimpArgs false
set_option linter.constructorNameAsVariable false
namespace Go.Proofs.YtembpgjjnioagaaGreat.Ab
def jl {α:Type} (p:α->Bool) (xs:List α):Nat:=(xs.findIdx? p).getD xs.length
def iQ {α:Type} (p:α->Bool) (xs:List α) (y:α):List α:=xs.take (jl p xs)++y::xs.drop (jl p xs)
theorem LA {α:Type} (p:α->Bool) (xs:List α):jl p xs<=xs.length:=by
 unfold jl;cases e:xs.findIdx? p with
 | none=>exact I2 _
 | some i=>exact Nat.le_of_lt (Z4.1 e).1
theorem j7 {α:Type} (p:α->Bool) (xs:List α) (y:α):(iQ p xs y).Perm (y::xs):=by
 unfold iQ;refine List.perm_middle.trans ?_;rw[List.take_append_drop]
theorem dd {α:Type} {p:α->Bool} {xs:List α} {y z:α} : z∈iQ p xs y↔z=y\/z∈xs:=by
 rw[(j7 p xs y).mem_iff,List.mem_cons]
theorem tP {α:Type} {p:α->Bool} {xs:List α} {i:Nat} (hi:i<=xs.length) (ha:∀ (j:Nat) (z:α),j<i->xs[j]? = some z->p z=false) (hp:∀ z,xs[i]? = some z->p z=true):jl p xs=i:=by
 unfold jl;by_cases e:i<xs.length
 ·rw[tL (Q1 e) (hp _ (Q1 e)) ha];rfl
 ·rw[wy (by omega) ha];show xs.length=i;omega
theorem kh {α:Type} {f:α->Int} {xs:List α} {y:α} (h:xs.Pairwise fun a b=>f a<f b) (hn:∀ z∈xs,f z≠f y):(iQ (fun z=>decide (f y<=f z)) xs y).Pairwise fun a b=>f a<f b:=by
 have hd:∀ z∈xs.drop (jl (fun z=>decide (f y<=f z)) xs),f y<f z:=fun z hz=>by
  obtain⟨j,hj,rfl⟩:=List.mem_drop_iff_getElem.1 hz;have hm:=hn _ (List.getElem_mem hj);cases e:xs.findIdx? (fun z=>decide (f y<=f z)) with
  | none=>
   have hl:jl (fun z=>decide (f y<=f z)) xs=xs.length:=by unfold jl;rw[e];rfl
   rw[hl]at hj;omega
  | some i=>
   have hl:jl (fun z=>decide (f y<=f z)) xs=i:=by unfold jl;rw[e];rfl
   obtain⟨hi,hp,-⟩:=Z4.1 e;rw[C0]at hp;have hji:i+j<xs.length:=by rw[<-hl];omega
   have hmi:f xs[i+j]≠f y:=hn _ (List.getElem_mem hji);have hgoal:f y<f xs[i+j]:=by
    cases j with
    | zero=>simp only[Nat.add_zero]at hmi |-;omega
    | succ j=>
     have:=List.pairwise_iff_getElem.1 h i (i+(j+1)) hi hji (by omega);omega
   have he:xs[jl (fun z=>decide (f y<=f z)) xs+j]? = xs[i+j]?:=by rw[hl]
   rw[Q1 (by omega),Q1 hji]at he;rw[Option.some.inj he];exact hgoal
 have ht:∀ z∈xs.take (jl (fun z=>decide (f y<=f z)) xs),f z<f y:=fun z hz=>by
  obtain⟨j,hj,rfl⟩:=List.mem_take_iff_getElem.1 hz;unfold jl at hj;cases e:xs.findIdx? (fun z=>decide (f y<=f z)) with
  | none=>
   have:=List.findIdx?_eq_none_iff.1 e _ (List.getElem_mem (show j<xs.length by omega));simp only[T3]at this;omega
  | some i=>
   obtain⟨hi,hp,hf⟩:=Z4.1 e;simp only[e,Option.getD_some]at hj;have:=hf j (by omega);simp only[C0]at this;omega
 unfold iQ;refine List.pairwise_append.2 ⟨h.sublist (List.take_sublist ..),List.pairwise_cons.2 ⟨hd,h.sublist (List.drop_sublist ..)⟩,fun z hz u hu=>?_⟩;rcases List.mem_cons.1 hu with rfl|hu
 ·exact ht z hz
 ·exact Int.lt_trans (ht z hz) (hd u hu)
def gi (b i:Int):Int:=((b.toNat ||| 2 ^ i.toNat:Nat):Int)
def p6 (s:au) (i:Int):au:={s with Bits:=gi s.Bits i}
theorem uC (b i:Int) (j:Nat):(gi b i).toNat.testBit j=(b.toNat.testBit j || decide (i.toNat=j)):=by
 unfold gi;rw[W1,Nat.testBit_or,Nat.testBit_two_pow]
theorem EQ {b i:Int} (hb:0<=b) (hi:0<=i/\i<=15) (j:Int):aT (gi b i) j=true↔aT b j=true\/j=i:=by
 rw[fK,fK,uC,R4,C0];have h0:0<=gi b i:=by unfold gi;omega
 constructor
 ·rintro⟨a1,a2,a3,a4|a4⟩
  ·exact .inl ⟨hb,a2,a3,a4⟩
  ·exact .inr (by omega)
 ·rintro(⟨a1,a2,a3,a4⟩|rfl)
  ·exact⟨h0,a2,a3,.inl a4⟩
  ·exact⟨h0,hi.1,hi.2,.inr rfl⟩
theorem gf {k:Int} (h:0<=k/\k<=3):lim k=2 ^ (slots k).toNat - 1/\0<=slots k/\slots k<=16/\slots k*csz k=16:=by
 obtain rfl|rfl|rfl|rfl:k=0\/k=1\/k=2\/k=3:=by omega
 all_goals decide
theorem zB {s:au} (h:aY s=true) {i:Int} (hi:0<=i/\i<slots s.Class):aY (p6 s i)=true:=by
 have hc:=aF h;obtain⟨l1,l2,l3,-⟩:=gf hc.2.2;unfold aY at h;rw[C0]at h;obtain⟨a1,a2,a3,a4,a5,a6⟩:=h;refine O0 ⟨a1,a2,a3,a4,by show 0<=gi s.Bits i;unfold gi;omega,?_⟩;show gi s.Bits i<=lim s.Class;rw[l1]at a6 |-;have hp:((2 ^ (slots s.Class).toNat:Nat):Int)=(2:Int) ^ (slots s.Class).toNat:=by norm_cast
 rw[<-hp]at a6 |-;have:=Nat.or_lt_two_pow (x:=s.Bits.toNat) (y:=2 ^ i.toNat) (n:=(slots s.Class).toNat) (by omega) (Nat.pow_lt_pow_right (by omega) (by omega));unfold gi;omega
theorem yb {s u:au} {i:Int} (hi:0<=i/\i<slots s.Class) (hu:aT u.Bits i=false) (h:meshable s u=true):meshable (p6 s i) u=true:=by
 unfold meshable at h |-;simp only[I0,C0]at h |-;obtain⟨⟨h1,h2⟩,h3,h4,h5⟩:=h;have hc:=aF h1;obtain⟨l1,l2,l3,-⟩:=gf hc.2.2;have hub:=ew h2;refine⟨⟨zB h1 hi,h2⟩,h3,h4,?_⟩;refine Nat.eq_of_testBit_eq fun j=>?_
 have h6:=R0 (fun n=>Nat.testBit n j) h5;simp only[Nat.testBit_and,Nat.zero_testBit,p6,uC]at h6 |-;by_cases e:i.toNat=j
 ·have:u.Bits.toNat.testBit j=false:=by
   rw[<-t4];intro ht;have:=(fK u.Bits i).2 ⟨hub.1,hi.1,by omega,by rw[e];exact ht⟩;rw[this]at hu;cases hu
  rw[this];simp
 ·rw[P0 e,Bool.or_false];exact h6
theorem r8 {s:au} (h:aY s=true) {i:Int} (hi:0<=i/\i<slots s.Class) (b:Int):eU (p6 s i) b↔eU s b\/b=16*s.Page+i*csz s.Class:=by
 have hc:=aF h;obtain⟨l1,l2,l3,l4⟩:=gf hc.2.2;have hz:=cg hc.2.2;unfold eU;simp only[p6];rw[EQ (ew h).1 (by omega)];constructor
 ·rintro⟨b1,b2,b3,b4|b4⟩
  ·exact .inl ⟨b1,b2,b3,b4⟩
  ·right
   rcases hz with e|e|e|e<;>rw[e]at b3 b4 |-<;>omega
 ·rintro(⟨b1,b2,b3,b4⟩|rfl)
  ·exact⟨b1,b2,b3,.inl b4⟩
  ·have hs:slots s.Class<=16:=l3
   rcases hz with e|e|e|e<;>rw[e]at l4 |-<;>refine⟨?_,?_,?_,.inr ?_⟩<;>omega
theorem Ga {sp:List au} {i:Nat} (k:Int) (hi:i<sp.length):(sp.set i (p6 (nth sp i) k)).map (·.Page)=sp.map (·.Page):=by
 rw[Q4];refine List.ext_getElem (by simp) fun j h1 h2=>?_
 rw[List.getElem_set];split
 ·rename_i e;subst e
  rw[List.getElem_map];show(nth sp i).Page=_;rw[bn (Q1 hi)]
 ·rfl
theorem iU.setS {sp:List au} {la:List a8} (hL:q8 sp la) {i:Nat} (hi:i<sp.length) {k:Int} (hk:0<=k/\k<slots (nth sp i).Class) (b c:Int):iU (sp.set i (p6 (nth sp i) k)) b c↔iU sp b c\/(b=16*(nth sp i).Page+k*csz (nth sp i).Class/\(c<0\/(nth sp i).Class=c)):=by
 have hsi:=hL.sok _ (am hi);constructor
 ·rintro⟨s,hs,h1,h2⟩
  rcases eK hs with rfl|⟨j,hj,hji,rfl⟩
  ·rcases(r8 hsi hk b).1 h1 with h3|h3
   ·exact .inl ⟨_,am hi,h3,h2⟩
   ·exact .inr ⟨h3,h2⟩
  ·exact .inl ⟨_,am hj,h1,h2⟩
 ·rintro(⟨s,hs,h1,h2⟩|⟨h1,h2⟩)
  ·obtain⟨j,hj,rfl⟩:=bf hs
   by_cases e:j=i
   ·subst e
    exact⟨_,gU _ hi,(r8 hsi hk b).2 (.inl h1),h2⟩
   ·exact⟨_,iK _ hj e,h1,h2⟩
  ·exact⟨_,gU _ hi,(r8 hsi hk b).2 (.inr h1),h2⟩
theorem KJ {h:ab} {E:List Int} (hi:bo h E) {i:Nat} (li:i<h.Spans.length) {k:Int} (hk:0<=k/\k<=15) (hu:aT (gr h i) k=false):aT (nth h.Spans i).Bits k=false/\∀ u∈h.Spans,(nth (tbl h).Entries u.Page.toNat).Frame=(nth (tbl h).Entries (nth h.Spans i).Page.toNat).Frame->aT u.Bits k=false:=by
 have hL:=hi.L;have hb:=ew (hL.sok _ (am li));unfold gr at hu;rw[<-t4,y3 hL.sok hb hk]at hu;rw[not_or]at hu;have h1:aT (nth h.Spans i).Bits k=false:=by simpa using hu.1
 have hpage:∀ s∈h.Spans,s.Page.toNat<dQ h/\(nth (tbl h).Entries s.Page.toNat).Mode≠0/\((s.Page.toNat:Nat):Int)=s.Page:=fun s hs=>by
  have hc:=aF (hL.sok s hs);have h2:=hi.pg.bnd s.Page (dv hs);have h3:s.Page.toNat<(tbl h).Entries.length:=by omega
  have h4:((s.Page.toNat:Nat):Int)=s.Page:=by omega
  exact⟨h3,(hi.pg.own _ h3).2 (by rw[h4];exact dv hs),h4⟩
 refine⟨h1,fun u hu' hf=>?_⟩;rw[<-t4];intro ht;obtain⟨p1,p2,p3⟩:=hpage _ (am li);obtain⟨q1,q2,q3⟩:=hpage u hu';have hm:u.Page∈aP h (nth h.Spans i).Page:=by
  rw[<-p3,eB p1 p2,<-q3];exact dw.2 ⟨q1,q2,hf⟩
 obtain⟨v,hv,hve⟩:=bf hm;obtain⟨j,hj,rfl⟩:=bf hu';exact hu.2 ⟨v,hv,j,hj,hve.symm,ht⟩
theorem bo.take {h:ab} {E:List Int} {i:Nat} {k sd:Int} (hi:bo h E) (li:i<h.Spans.length) (hk:0<=k/\k<slots (nth h.Spans i).Class) (hu:aT (gr h i) k=false) (hsd:0<=sd/\sd<=1073741823) :
  bo {h with Seed:=sd,Spans:=h.Spans.set i (p6 (nth h.Spans i) k)} ((16*(nth h.Spans i).Page+k*csz (nth h.Spans i).Class)::E):=by
 have hL:=hi.L;have hsi:=hL.sok _ (am li);have hc:=aF hsi;obtain⟨l1,l2,l3,l4⟩:=gf hc.2.2;have hz:=cg hc.2.2;obtain⟨u1,u2⟩:=KJ hi li ⟨hk.1,by omega⟩ hu;have hSl:=fun b c=>iU.setS hL li hk b c
 have hpg:=Ga k li;generalize ha:16*(nth h.Spans i).Page+k*csz (nth h.Spans i).Class=a at hSl |-;have hslot:¬eU (nth h.Spans i) a:=by
  rintro⟨-,-,-,h4⟩
  have:(a - 16*(nth h.Spans i).Page) / csz (nth h.Spans i).Class=k:=by
   rw[<-ha];rcases hz with e|e|e|e<;>rw[e]<;>omega
  rw[this,u1]at h4;cases h4
 have hrange:16*(nth h.Spans i).Page<=a/\a<=16*(nth h.Spans i).Page+15:=by
  rcases hz with e|e|e|e<;>rw[e]at ha l4<;>omega
 have hnl:¬ll h.Spans h.Larges a:=by
  rintro(⟨s,hs,h1,-⟩|⟨l,hl,e⟩)
  ·obtain⟨j,hj,rfl⟩:=bf hs
   have:=gx (f:=(·.Page)) hL.nd hj li (by have a1:=h1.1;have a2:=h1.2.1;omega);subst this;exact hslot h1
  ·exact(uY hL hl).1 _ (am li) (by omega)
 have hna:a∉E++holders h:=fun hm=>hnl ((hi.mem a).1 hm)
 have hsp':∀ s∈h.Spans.set i (p6 (nth h.Spans i) k),∃ u∈h.Spans,u.Page=s.Page/\(s=u\/(u=nth h.Spans i/\s=p6 u k)):=fun s hs=>by
  rcases eK hs with rfl|⟨j,hj,hji,rfl⟩
  ·exact⟨_,am li,rfl,.inr ⟨rfl,rfl⟩⟩
  ·exact⟨_,am hj,rfl,.inl rfl⟩
 generalize hsp:h.Spans.set i (p6 (nth h.Spans i) k)=sp at hSl hpg hsp' |-;have hpgs:pgs sp h.Larges=pgs h.Spans h.Larges:=by unfold pgs;rw[hpg]
 have hbk:∀ u∈h.Spans,∃ s∈sp,s.Page=u.Page:=fun u hu=>by
  have:u.Page∈sp.map (·.Page):=by rw[hpg];exact O3.2 ⟨u,hu,rfl⟩
  obtain⟨s,hs,e⟩:=O3.1 this;exact⟨s,hs,e⟩
 exact {hi with
   lay:=by
     obtain⟨l1,l2,l3⟩:=cY hi.lay;unfold bk;simp only[I0,C0];refine⟨⟨v3.2 fun s hs=>?_,l2⟩,by rw[hpgs];exact l3⟩;obtain⟨u,hu,-,rfl|⟨rfl,rfl⟩⟩:=hsp' s hs
     · exact hL.sok _ hu
     · exact zB (hL.sok _ hu) hk
   srs:=by
     have h1:(h.Spans.map (·.Page)).Pairwise (fun a b=>a<b):=List.pairwise_map.2 hi.srs;rw[<-hpg]at h1;exact List.pairwise_map.1 h1
   pg:=⟨hi.pg.one,by rw[hpgs];exact hi.pg.bnd,by rw[hpgs];exact hi.pg.own,hi.pg.fre,fun s hs u hu hne hf=>by
     obtain⟨s',hs',es,hs2⟩:=hsp' s hs;obtain⟨u',hu',eu,hu2⟩:=hsp' u hu;have hf':(nth (tbl h).Entries s'.Page.toNat).Frame=(nth (tbl h).Entries u'.Page.toNat).Frame:=by rw[es,eu];exact hf
     have h1:=hi.pg.mesh s' hs' u' hu' (by rw[es,eu];exact hne) hf';rcases hs2 with rfl|⟨rfl,rfl⟩
     · rcases hu2 with rfl|⟨rfl,rfl⟩
       · exact h1
       · rw[iv]at h1 |-
         exact yb hk (u2 _ hs' hf') h1
     · rcases hu2 with rfl|⟨rfl,rfl⟩
       · exact yb hk (u2 _ hu' hf'.symm) h1
       · exact absurd (es.symm.trans eu) hne⟩
   nums:=by
     have:=hi.nums;unfold bW at this |-;rw[C0]at this |-;exact⟨hsd.1,hsd.2,this.2.2⟩
   oow:=fun o ho=>by
     rcases hi.oow o ho with⟨s,hs,h1,h2⟩|h1
     · obtain⟨u,hu,g1,g2⟩:=(hSl o.Addr (aO o.Size)).2 (.inl ⟨s,hs,h1,.inr h2⟩)
       refine .inl ⟨u,hu,g1,?_⟩;rcases g2 with g2|g2
       · have:=aF (hL.sok _ hs);omega
       · exact g2
     · exact .inr h1
   hca:=fun c hc k hk b hb=>(hSl b k).2 (.inl (hi.hca c hc k hk b hb))
   hqu:=fun y hy=>(hSl _ _).2 (.inl (hi.hqu y hy))
   hfl:=fun b hb=>(hSl _ _).2 (.inl (hi.hfl b hb))
   hin:=fun b hb=>by
     rcases List.mem_cons.1 hb with rfl|hb
     · exact(hSl _ _).2 (.inr ⟨rfl,.inl (by decide)⟩)
     · exact(hSl _ _).2 (.inl (hi.hin b hb))
   nd:=by
     rw[List.cons_append];exact List.nodup_cons.2 ⟨hna,hi.nd⟩
   mem:=fun b=>by
     show b∈a::E++holders h↔ll sp h.Larges b;rw[List.cons_append,List.mem_cons,hi.mem b];unfold ll;rw[hSl];constructor
     · rintro(rfl|h1|h1)
       · exact .inl (.inr ⟨rfl,.inl (by decide)⟩)
       · exact .inl (.inl h1)
       · exact .inr h1
     · rintro((h1|⟨h1,-⟩)|h1)
       · exact .inr (.inl h1)
       · exact .inl h1
       · exact .inr (.inr h1)
   job:=fun hm=>by
     obtain⟨j1,⟨s,hs,e1⟩,⟨u,hu,e2⟩⟩:=hi.job hm;obtain⟨s',hs',g1⟩:=hbk s hs;obtain⟨u',hu',g2⟩:=hbk u hu;exact⟨j1,⟨s',hs',g1.trans e1⟩,⟨u',hu',g2.trans e2⟩⟩}
def pR (c:aB) (k:Nat):aB:=⟨c.Lists.set k ((nth c.Lists k).take ((nth c.Lists k).length - 1))⟩
theorem Jo {l:List Int} (h:0<l.length):l=l.take (l.length - 1)++[nth l (l.length - 1)]:=by
 have h1:l.drop (l.length - 1)=[nth l (l.length - 1)]:=by
  rw[iS (by omega),show l.length - 1+1=l.length by omega,List.drop_length]
 rw[<-h1,List.take_append_drop]
theorem bo.pop {h:ab} {E:List Int} {t k:Nat} (hi:bo h E) (ht:t<h.Caches.length) (hk:k<(nth h.Caches t).Lists.length) (hn:0<(nth (nth h.Caches t).Lists k).length) (hc:br (pR (nth h.Caches t) k)=true) :
  bo {h with Caches:=h.Caches.set t (pR (nth h.Caches t) k)} (nth (nth (nth h.Caches t).Lists k) ((nth (nth h.Caches t).Lists k).length - 1)::E)/\iU h.Spans (nth (nth (nth h.Caches t).Lists k) ((nth (nth h.Caches t).Lists k).length - 1)) k:=by
 have hl:=Jo hn;have hs:=hi.hca _ (am ht) k hk (nth (nth (nth h.Caches t).Lists k) ((nth (nth h.Caches t).Lists k).length - 1)) (am (by omega));refine⟨?_,hs⟩;generalize ha:nth (nth (nth h.Caches t).Lists k) ((nth (nth h.Caches t).Lists k).length - 1)=a at hl hs |-;have hp:(E++holders h).Perm (a::E++holders {h with Caches:=h.Caches.set t (pR (nth h.Caches t) k)}):=by
  refine List.perm_iff_count.2 fun b=>?_
  have h1:=gZ (fun c:aB=>c.Lists.flatten) b h.Caches t (pR (nth h.Caches t) k) ht;have h2:=gZ (fun y:List Int=>y) b (nth h.Caches t).Lists k ((nth (nth h.Caches t).Lists k).take ((nth (nth h.Caches t).Lists k).length - 1)) hk;rw[<-jS,<-jS]at h2;have h3:=R0 (List.count b) hl;simp only[P4,List.count_singleton]at h3;simp only[pR]at h1;simp only[holders,ch,pR,P4,List.cons_append,List.count_cons];omega
 exact {hi with
   nc:=by show(h.Caches.set ..).length=_;rw[Z0];exact hi.nc
   cach:=fun c hcm=>by
     rcases U4 hcm with hcm|rfl
     · exact hi.cach c hcm
     · exact hc
   onu:=by show ∀ o∈h.Objs,1<=o.Id/\o.Id<=h.Next - 1/\0<=o.Thread/\o.Thread<=(h.Caches.set t _).length - 1;rw[Z0];exact hi.onu
   hca:=fun c hcm j hj b hb=>by
     rcases U4 hcm with hcm|rfl
     · exact hi.hca c hcm j hj b hb
     · simp only[pR,Z0]at hj
       simp only[pR,cx]at hb;by_cases e:k=j
       · subst e
         rw[if_pos ⟨rfl,hj⟩]at hb;exact hi.hca _ (am ht) _ hj b (List.mem_of_mem_take hb)
       · rw[if_neg fun y=>e y.1]at hb
         exact hi.hca _ (am ht) _ hj b hb
   hin:=fun b hb=>by
     rcases List.mem_cons.1 hb with rfl|hb
     · exact hs.any
     · exact hi.hin b hb
   nd:=hp.nodup_iff.1 hi.nd
   mem:=fun b=>by rw[<-hp.mem_iff];exact hi.mem b}
def KC (a:Int) (o:bJ):Bool:=decide (a<=o.Addr)
def addO (h:ab) (a size t:Int):ab:={h with Objs:=iQ (KC a) h.Objs ⟨h.Next,a,size,t⟩,Next:=h.Next+1}
theorem xQ {h:ab} (hn:bW h=true) (hl:h.Next<1000000):decide (0<=h.Seed/\h.Seed<=1073741823/\0<=h.Clock/\h.Clock<=1000000/\0<=h.Limit/\h.Limit<=1000/\1<=h.Next+1/\h.Next+1<=1000000)=true:=by
 unfold bW at hn;rw[C0]at hn |-;omega
theorem bo.addO {h:ab} {E:List Int} {a size t:Int} (hi:bo h (a::E)) (ho:JC h.Spans h.Larges ⟨h.Next,a,size,t⟩) (hn:h.Next<1000000) (ht:0<=t/\t<=h.Caches.length - 1):bo (addO h a size t) E:=by
 have hpo:=j7 (KC a) h.Objs ⟨h.Next,a,size,t⟩;have hp:(a::E++holders h).Perm (E++holders (Ab.addO h a size t)):=by
  have h0:=hpo.map (·.Addr);refine List.perm_iff_count.2 fun b=>?_
  have h1:=h0.count_eq b;simp only[O4,List.count_cons]at h1;simp only[holders,ch,Ab.addO,P4,List.cons_append,List.count_cons];omega
 have hnd:=hi.nd;rw[List.cons_append]at hnd;obtain⟨hna,-⟩:=List.nodup_cons.1 hnd;have hne:∀ o∈h.Objs,o.Addr≠a:=fun o ho e=>hna (C2.2 (.inr (by unfold holders;simp only[C2];exact .inl (.inl (.inl (O3.2 ⟨o,ho,e⟩))))))
 exact {hi with
   nums:=xQ hi.nums hn
   osr:=kh (f:=fun o:bJ=>o.Addr) (y:=⟨h.Next,a,size,t⟩) hi.osr hne
   onu:=fun o ho=>by
     rcases dd.1 ho with rfl|ho
     · have:=hi.nums
       unfold bW at this;rw[C0]at this;exact⟨by show 1<=h.Next;omega,by show h.Next<=h.Next+1 - 1;omega,ht⟩
     · have:=hi.onu o ho
       exact⟨this.1,by show o.Id<=h.Next+1 - 1;omega,this.2.2⟩
   oid:=by
     show((iQ (KC a) h.Objs ⟨h.Next,a,size,t⟩).map (·.Id)).Nodup;rw[(hpo.map _).nodup_iff,O4];refine List.nodup_cons.2 ⟨fun hm=>?_,hi.oid⟩;obtain⟨o,ho,e⟩:=O3.1 hm;have:=(hi.onu o ho).2.1;simp only at e;omega
   oow:=fun o ho'=>by
     rcases dd.1 ho' with rfl|ho'
     · exact ho
     · exact hi.oow o ho'
   hin:=fun b hb=>hi.hin b (Z3 _ hb)
   nd:=hp.nodup_iff.1 hi.nd
   mem:=fun b=>by rw[<-hp.mem_iff];exact hi.mem b}
def io (xs:List a7) (n:Int):Nat->Int
 | 0=>-1
 | i+1=>if n<=(nth xs i).Len/\(io xs n i<0\/(nth xs i).Len<(nth xs (io xs n i).toNat).Len) then(i:Nat) else io xs n i
def gn (xs:List a7) (n:Int):Int:=io xs n xs.length
def ay (xs:List a7) (n:Int):List a7 × Int × Bool:=
 if gn xs n<0 then(xs,-1,false)
 else if(nth xs (gn xs n).toNat).Len=n then(dele xs (gn xs n).toNat,(nth xs (gn xs n).toNat).At,true)
 else(xs.set (gn xs n).toNat ⟨(nth xs (gn xs n).toNat).At+n,(nth xs (gn xs n).toNat).Len - n⟩,(nth xs (gn xs n).toNat).At,true)
theorem wq (xs:List a7) (n:Int):∀ i,i<=xs.length->io xs n i = -1\/(0<=io xs n i/\io xs n i<i/\n<=(nth xs (io xs n i).toNat).Len)
 | 0,_=>.inl rfl
 | i+1,hi=>by
  have ih:=wq xs n i (by omega);unfold io;split
  ·rename_i h;right;rw[W1];exact⟨by omega,by omega,h.1⟩
  ·rcases ih with h|h
   ·exact .inl h
   ·exact .inr ⟨h.1,by omega,h.2.2⟩
theorem vB {xs:List a7} (h:mM xs) {i j:Nat} (hij:i<j) (hj:j<xs.length):(nth xs i).At+(nth xs i).Len<(nth xs j).At:=by
 have:=List.pairwise_iff_getElem.1 h.1 i j (by omega) hj hij
 rwa [<-bn (Q1 (show i<xs.length by omega)),<-bn (Q1 hj)]at this
theorem wg {xs:List a7} {p:Int} : RH xs p↔∃ j,j<xs.length/\(nth xs j).At<=p/\p<(nth xs j).At+(nth xs j).Len:=by
 unfold RH;constructor
 ·rintro⟨r,hr,h⟩
  obtain⟨j,hj,rfl⟩:=bf hr;exact⟨j,hj,h⟩
 ·rintro⟨j,hj,h⟩
  exact⟨_,am hj,h⟩
theorem lT {pages:Int} {xs:List a7} {n:Int} (h:bv pages xs=true) (hn:1<=n) (ho:(ay xs n).2.2=true) :
  bv pages (ay xs n).1=true/\0<=(ay xs n).2.1/\(ay xs n).2.1+n<=pages/\(∀ p,RH (ay xs n).1 p↔RH xs p/\¬((ay xs n).2.1<=p/\p<(ay xs n).2.1+n))/\∀ p,(ay xs n).2.1<=p->p<(ay xs n).2.1+n->RH xs p:=by
 obtain⟨h1,h2,h3⟩:=eR.1 h;have hb:=wq xs n xs.length (I2 _);unfold ay at ho |-;change gn xs n = -1\/_ at hb;split at ho
 ·cases ho
 rename_i hb0;rw[if_neg hb0];obtain⟨b0,b1,b2⟩:=hb.resolve_left (by omega);change 0<=gn xs n at b0;change gn xs n<xs.length at b1;change n<=(nth xs (gn xs n).toNat).Len at b2;generalize hbe:(gn xs n).toNat=b at b2 |-;have hbl:b<xs.length:=by omega
 have hr:=h2 _ (am hbl);have hap:∀ j,j<xs.length->j≠b->(nth xs j).At+(nth xs j).Len<(nth xs b).At\/(nth xs b).At+(nth xs b).Len<(nth xs j).At:=fun j hj hne=>by
  rcases Nat.lt_or_gt_of_ne hne with hlt|hgt
  ·exact .inl (vB h1 hlt hbl)
  ·exact .inr (vB h1 hgt hj)
 split
 ·rename_i he
  have hd:(dele xs b).Sublist xs:=fh ..;refine⟨eR.2 ⟨⟨h1.1.sublist hd,fun y hy=>h1.2 y (hd.subset hy)⟩,fun y hy=>h2 y (hd.subset hy),h3⟩,hr.1,by show(nth xs b).At+n<=pages;omega,fun p=>?_,fun p p1 p2=>wg.2 ⟨b,hbl,p1,by show p<_;simp only at p2;omega⟩⟩;simp only;rw[wg (xs:=xs)];constructor
  ·rintro⟨r,hr',q1,q2⟩
   obtain⟨j,hj,hne,rfl⟩:=ec.1 hr';refine⟨⟨j,hj,q1,q2⟩,fun e=>?_⟩;have:=hap j hj hne;omega
  ·rintro⟨⟨j,hj,q1,q2⟩,hno⟩
   exact⟨_,ec.2 ⟨j,hj,fun e=>by subst e;omega,rfl⟩,q1,q2⟩
 ·rename_i he
  have hset:∀ j,nth (xs.set b ⟨(nth xs b).At+n,(nth xs b).Len - n⟩) j=if j=b then⟨(nth xs b).At+n,(nth xs b).Len - n⟩ else nth xs j:=fun j=>by
   rw[cx];by_cases e:j=b
   ·rw[if_pos ⟨e.symm,by omega⟩,if_pos e]
   ·rw[if_neg fun z=>e z.1.symm,if_neg e]
  refine⟨eR.2 ⟨⟨?_,fun y hy=>?_⟩,fun y hy=>?_,h3⟩,hr.1,by show(nth xs b).At+n<=pages;omega,fun p=>?_,fun p p1 p2=>wg.2 ⟨b,hbl,p1,by simp only at p2;omega⟩⟩
  ·rw[List.pairwise_iff_getElem]
   intro i j hi hj hij;rw[<-bn (Q1 hi),<-bn (Q1 hj),hset,hset];simp only[Z0]at hi hj;have hg:=vB h1 hij hj;split
   ·rename_i e;subst e
    rw[if_neg (by omega)];simp only;omega
   ·split
    ·rename_i e;subst e
     simp only;omega
    ·exact hg
  ·rcases eK hy with rfl|⟨j,hj,-,rfl⟩
   ·simp only;omega
   ·exact h1.2 _ (am hj)
  ·rcases eK hy with rfl|⟨j,hj,-,rfl⟩
   ·simp only;omega
   ·exact h2 _ (am hj)
  ·simp only
   rw[wg,wg,Z0];constructor
   ·rintro⟨j,hj,q1,q2⟩
    rw[hset]at q1 q2;split at q1
    ·rename_i e;subst e
     rw[if_pos rfl]at q2;simp only at q1 q2;exact⟨⟨j,hj,by omega,by omega⟩,by omega⟩
    ·rename_i e
     rw[if_neg e]at q2;have:=hap j hj e;exact⟨⟨j,hj,q1,q2⟩,by omega⟩
   ·rintro⟨⟨j,hj,q1,q2⟩,hno⟩
    refine⟨j,hj,?_⟩;rw[hset];split
    ·rename_i e;subst e
     simp only;omega
    ·exact⟨q1,q2⟩
def qA (k:af):Int:=du (fun u=>!u) k.Machine.Frames.Used
def pm (k:af) (p:Int) (f:Nat):af:={k with Machine:=⟨⟨k.Machine.Frames.Cells,k.Machine.Frames.Used.set f true⟩,⟨k.Machine.Table.Entries.set p.toNat ⟨2,(f:Nat)⟩⟩⟩}
def fX (k:af) (p:Int):af × Bool:=if refd k=true\/qA k<0 then(df k,false) else(pm (df k) p (qA k).toNat,true)
theorem AR {k:af} (h:¬qA k<0):(qA k).toNat<k.Machine.Frames.Used.length/\nth k.Machine.Frames.Used (qA k).toNat=false:=by
 unfold qA at h |-;rcases ng (fun u=>!u) k.Machine.Frames.Used with e|⟨n,hn,e,hp⟩
 ·omega
 ·rw[e,W1]
  exact⟨hn,by simpa using hp⟩
theorem xN {k:af} (h:aA k=true) {f:Nat} (hf:f<k.Machine.Frames.Used.length) (hu:nth k.Machine.Frames.Used f=false) (q:Nat) (hq:q<k.Machine.Table.Entries.length) (hm:(nth k.Machine.Table.Entries q).Mode≠0):(nth k.Machine.Table.Entries q).Frame≠(f:Nat):=by
 obtain⟨h1,h2,h3,h4,h5⟩:=aC.1 h;intro e;have h6:=h4 f hf;rw[hu]at h6;have:=of_decide_eq_false h6.symm;exact this (ef.2 ⟨q,hq,hm,e⟩)
theorem Lf {k:af} {p:Int} {f:Nat} (h:aA k=true) (hp:0<=p/\p<k.Machine.Table.Entries.length) (hm:(nth k.Machine.Table.Entries p.toNat).Mode=0) (hf:f<k.Machine.Frames.Used.length) (hu:nth k.Machine.Frames.Used f=false):aA (pm k p f)=true:=by
 have hno:=xN h hf hu;obtain⟨h1,h2,h3,h4,h5⟩:=aC.1 h;obtain⟨g1,g2,g3,g4⟩:=bg.1 h2;obtain⟨t1,t2,t3⟩:=bx.1 h3;have hent:∀ q,nth (k.Machine.Table.Entries.set p.toNat ⟨2,(f:Nat)⟩) q=if p.toNat=q then⟨2,(f:Nat)⟩ else nth k.Machine.Table.Entries q:=fun q=>by
  rw[cx];by_cases hq:p.toNat=q
  ·rw[if_pos ⟨hq,by omega⟩,if_pos hq]
  ·rw[if_neg (fun e=>hq e.1),if_neg hq]
 refine aC.2 ⟨h1,bg.2 ⟨g1,g2,by simp only[pm,Z0];exact g3,fun j hj=>?_⟩,bx.2 ⟨fun j hj=>?_,?_,?_⟩,fun j hj=>?_,h5⟩
 ·replace hj:j<k.Machine.Frames.Cells.length:=hj
  show gQ (nth k.Machine.Frames.Cells j) (nth (k.Machine.Frames.Used.set f true) j)=true;have h6:=g4 j hj;rw[cx];split
  ·unfold gQ at h6 |-
   simp only[I0,C0,v3]at h6 |-;refine⟨h6.1,fun v hv=>?_⟩;have:=h6.2 v hv;unfold ir at this |-;simp only[I0]at this;rw[this.1];rfl
  ·exact h6
 ·simp only[pm,Z0]at hj |-
  rw[hent];split
  ·unfold jV;rw[C0];simp only;omega
  ·exact t1 j hj
 ·simp only[pm,Z0];exact t2
 ·simp only[pm,Z0];exact t3
 ·simp only[pm,Z0]at hj
  show nth (k.Machine.Frames.Used.set f true) j=_;rw[cx];by_cases e:f=j
  ·subst e
   rw[if_pos ⟨rfl,hj⟩];refine(O0 (ef.2 ⟨p.toNat,?_,?_,?_⟩)).symm
   ·simp only[pm,Z0];omega
   ·simp only[pm,hent,if_pos];decide
   ·simp only[pm,hent,if_pos]
  ·rw[if_neg fun z=>e z.1,h4 j hj]
   refine decide_eq_decide.2 ?_;rw[ef,ef];simp only[pm,Z0,hent];constructor
   ·rintro⟨q,q1,q2,q3⟩
    refine⟨q,q1,?_⟩;rw[if_neg fun z=>q2 (by rw[<-z];exact hm)];exact⟨q2,q3⟩
   ·rintro⟨q,q1,q2,q3⟩
    by_cases z:p.toNat=q
    ·rw[if_pos z]at q3
     simp only at q3;omega
    ·rw[if_neg z]at q2 q3
     exact⟨q,q1,q2,q3⟩
structure Au (k:af) (p:Int) (r:af × Bool):Prop where
 ker:aA r.1=true
 len:r.1.Machine.Table.Entries.length=k.Machine.Table.Entries.length
 calls:r.1.Calls=k.Calls+1
 ref:r.1.Refuse=k.Refuse
 cells:r.1.Machine.Frames.Cells=k.Machine.Frames.Cells
 no:r.2=false->r.1=df k
 yes:r.2=true->∃ f:Nat,f<k.Machine.Frames.Used.length/\nth k.Machine.Frames.Used f=false/\(∀ q:Nat,nth r.1.Machine.Table.Entries q=if(q:Int)=p then⟨2,(f:Nat)⟩ else nth k.Machine.Table.Entries q)/\∀ q,q<k.Machine.Table.Entries.length->(nth k.Machine.Table.Entries q).Mode≠0->(nth k.Machine.Table.Entries q).Frame≠(f:Nat)
theorem Au.of {k:af} {p:Int} (h:aA k=true) (hc:k.Calls≠100000) (hp:0<=p/\p<k.Machine.Table.Entries.length) (hm:(nth k.Machine.Table.Entries p.toNat).Mode=0):Au k p (fX k p):=by
 unfold fX;split
 ·exact⟨kZ h hc,rfl,rfl,rfl,rfl,fun _=>rfl,fun e=>by cases e⟩
 ·rename_i hn
  rw[not_or]at hn;obtain⟨f1,f2⟩:=AR hn.2;refine⟨Lf (kZ h hc) hp hm f1 f2,by simp[pm,df],rfl,rfl,rfl,fun e=>(by cases e),fun _=>⟨_,f1,f2,fun q=>?_,fun q=>xN h f1 f2 q⟩⟩;simp only[pm,df,cx];by_cases e:(q:Int)=p
  ·rw[if_pos ⟨by omega,by omega⟩,if_pos e]
  ·rw[if_neg fun z=>e (by omega),if_neg e]
def cJ (k:af) (p:Int):Nat->af × Nat
 | 0=>(k,0)
 | i+1=>if(cJ k p i).2=i then((fX (cJ k p i).1 (p+(i:Nat))).1,if(fX (cJ k p i).1 (p+(i:Nat))).2=true then i+1 else i) else cJ k p i
structure mP (k:af) (p:Int) (i:Nat) (r:af × Nat):Prop where
 ker:aA r.1=true
 len:r.1.Machine.Table.Entries.length=k.Machine.Table.Entries.length
 calls:k.Calls<=r.1.Calls/\r.1.Calls<=k.Calls+i
 ref:r.1.Refuse=k.Refuse
 cells:r.1.Machine.Frames.Cells=k.Machine.Frames.Cells
 le:r.2<=i
 out:∀ q:Nat,¬(p<=q/\(q:Int)<p+r.2)->nth r.1.Machine.Table.Entries q=nth k.Machine.Table.Entries q
 new:∀ q:Nat,p<=q->(q:Int)<p+r.2->(nth r.1.Machine.Table.Entries q).Mode=2/\∀ u:Nat,u<k.Machine.Table.Entries.length->(nth r.1.Machine.Table.Entries u).Mode≠0->(nth r.1.Machine.Table.Entries u).Frame=(nth r.1.Machine.Table.Entries q).Frame->u=q
theorem mP.of {k:af} {p:Int} {n:Nat} (h:aA k=true) (hc:k.Calls+n<=100000) (hp:0<=p/\p+n<=k.Machine.Table.Entries.length) (hm:∀ q:Nat,p<=q->(q:Int)<p+n->(nth k.Machine.Table.Entries q).Mode=0):∀ i,i<=n->mP k p i (cJ k p i)
 | 0,_=>⟨h,rfl,⟨W3 _,by show k.Calls<=k.Calls+((0:Nat):Int);omega⟩,rfl,rfl,I2 _,fun _ _=>rfl,fun q q1 q2=>by simp only[cJ]at q2;omega⟩
 | i+1,hi=>by
  have ih:=mP.of h hc hp hm i (by omega);unfold cJ;split
  case isFalse=>exact⟨ih.ker,ih.len,⟨ih.calls.1,by have:=ih.calls.2;omega⟩,ih.ref,ih.cells,by have:=ih.le;omega,ih.out,ih.new⟩
  rename_i hr;generalize cJ k p i=r at ih hr |-;have hcc:=ih.calls;have hmp:(nth r.1.Machine.Table.Entries (p+(i:Nat)).toNat).Mode=0:=by
   rw[ih.out _ (by omega)];exact hm _ (by omega) (by omega)
  have s:=Au.of (p:=p+(i:Nat)) ih.ker (by omega) ⟨by omega,by rw[ih.len];omega⟩ hmp;generalize fX r.1 (p+(i:Nat))=w at s |-;refine⟨s.ker,s.len.trans ih.len,⟨by simp only[s.calls];omega,by simp only[s.calls];omega⟩,s.ref.trans ih.ref,s.cells.trans ih.cells,by simp only;split<;>omega,fun q hq=>?_,fun q q1 q2=>?_⟩
  ·simp only at hq |-
   cases e:w.2 with
   | false=>
    rw[s.no e];rw[e]at hq;exact ih.out q (by rw[hr];simpa using hq)
   | true=>
    obtain⟨f,-,-,f3,-⟩:=s.yes e;rw[e,if_pos rfl]at hq;rw[f3,if_neg (by omega)];exact ih.out q (by omega)
  ·simp only at q2 |-
   cases e:w.2 with
   | false=>
    rw[s.no e];rw[e]at q2;exact ih.new q q1 (by rw[hr];simpa using q2)
   | true=>
    obtain⟨f,-,-,f3,f4⟩:=s.yes e;rw[e,if_pos rfl]at q2;have hql:q<k.Machine.Table.Entries.length:=by omega
    rw[f3];by_cases eq:(q:Int)=p+(i:Nat)
    ·rw[if_pos eq]
     refine⟨rfl,fun u hu hum huf=>?_⟩;rw[f3]at hum huf;by_cases eu:(u:Int)=p+(i:Nat)
     ·omega
     ·rw[if_neg eu]at hum huf
      exact absurd huf (f4 u (by rw[ih.len];exact hu) hum)
    ·rw[if_neg eq]
     obtain⟨n1,n2⟩:=ih.new q q1 (by omega);refine⟨n1,fun u hu hum huf=>?_⟩;rw[f3]at hum huf;by_cases eu:(u:Int)=p+(i:Nat)
     ·rw[if_pos eu]at huf
      exact absurd huf.symm (f4 q (by rw[ih.len];exact hql) (by rw[n1];decide))
     ·rw[if_neg eu]at hum huf
      exact n2 u hu hum huf
theorem mP.undo {k:af} {p:Int} {i:Nat} {r:af × Nat} (s:mP k p i r) (h:aA k=true) (hp:0<=p/\p+i<=k.Machine.Table.Entries.length) (hm:∀ q:Nat,p<=q->(q:Int)<p+i->(nth k.Machine.Table.Entries q).Mode=0):aA (dN r.1 p r.2)=true/\tEq k.Machine.Table (dN r.1 p r.2).Machine.Table:=by
 have hle:=s.le;have he:=kY s.ker hp.1 r.2 (by rw[s.len];omega);refine⟨kz s.ker p r.2,((gV r.1 p r.2).1).trans s.len,fun q=>?_⟩;rw[he];split
 ·rename_i hq
  have h1:=hm q hq.1 (by omega);obtain⟨-,-,h3,-⟩:=aC.1 h;have h4:=(bx.1 h3).1 q (by omega);unfold jV at h4;rw[C0]at h4;exact⟨⟨fun z=>absurd rfl z,fun z=>absurd h1 z⟩,(h4.2.2.1 h1).symm⟩
 ·rename_i hq
  rw[s.out q hq];exact⟨Iff.rfl,rfl⟩
theorem Pg.add {t t':aG} {fr fr':List a7} {sp sp':List au} {la la':List a8} {p:Int} {n:Nat} (hg:Pg t fr sp la) (hl:t'.Entries.length=t.Entries.length) (hlt:p+n<=t.Entries.length) (hp:0<=p)
  (he:∀ q:Nat,¬(p<=q/\(q:Int)<p+n)->nth t'.Entries q=nth t.Entries q)
  (hnew:∀ q:Nat,p<=q->(q:Int)<p+n->(nth t'.Entries q).Mode=2/\∀ u:Nat,u<t.Entries.length->(nth t'.Entries u).Mode≠0->(nth t'.Entries u).Frame=(nth t'.Entries q).Frame->u=q)
  (hfr:∀ q,RH fr' q↔RH fr q/\¬(p<=q/\q<p+n)) (hm:∀ q,q∈pgs sp' la'↔q∈pgs sp la\/(p<=q/\q<p+n))
  (hsp:∀ s∈sp',0<=s.Page/\(s∈sp\/(p<=s.Page/\s.Page<p+n))) (hla:∀ l∈la',l∈la\/∀ q∈lpgs l l.Pages.toNat,p<=q/\q<p+n):Pg t' fr' sp' la':=by
 have hown:∀ q:Nat,q<t.Entries.length->((nth t'.Entries q).Mode≠0↔(q:Int)∈pgs sp' la'):=fun q hq=>by
  rw[hm];by_cases e:p<=q/\(q:Int)<p+n
  ·have:=(hnew q e.1 e.2).1
   exact⟨fun _=>.inr e,fun _=>by rw[this];decide⟩
  ·rw[he q e,hg.own q hq]
   exact⟨.inl,fun z=>z.resolve_right e⟩
 refine⟨fun l hl' q hq u hu h1 h2=>?_,fun q hq=>?_,fun q hq=>hown q (by rw[<-hl];exact hq),fun q hq=>?_,fun s hs u hu hne hf=>?_⟩
 ·rw[hl]at hu
  have hqm:=eZ (sp:=sp') hl' hq;have hqb:q<t.Entries.length:=by
   rcases(hm _).1 hqm with h3|h3
   ·have:=hg.bnd _ h3;omega
   ·omega
  by_cases e:p<=q/\(q:Int)<p+n
  ·exact(hnew q e.1 e.2).2 u hu h1 h2
  ·have hll:=(hla l hl').resolve_right fun h3=>e (h3 _ hq)
   by_cases eu:p<=u/\(u:Int)<p+n
   ·exact((hnew u eu.1 eu.2).2 q hqb ((hown q hqb).2 hqm) h2.symm).symm
   ·rw[he q e,he u eu]at h2
    rw[he u eu]at h1;exact hg.one l hll q hq u hu h1 h2
 ·rw[hl]
  rcases(hm _).1 hq with h3|h3
  ·exact hg.bnd _ h3
  ·omega
 ·rw[hl]at hq
  rw[hfr];by_cases e:p<=q/\(q:Int)<p+n
  ·have:=(hnew q e.1 e.2).1
   exact⟨fun _ z=>z.2 e,fun _=>by rw[this];decide⟩
  ·rw[he q e,hg.fre q hq]
   exact⟨fun z y=>z y.1,fun z y=>z ⟨y,e⟩⟩
 ·obtain⟨s0,s1⟩:=hsp s hs
  obtain⟨u0,u1⟩:=hsp u hu;have hbd:∀ y∈sp',0<=y.Page->y.Page.toNat<t.Entries.length/\((y.Page.toNat:Nat):Int)=y.Page/\(nth t'.Entries y.Page.toNat).Mode≠0:=fun y hy hy0=>by
   have h3:=dv (la:=la') hy;have h4:y.Page.toNat<t.Entries.length:=by
    rcases(hm _).1 h3 with h5|h5
    ·have:=hg.bnd _ h5;omega
    ·omega
   exact⟨h4,by omega,(hown _ h4).2 (by rw[show((y.Page.toNat:Nat):Int)=y.Page by omega];exact h3)⟩
  obtain⟨sb,sc,sd⟩:=hbd s hs s0;obtain⟨ub,uc,ud⟩:=hbd u hu u0;by_cases es:p<=s.Page/\s.Page<p+n
  ·have:=(hnew s.Page.toNat (by omega) (by omega)).2 _ ub ud hf.symm
   omega
  ·by_cases eu:p<=u.Page/\u.Page<p+n
   ·have:=(hnew u.Page.toNat (by omega) (by omega)).2 _ sb sd hf
    omega
   ·rw[he _ (by omega),he _ (by omega)]at hf
    exact hg.mesh s (s1.resolve_right es) u (u1.resolve_right eu) hne hf
theorem BH {sp sp':List au} {la la':List a8} (hs:sp'.Perm sp) (hl:la'.Perm la):(pgs sp' la').Perm (pgs sp la):=by
 unfold pgs;exact(hs.map _).append (hl.flatMap_right _)
def Gq (p:Int) (s:au):Bool:=decide (p<=s.Page)
def Mi (p:Int) (l:a8):Bool:=decide (p<=l.Page)
def addS (h:ab) (k:af) (fr:List a7) (p c:Int):ab:={h with Kernel:=k,Free:=fr,Spans:=iQ (Gq p) h.Spans ⟨p,c,0⟩}
theorem kb {h:ab} {E:List Int} (hi:bo h E) {n:Int} (hn:1<=n) (ho:(ay h.Free n).2.2=true):0<=(ay h.Free n).2.1/\(ay h.Free n).2.1+n<=(tbl h).Entries.length/\(∀ q:Nat,(ay h.Free n).2.1<=q->(q:Int)<(ay h.Free n).2.1+n->(nth (tbl h).Entries q).Mode=0)/\∀ q:Int,(ay h.Free n).2.1<=q->q<(ay h.Free n).2.1+n->q∉pgs h.Spans h.Larges:=by
 obtain⟨r1,r2,r3,r4,r5⟩:=lT hi.rng hn ho;have hm:∀ q:Nat,(ay h.Free n).2.1<=q->(q:Int)<(ay h.Free n).2.1+n->(nth (tbl h).Entries q).Mode=0:=fun q q1 q2=>by
  have hql:q<(tbl h).Entries.length:=by
   have:(ay h.Free n).2.1+n<=((tbl h).Entries.length:Nat):=r3;omega
  by_cases e:(nth (tbl h).Entries q).Mode=0
  ·exact e
  ·exact absurd (r5 q q1 q2) ((hi.pg.fre q hql).1 e)
 refine⟨r2,r3,hm,fun q q1 q2 hq=>?_⟩;have hb:=hi.pg.bnd q hq;obtain⟨m,rfl⟩:=Z1 (show 0<=q by omega);have h3:=(hi.pg.own m (by omega)).2 hq;exact h3 (hm m q1 q2)
theorem bo.addS {h:ab} {E:List Int} {c:Int} (hi:bo h E) (hc:0<=c/\c<=3) (ho:(ay h.Free 1).2.2=true) {k:af} (s:Au h.Kernel (ay h.Free 1).2.1 (k,true)):bo (addS h k (ay h.Free 1).1 (ay h.Free 1).2.1 c) E:=by
 obtain⟨r1,r2,r3,r4,r5⟩:=lT hi.rng (W3 _) ho;obtain⟨-,u2,u3,u4⟩:=kb hi (W3 _) ho;generalize (ay h.Free 1).2.1=p at r2 r3 r4 r5 u2 u3 u4 s |-;generalize (ay h.Free 1).1=fr at r1 r4 |-;obtain⟨f,f1,f2,f3,f4⟩:=s.yes rfl;have h32:=(bx.1 (aC.1 hi.ker).2.2.1).2.2;change (tbl h).Entries.length<=32 at h32;have hL:=hi.L;have hpi:=j7 (Gq p) h.Spans ⟨p,c,0⟩;have hpp:=BH hpi (List.Perm.refl h.Larges);have hpp':(pgs (iQ (Gq p) h.Spans ⟨p,c,0⟩) h.Larges).Perm (p::pgs h.Spans h.Larges):=hpp;have hnp:p∉pgs h.Spans h.Larges:=u4 p (W3 _) (by omega);have hne:∀ z∈h.Spans,z.Page≠p:=fun z hz e=>hnp (by rw[<-e];exact dv hz)
 have hSl:∀ b d,iU (iQ (Gq p) h.Spans ⟨p,c,0⟩) b d↔iU h.Spans b d:=fun b d=>by
  constructor
  ·rintro⟨s,hs,h1,h2⟩
   rcases dd.1 hs with rfl|hs
   ·exact absurd h1 (zD rfl b)
   ·exact⟨s,hs,h1,h2⟩
  ·rintro⟨s,hs,h1⟩
   exact⟨s,dd.2 (.inr hs),h1⟩
 exact {hi with
   ker:=s.ker
   rng:=by show bv ((k.Machine.Table.Entries.length:Nat):Int) fr=true;rw[s.len];exact r1
   lay:=by
     obtain⟨l1,l2,l3⟩:=cY hi.lay;unfold bk;simp only[I0,C0];refine⟨⟨v3.2 fun z hz=>?_,l2⟩,hpp'.nodup_iff.2 (List.nodup_cons.2 ⟨hnp,l3⟩)⟩;rcases dd.1 hz with rfl|hz
     · have hl0:0<=lim c:=by
         have:=(gf hc).1;obtain rfl|rfl|rfl|rfl:c=0\/c=1\/c=2\/c=3:=by omega
         all_goals decide
       exact O0 ⟨r2,by show p<=31;omega,hc.1,hc.2,W3 _,hl0⟩
     · exact hL.sok z hz
   srs:=kh (f:=fun z:au=>z.Page) (y:=⟨p,c,0⟩) hi.srs hne
   pg:=by
     refine hi.pg.add (p:=p) (n:=1) s.len (by exact u2) r2 (fun q hq=>?_) (fun q q1 q2=>?_) (fun q=>r4 q) (fun q=>?_) (fun z hz=>?_) (fun l hl=>.inl hl)
     · exact(f3 q).trans (if_neg (by omega))
     · have hq:(q:Int)=p:=by omega
       have fq:nth k.Machine.Table.Entries q = ⟨2,(f:Nat)⟩:=(f3 q).trans (if_pos hq);refine⟨R0 bj.Mode fq,fun u hu hum huf=>?_⟩;have fu:nth k.Machine.Table.Entries u=if(u:Int)=p then⟨2,(f:Nat)⟩ else nth h.Kernel.Machine.Table.Entries u:=f3 u
       change (nth k.Machine.Table.Entries u).Mode≠0 at hum;change (nth k.Machine.Table.Entries u).Frame=(nth k.Machine.Table.Entries q).Frame at huf;rw[fu]at hum huf;rw[fq]at huf;by_cases eu:(u:Int)=p
       · omega
       · rw[if_neg eu]at hum huf
         exact absurd huf (f4 u hu hum)
     · show q∈pgs (iQ (Gq p) h.Spans ⟨p,c,0⟩) h.Larges↔_
       rw[hpp'.mem_iff,List.mem_cons];constructor
       · rintro(e|e)
         · exact .inr ⟨by omega,by omega⟩
         · exact .inl e
       · rintro(e|e)
         · exact .inr e
         · exact .inl (by omega)
     · rcases dd.1 hz with rfl|hz
       · exact⟨r2,.inr ⟨W3 _,by show p<p+((1:Nat):Int);omega⟩⟩
       · exact⟨(aF (hL.sok z hz)).1,.inl hz⟩
   oow:=fun o ho=>by
     rcases hi.oow o ho with⟨z,hz,h1,h2⟩|h1
     · exact .inl ⟨z,dd.2 (.inr hz),h1,h2⟩
     · exact .inr h1
   hca:=fun d hd j hj b hb=>(hSl b j).2 (hi.hca d hd j hj b hb)
   hqu:=fun y hy=>(hSl _ _).2 (hi.hqu y hy)
   hfl:=fun b hb=>(hSl _ _).2 (hi.hfl b hb)
   hin:=fun b hb=>(hSl _ _).2 (hi.hin b hb)
   mem:=fun b=>(hi.mem b).trans (by
     show ll h.Spans h.Larges b↔ll (iQ (Gq p) h.Spans ⟨p,c,0⟩) h.Larges b;unfold ll;rw[hSl])
   job:=fun hm=>by
     obtain⟨j1,⟨y,hy,e1⟩,⟨u,hu,e2⟩⟩:=hi.job hm;exact⟨j1,⟨y,dd.2 (.inr hy),e1⟩,⟨u,dd.2 (.inr hu),e2⟩⟩}
def addL (h:ab) (k:af) (fr:List a7) (p n size t:Int):ab:={h with Kernel:=k,Free:=fr,Larges:=iQ (Mi p) h.Larges ⟨p,n,size⟩,Objs:=iQ (KC (16*p)) h.Objs ⟨h.Next,16*p,size,t⟩,Next:=h.Next+1}
theorem bo.addL {h:ab} {E:List Int} {size t:Int} {n:Nat} (hi:bo h E) (hz:9<=size/\size<=1000) (hnz:(n:Int)=(size+15) / 16) (ho:(ay h.Free n).2.2=true) {k:af} (s:mP h.Kernel (ay h.Free n).2.1 n (k,n)) (hn:h.Next<1000000) (ht:0<=t/\t<=h.Caches.length - 1) :
  bo (addL h k (ay h.Free n).1 (ay h.Free n).2.1 n size t) E:=by
 have hn1:(1:Int)<=n:=by omega
 obtain⟨r1,r2,r3,r4,r5⟩:=lT hi.rng hn1 ho;obtain⟨-,u2,u3,u4⟩:=kb hi hn1 ho;generalize (ay h.Free n).2.1=p at r2 r3 r4 r5 u2 u3 u4 s |-;generalize (ay h.Free n).1=fr at r1 r4 |-;have h32:=(bx.1 (aC.1 hi.ker).2.2.1).2.2;change (tbl h).Entries.length<=32 at h32;have hL:=hi.L;have hpi:=j7 (Mi p) h.Larges ⟨p,n,size⟩;have hpo:=j7 (KC (16*p)) h.Objs ⟨h.Next,16*p,size,t⟩;have hlp:lpgs ⟨p,n,size⟩ ((n:Nat):Int).toNat=lpgs ⟨p,n,size⟩ n:=by rw[W1]
 have hpp:(pgs h.Spans (iQ (Mi p) h.Larges ⟨p,n,size⟩)).Perm (lpgs ⟨p,n,size⟩ n++pgs h.Spans h.Larges):=by
  refine(BH (List.Perm.refl h.Spans) hpi).trans ?_;unfold pgs;rw[W4];simp only[hlp];rw[<-z4,<-z4];exact List.perm_append_comm.append_right _
 have hlm:∀ q,q∈lpgs ⟨p,n,size⟩ n↔p<=q/\q<p+n:=fun q=>by
  rw[db];constructor
  ·rintro⟨j,hj,rfl⟩;exact⟨by show p<=p+(j:Int);omega,by show p+(j:Int)<_;omega⟩
  ·rintro⟨q1,q2⟩;exact⟨(q - p).toNat,by omega,by show q=p+_;omega⟩
 have hln:(lpgs ⟨p,n,size⟩ n).Nodup:=by
  unfold lpgs List.Nodup;rw[List.pairwise_map];exact List.nodup_range.imp fun hne e=>hne (by simp only at e;omega)
 have hne:∀ z∈h.Larges,z.Page≠p:=fun z hz e=>u4 p (W3 _) (by omega) (by rw[<-e];exact eZ hz (db.2 ⟨0,by have:=aU (hL.lok z hz);omega,by omega⟩))
 have hnl:¬ll h.Spans h.Larges (16*p):=by
  rintro(⟨z,hz,h1,-⟩|⟨l,hl,e⟩)
  ·exact u4 p (W3 _) (by omega) (by rw[show p=z.Page by have a1:=h1.1;have a2:=h1.2.1;omega];exact dv hz)
  ·exact hne l hl (by omega)
 have hna:(16*p)∉E++holders h:=fun hm=>hnl ((hi.mem _).1 hm)
 have hno:∀ o∈h.Objs,o.Addr≠16*p:=fun o ho e=>hna (C2.2 (.inr (by unfold holders;simp only[C2];exact .inl (.inl (.inl (O3.2 ⟨o,ho,e⟩))))))
 have hp:(E++holders (Ab.addL h k fr p n size t)).Perm ((16*p)::(E++holders h)):=by
  have h0:=hpo.map (·.Addr);refine List.perm_iff_count.2 fun b=>?_
  have h1:=h0.count_eq b;simp only[O4,List.count_cons]at h1;simp only[holders,ch,Ab.addL,P4,List.count_cons];omega
 exact {hi with
   ker:=s.ker
   rng:=by show bv ((k.Machine.Table.Entries.length:Nat):Int) fr=true;rw[s.len];exact r1
   lay:=by
     obtain⟨l1,l2,l3⟩:=cY hi.lay;unfold bk;simp only[I0,C0];refine⟨⟨l1,v3.2 fun z hz'=>?_⟩,hpp.nodup_iff.2 (List.nodup_append.2 ⟨hln,l3,fun q hq b hb e=>?_⟩)⟩
     · rcases dd.1 hz' with rfl|hz'
       · exact O0 ⟨hz.1,hz.2,hnz,r2,by show p<=32 - (n:Int);omega⟩
       · exact hL.lok z hz'
     · subst e
       have:=(hlm q).1 hq;exact u4 q this.1 this.2 hb
   srl:=kh (f:=fun z:a8=>z.Page) (y:=⟨p,n,size⟩) hi.srl hne
   pg:=by
     refine hi.pg.add (p:=p) (n:=n) s.len (by exact u2) r2 (fun q hq=>s.out q hq) (fun q q1 q2=>s.new q q1 q2) (fun q=>r4 q) (fun q=>?_) (fun z hz=>⟨(aF (hL.sok z hz)).1,.inl hz⟩) (fun l hl=>?_)
     · show q∈pgs h.Spans (iQ (Mi p) h.Larges ⟨p,n,size⟩)↔_
       rw[hpp.mem_iff,C2,hlm];exact Or.comm
     · rcases dd.1 hl with rfl|hl
       · exact .inr fun q hq=>(hlm q).1 (by simpa using hq)
       · exact .inl hl
   nums:=xQ hi.nums hn
   osr:=kh (f:=fun o:bJ=>o.Addr) (y:=⟨h.Next,16*p,size,t⟩) hi.osr hno
   onu:=fun o ho=>by
     rcases dd.1 ho with rfl|ho
     · have:=hi.nums
       unfold bW at this;rw[C0]at this;exact⟨by show 1<=h.Next;omega,by show h.Next<=h.Next+1 - 1;omega,ht⟩
     · have:=hi.onu o ho
       exact⟨this.1,by show o.Id<=h.Next+1 - 1;omega,this.2.2⟩
   oid:=by
     show((iQ (KC (16*p)) h.Objs ⟨h.Next,16*p,size,t⟩).map (·.Id)).Nodup;rw[(hpo.map _).nodup_iff,O4];refine List.nodup_cons.2 ⟨fun hm=>?_,hi.oid⟩;obtain⟨o,ho,e⟩:=O3.1 hm;have:=(hi.onu o ho).2.1;simp only at e;omega
   oow:=fun o ho'=>by
     rcases dd.1 ho' with rfl|ho'
     · exact .inr ⟨_,dd.2 (.inl rfl),rfl,rfl⟩
     · rcases hi.oow o ho' with h1|⟨l,hl,h1⟩
       · exact .inl h1
       · exact .inr ⟨l,dd.2 (.inr hl),h1⟩
   nd:=hp.nodup_iff.2 (List.nodup_cons.2 ⟨hna,hi.nd⟩)
   mem:=fun b=>by
     rw[hp.mem_iff,List.mem_cons,hi.mem b];show _↔ll h.Spans (iQ (Mi p) h.Larges ⟨p,n,size⟩) b;unfold ll;constructor
     · rintro(rfl|h1|⟨l,hl,e⟩)
       · exact .inr ⟨_,dd.2 (.inl rfl),rfl⟩
       · exact .inl h1
       · exact .inr ⟨l,dd.2 (.inr hl),e⟩
     · rintro(h1|⟨l,hl,e⟩)
       · exact .inr (.inl h1)
       · rcases dd.1 hl with rfl|hl
         · exact .inl e
         · exact .inr (.inr ⟨l,hl,e⟩)}
structure JK (h h':ab):Prop where
 job:h'.Job=h.Job
 msh:h'.Meshing=h.Meshing
 sp:∀ s∈h.Spans,gv h s.Page=true->∃ s'∈h'.Spans,s'.Page=s.Page/\∀ u,meshable s u=true->meshable s' u=true
 ent:∀ q:Nat,(nth (tbl h').Entries q).Mode≠0->((nth (tbl h).Entries q).Mode≠0/\(nth (tbl h').Entries q).Frame=(nth (tbl h).Entries q).Frame)\/∀ u:Nat,(nth (tbl h').Entries u).Mode≠0->(nth (tbl h').Entries u).Frame=(nth (tbl h').Entries q).Frame->u=q
theorem JK.refl (h:ab):JK h h:=⟨rfl,rfl,fun s hs _=>⟨s,hs,rfl,fun _ z=>z⟩,fun _ hq=>.inl ⟨hq,rfl⟩⟩
theorem JK.pg {h h':ab} (k:JK h h') (p:Int):gv h' p=gv h p:=by unfold gv;rw[k.job,k.msh]
theorem JK.trans {h h1 h2:ab} (a:JK h h1) (b:JK h1 h2):JK h h2:=by
 refine⟨b.job.trans a.job,b.msh.trans a.msh,fun s hs hj=>?_,fun q hq=>?_⟩
 ·obtain⟨s1,g1,g2,g3⟩:=a.sp s hs hj
  obtain⟨s2,k1,k2,k3⟩:=b.sp s1 g1 (by rw[a.pg,g2];exact hj);exact⟨s2,k1,k2.trans g2,fun u hu=>k3 u (g3 u hu)⟩
 ·rcases b.ent q hq with⟨b1,b2⟩|b1
  ·rcases a.ent q b1 with⟨a1,a2⟩|a1
   ·exact .inl ⟨a1,b2.trans a2⟩
   ·refine .inr fun u hu hf=>?_
    rcases b.ent u hu with⟨c1,c2⟩|c1
    ·exact a1 u c1 (by rw[<-c2,<-b2];exact hf)
    ·exact(c1 q hq hf.symm).symm
  ·exact .inr b1
theorem mJ.keep {h h':ab} {p:Int} (hp0:0<=p) (hm:(nth (tbl h').Entries p.toNat).Mode≠0) (hs:mJ (tbl h) p) (k:JK h h'):mJ (tbl h') p:=fun q h1 h2=>by
 rcases k.ent p.toNat hm with⟨a1,a2⟩|a
 ·rcases k.ent q h1 with⟨b1,b2⟩|b
  ·exact hs q b1 (by rw[<-b2,h2,a2])
  ·have:=b p.toNat hm h2.symm;omega
 ·have:=a q h1 h2;omega
theorem bo.mapped {h:ab} {E:List Int} (hi:bo h E) {s:au} (hs:s∈h.Spans):0<=s.Page/\s.Page<(tbl h).Entries.length/\(nth (tbl h).Entries s.Page.toNat).Mode≠0:=by
 have h0:=(aF (hi.L.sok s hs)).1;have h1:=hi.pg.bnd _ (dv (la:=h.Larges) hs);refine⟨h0,h1,(hi.pg.own s.Page.toNat (by omega)).2 ?_⟩;rw[show((s.Page.toNat:Nat):Int)=s.Page by omega];exact dv hs
theorem JI.keep {h h':ab} {E:List Int} (hj:JI h) (hi:bo h' E) (k:JK h h'):JI h':=by
 have hsp:h.Meshing=true->∃ a∈h'.Spans,∃ b∈h'.Spans,a.Page=h.Job.Plan.Keep/\b.Page=h.Job.Plan.Move/\meshable a b=true:=fun hm=>by
  obtain⟨a,ha,b,hb,ea,eb,hab⟩:=hj.sp hm;obtain⟨a',a1,a2,a3⟩:=k.sp a ha (by unfold gv;rw[hm,ea];simp);obtain⟨b',b1,b2,b3⟩:=k.sp b hb (by unfold gv;rw[hm,eb];simp);refine⟨a',a1,b',b1,a2.trans ea,b2.trans eb,?_⟩;have h1:=a3 b hab;rw[iv]at h1 |-;exact b3 a' h1
 refine⟨fun hm=>?_,fun hm=>?_,fun hm=>?_,fun hm=>?_⟩
 ·rw[k.msh]at hm;rw[k.job];exact hj.ph hm
 ·rw[k.msh]at hm;rw[k.job];exact hsp hm
 ·rw[k.msh]at hm
  obtain⟨a,ha,b,hb,ea,eb,hab⟩:=hsp hm;obtain⟨m1,m2,m3⟩:=hi.mapped ha;rw[k.job];rw[ea]at m1 m3;exact(hj.sk hm).keep m1 m3 k
 ·rw[k.msh]at hm
  obtain⟨a,ha,b,hb,ea,eb,hab⟩:=hsp hm;obtain⟨m1,m2,m3⟩:=hi.mapped hb;rw[k.job];rw[eb]at m1 m3;exact(hj.sm hm).keep m1 m3 k
theorem JK.less {h h':ab} (h1:h'.Job=h.Job) (h2:h'.Meshing=h.Meshing) (h3:h'.Spans=h.Spans) (h4:∀ q:Nat,(nth (tbl h').Entries q).Mode≠0->nth (tbl h').Entries q=nth (tbl h).Entries q):JK h h':=
 ⟨h1,h2,fun s hs _=>⟨s,by rw[h3];exact hs,rfl,fun _ z=>z⟩,fun q hq=>.inl ⟨by rw[<-h4 q hq];exact hq,by rw[h4 q hq]⟩⟩
theorem JK.eq {h h':ab} (h1:h'.Job=h.Job) (h2:h'.Meshing=h.Meshing) (h3:h'.Spans=h.Spans) (h4:tbl h'=tbl h):JK h h':=.less h1 h2 h3 fun q _=>by rw[h4]
theorem JK.clrS {h:ab} {E:List Int} {a:Int} {i:Nat} (hi:bo h E) (li:i<h.Spans.length) (ha:eU (nth h.Spans i) a):JK h (clrS h i a):=by
 refine⟨rfl,rfl,fun s hs _=>?_,fun q hq=>.inl ⟨hq,rfl⟩⟩;obtain⟨j,hj,rfl⟩:=bf hs;by_cases e:j=i
 ·subst e
  have hok:=hi.L.sok _ (am li);exact⟨_,gU _ li,rfl,fun u hu=>rk hok (rq hok ⟨ha.1,ha.2.1⟩) hu⟩
 ·exact⟨_,iK _ hj e,rfl,fun _ z=>z⟩
theorem JK.giveP {h:ab} {E:List Int} {i:Nat} (hi:bo h E) (li:i<h.Spans.length) (hno:gv h (nth h.Spans i).Page=false):JK h (giveP h i):=by
 obtain⟨m1,m2,-⟩:=hi.mapped (am li);refine⟨rfl,rfl,fun s hs hjp=>?_,fun q hq=>.inl ?_⟩
 ·obtain⟨j,hj,rfl⟩:=bf hs
  exact⟨_,ec.2 ⟨j,hj,fun e=>(by subst e;rw[hno]at hjp;cases hjp),rfl⟩,rfl,fun _ z=>z⟩
 ·have he:=uE hi.ker (p:=(nth h.Spans i).Page) ⟨m1,m2⟩ q
  change (nth (dH h.Kernel (nth h.Spans i).Page).Machine.Table.Entries q).Mode≠0 at hq;show(nth h.Kernel.Machine.Table.Entries q).Mode≠0/\(nth (dH h.Kernel (nth h.Spans i).Page).Machine.Table.Entries q).Frame=(nth h.Kernel.Machine.Table.Entries q).Frame;rw[he]at hq |-;split at hq
  ·exact absurd rfl hq
  ·rename_i e
   rw[if_neg e];exact⟨hq,rfl⟩
theorem JK.freeS {h:ab} {E:List Int} {a:Int} {i:Nat} (hi:bo h (a::E)) (li:i<h.Spans.length) (ha:eU (nth h.Spans i) a):JK h (freeS h i a):=by
 have h1:=hi.give li ha;have k1:=JK.clrS hi li ha;unfold Ab.freeS;split
 ·rename_i e
  have hn:nth (Ab.clrS h i a).Spans i=lX (nth h.Spans i) (dS (nth h.Spans i) a):=by unfold Ab.clrS;simp only[cx,true_and];rw[if_pos li]
  exact k1.trans (JK.giveP (h:=Ab.clrS h i a) h1 (by unfold Ab.clrS;simp only[Z0];exact li) (by rw[hn];exact e.2))
 ·exact k1
theorem JK.freeA {h:ab} {E:List Int} {a:Int} (hi:bo h (a::E)):JK h (freeA h a):=by
 obtain⟨h1,h2,-⟩:=hi.at (hi.hin a (I1 ..));exact JK.freeS hi h1 h2
theorem JK.recyc {h:ab} {E:List Int} {a:Int} {t:Nat} (hi:bo h (a::E)):JK h (recyc t h a):=by
 unfold Ab.recyc;split
 ·exact JK.eq rfl rfl rfl rfl
 ·exact JK.freeA hi
theorem JK.recycs {t:Nat} {E:List Int} : ∀ {az:List Int} {h:ab},bo h (az++E)->t<h.Caches.length->JK h (recycs t h az)
 | [],h,_,_=>JK.refl h
 | a::az,h,hi,ht=>(JK.recyc (t:=t) hi).trans (JK.recycs (az:=az) (h:=Ab.recyc t h a) (hi.recyc ht) (by rw[(pI t h a).1];exact ht))
theorem JK.freeAs {E:List Int} : ∀ {az:List Int} {h:ab},bo h (az++E)->JK h (freeAs h az)
 | [],h,_=>JK.refl h
 | a::az,h,hi=>(JK.freeA hi).trans (JK.freeAs (az:=az) (h:=Ab.freeA h a) hi.freeA)
theorem JK.flushN {t:Nat} {h:ab} (hi:bo h []) (ht:t<h.Caches.length):∀ {k:Nat},k<=4->JK h (flushN t h k).1
 | 0,_=>JK.refl h
 | k+1,hk=>by
  obtain⟨h1,h2,-⟩:=jT hi ht (k:=k) (by omega);have ht':t<(Ab.flushN t h k).1.Caches.length:=by omega
  have hk':k<(nth (Ab.flushN t h k).1.Caches t).Lists.length:=by rw[(ee (h1.cach _ (am ht'))).1];omega
  exact JK.trans (h1:=Ab.spilt (Ab.flushN t h k).1 t k) ((JK.flushN hi ht (k:=k) (by omega)).trans (JK.eq rfl rfl rfl rfl)) (JK.freeAs (h1.spilt ht' hk'))
theorem zT {h:ab} {E:List Int} (hi:bo h E) {k:Nat} (lk:k<h.Larges.length):0<=(nth h.Larges k).Page/\(nth h.Larges k).Page+((nth h.Larges k).Pages.toNat:Nat)<=(tbl h).Entries.length:=by
 have h1:=aU (hi.L.lok _ (am lk));have h2:=hi.pg.bnd _ (eZ (sp:=h.Spans) (am lk) (db.2 ⟨(nth h.Larges k).Pages.toNat - 1,by omega,rfl⟩));exact⟨by omega,by omega⟩
theorem JK.freeL {h:ab} {E:List Int} {i k:Nat} (hi:bo h E) (lk:k<h.Larges.length):JK h (freeL h i k):=by
 obtain⟨b1,b2⟩:=zT hi lk;refine JK.less rfl rfl rfl fun q hq=>?_
 have he:=kY hi.ker b1 (nth h.Larges k).Pages.toNat b2 q;change (nth (dN h.Kernel (nth h.Larges k).Page (nth h.Larges k).Pages.toNat).Machine.Table.Entries q).Mode≠0 at hq;show nth (dN h.Kernel (nth h.Larges k).Page (nth h.Larges k).Pages.toNat).Machine.Table.Entries q=nth h.Kernel.Machine.Table.Entries q;rw[he]at hq |-;split at hq
 ·exact absurd rfl hq
 ·rename_i e;rw[if_neg e]
theorem JK.freeOb {h:ab} {t i:Nat} (hi:bo h []) (li:i<h.Objs.length) (ht:t<h.Caches.length):JK h (freeOb h t i).1:=by
 unfold Ab.freeOb;split
 ·rename_i hc
  obtain⟨l,hl,h1,-⟩:=(eX hi (am li)).1 hc;exact JK.freeL hi (zV hl h1).1
 ·rename_i hc
  split
  ·exact JK.refl h
  ·have h1:=hi.inQuar li hc
   exact JK.trans (h1:=Ab.inQuar h i) (JK.eq rfl rfl rfl rfl) (JK.recycs (E:=[]) (by rw[List.append_nil];exact h1) ht)
theorem JK.take {h:ab} {i:Nat} {k sd:Int} (hno:gv h (nth h.Spans i).Page=false):JK h {h with Seed:=sd,Spans:=h.Spans.set i (p6 (nth h.Spans i) k)}:=by
 refine⟨rfl,rfl,fun s hs hjp=>?_,fun q hq=>.inl ⟨hq,rfl⟩⟩;obtain⟨j,hj,rfl⟩:=bf hs;exact⟨_,iK _ hj fun e=>(by subst e;rw[hno]at hjp;cases hjp),rfl,fun _ z=>z⟩
theorem zG {t:aG} {q:Nat} (h:(nth t.Entries q).Mode≠0):q<t.Entries.length:=by
 by_cases e:q<t.Entries.length
 ·exact e
 ·exfalso
  apply h;unfold nth;rw[V1,U1 (by omega)]
  rfl
theorem JK.addS {h:ab} {k:af} {fr:List a7} {p c:Int} (s:Au h.Kernel p (k,true)):JK h (addS h k fr p c):=by
 obtain⟨f,f1,f2,f3,f4⟩:=s.yes rfl;have hlen:k.Machine.Table.Entries.length=h.Kernel.Machine.Table.Entries.length:=s.len;refine⟨rfl,rfl,fun z hz _=>⟨z,dd.2 (.inr hz),rfl,fun _ y=>y⟩,fun q hq=>?_⟩;change (nth k.Machine.Table.Entries q).Mode≠0 at hq;show((nth h.Kernel.Machine.Table.Entries q).Mode≠0/\(nth k.Machine.Table.Entries q).Frame=(nth h.Kernel.Machine.Table.Entries q).Frame)\/∀ u:Nat,(nth k.Machine.Table.Entries u).Mode≠0->(nth k.Machine.Table.Entries u).Frame=(nth k.Machine.Table.Entries q).Frame->u=q
 by_cases e:(q:Int)=p
 ·refine .inr fun u hu huf=>?_
  have hul:=zG hu;have f3u:=f3 u;have f3q:=f3 q;simp only at f3u f3q;rw[if_pos e]at f3q;rw[f3q]at huf;by_cases eu:(u:Int)=p
  ·omega
  ·rw[if_neg eu]at f3u
   rw[f3u]at hu huf;exact absurd huf (f4 u (by rw[<-hlen];exact hul) hu)
 ·have f3q:=f3 q
  simp only at f3q;rw[if_neg e]at f3q;rw[f3q]at hq |-;exact .inl ⟨hq,rfl⟩
theorem JK.addL {h:ab} {k:af} {fr:List a7} {p size t:Int} {n:Nat} (s:mP h.Kernel p n (k,n)):JK h (addL h k fr p n size t):=by
 have hlen:k.Machine.Table.Entries.length=h.Kernel.Machine.Table.Entries.length:=s.len;refine⟨rfl,rfl,fun z hz _=>⟨z,hz,rfl,fun _ y=>y⟩,fun q hq=>?_⟩;change (nth k.Machine.Table.Entries q).Mode≠0 at hq;show((nth h.Kernel.Machine.Table.Entries q).Mode≠0/\(nth k.Machine.Table.Entries q).Frame=(nth h.Kernel.Machine.Table.Entries q).Frame)\/∀ u:Nat,(nth k.Machine.Table.Entries u).Mode≠0->(nth k.Machine.Table.Entries u).Frame=(nth k.Machine.Table.Entries q).Frame->u=q
 by_cases e:p<=q/\(q:Int)<p+n
 ·exact .inr fun u hu huf=>(s.new q e.1 e.2).2 u (by rw[<-hlen];exact zG hu) hu huf
 ·have h3:=s.out q e
  simp only at h3;rw[h3]at hq |-;exact .inl ⟨hq,rfl⟩
theorem qZ (h:ab):∀ {n:Nat},n<=h.Spans.length->∀ s∈gt h n,(aP h s.Page).length=1
 | 0,_,s,hs=>by cases hs
 | n+1,hn,s,hs=>by
  unfold gt at hs;split at hs
  ·rename_i e
   rcases C2.1 hs with hs|hs
   ·exact qZ h (by omega) s hs
   ·unfold kR at e
    simp only[I0,C0]at e;rw[X0.1 hs];exact e.2
  ·exact qZ h (by omega) s hs
theorem bo.sole {h:ab} {E:List Int} (hi:bo h E) {s:au} (hs:s∈h.Spans) (h1:(aP h s.Page).length=1):mJ (tbl h) s.Page:=fun q hq hf=>by
 obtain⟨m1,m2,m3⟩:=hi.mapped hs;have hp:s.Page=((s.Page.toNat:Nat):Int):=by omega
 rw[hp,eB (by show s.Page.toNat<(tbl h).Entries.length;omega) m3]at h1;obtain⟨z,hz⟩:=List.length_eq_one_iff.1 h1;have g1:(s.Page.toNat:Int)∈pagesOn (tbl h) (nth (tbl h).Entries s.Page.toNat).Frame:=dw.2 ⟨by omega,m3,rfl⟩;have g2:(q:Int)∈pagesOn (tbl h) (nth (tbl h).Entries s.Page.toNat).Frame:=dw.2 ⟨zG hq,hq,hf⟩;rw[hz]at g1 g2;simp only[X0]at g1 g2;omega
theorem En {h:ab} (hi:bo h []) (hm:h.Meshing=false):bo (started h).1 []/\JI (started h).1:=by
 have hn:=hi.nums;unfold bW at hn;rw[C0]at hn;have hsd:=(iJ (aX h).length (show 0<=h.Seed/\h.Seed<=1073741823 by omega) ((aX h).length - 1)).2;have hpo:=jP (aX h) (show 0<=h.Seed/\h.Seed<=1073741823 by omega);have hnum:bW {h with Seed:=(shuf (aX h).length h.Seed).2} = true:=by
  unfold bW;rw[C0];unfold shuf;simp only;omega
 cases hp:ig (aX h) h.Seed with
 | nil=>
  have hst:Ab.started h=({h with Seed:=(shuf (aX h).length h.Seed).2},false):=by unfold Ab.started;rw[hp]
  rw[hst];exact⟨{hi with nums:=hnum},⟨fun e=>by simp[hm]at e,fun e=>by simp[hm]at e,fun e=>by simp[hm]at e,fun e=>by simp[hm]at e⟩⟩
 | cons q qs=>
  obtain⟨k1,k2,k3⟩:=hpo q (by rw[hp];exact I1 ..);have hst:Ab.started h=({h with Seed:=(shuf (aX h).length h.Seed).2,Meshing:=true,Job:=rK (cU (nth (aX h) q.A.toNat) (nth (aX h) q.B.toNat))},true):=by unfold Ab.started;rw[hp]
  rw[hst];have hmem:∀ s∈aX h,s∈h.Spans/\mJ (tbl h) s.Page:=fun s hs=>by
   have h1:=List.mem_of_mem_take hs;have h2:=kS h (I2 _) s h1;exact⟨h2,hi.sole h2 (qZ h (I2 _) s h1)⟩
  have ha:=hmem _ (am (xs:=aX h) (i:=q.A.toNat) (by omega));have hb:=hmem _ (am (xs:=aX h) (i:=q.B.toNat) (by omega));generalize nth (aX h) q.A.toNat=a at k3 ha |-;generalize nth (aX h) q.B.toNat=b at k3 hb |-;obtain⟨p1,p2,p3⟩:=nO k3;have hpl:(cU a b).Keep=a.Page/\(cU a b).Move=b.Page\/(cU a b).Keep=b.Page/\(cU a b).Move=a.Page:=by
   unfold cU;split
   ·exact .inr ⟨rfl,rfl⟩
   ·exact .inl ⟨rfl,rfl⟩
  have hjo:iH (rK (cU a b))=true:=fm.2 ⟨p1,by show(0:Int)<=0;omega,by show(0:Int)<=5;omega,by show(0:Int)<=0;omega,by show(0:Int)<=(((cU a b).Cells.length:Nat):Int);omega⟩;have hsp:∃ x∈h.Spans,∃ y∈h.Spans,x.Page=(cU a b).Keep/\y.Page=(cU a b).Move/\meshable x y=true/\mJ (tbl h) x.Page/\mJ (tbl h) y.Page:=by
   rcases hpl with⟨e1,e2⟩|⟨e1,e2⟩
   ·exact⟨a,ha.1,b,hb.1,e1.symm,e2.symm,k3,ha.2,hb.2⟩
   ·exact⟨b,hb.1,a,ha.1,e1.symm,e2.symm,by rw[iv];exact k3,hb.2,ha.2⟩
  obtain⟨x,hx,y,hy,ex,ey,hxy,sx,sy⟩:=hsp;exact⟨{hi with nums:=hnum,job:=fun _=>⟨hjo,⟨x,hx,ex⟩,⟨y,hy,ey⟩⟩,noj:=fun e=>by cases e},⟨fun _=>⟨by show(0:Int)<=0;omega,by show(0:Int)<=3;omega⟩,fun _=>⟨x,hx,y,hy,ex,ey,hxy⟩,fun _=>by show mJ (tbl h) (cU a b).Keep;rw[<-ex];exact sx,fun _=>by show mJ (tbl h) (cU a b).Move;rw[<-ey];exact sy⟩⟩
def fx (m:aH) (f:Nat):aH:=⟨m.Buffers.set f ((nth m.Buffers f).drop 1),m.Inbox.set (nth (nth m.Buffers f) 0).To.toNat (nth m.Inbox (nth (nth m.Buffers f) 0).To.toNat++[(nth (nth m.Buffers f) 0).Addr])⟩
def kj (m:aH) (t:Nat):aH:=⟨m.Buffers,m.Inbox.set t []⟩
def gq (m:aH) (f:Nat) (p:cW):aH:=⟨m.Buffers.set f (nth m.Buffers f++[p]),m.Inbox⟩
theorem d5 {m:aH} : bD m=true↔(1<=m.Buffers.length/\m.Buffers.length<=4/\m.Inbox.length=m.Buffers.length)/\(∀ i,i<m.Buffers.length->(∀ p∈nth m.Buffers i,0<=p.To/\p.To<=(m.Buffers.length:Int) - 1/\0<=p.Addr)/\∀ a∈nth m.Inbox i,0<=a)/\bp m m.Buffers.length<=30:=by
 unfold bD;simp only[I0,C0,bZ,fZ,v3,mi,LI];exact and_assoc
theorem nE (m:aH) (f t:Nat) (x:List cW) (y:List Int) (hf:f<m.Buffers.length) (ht:t<m.Inbox.length):∀ n:Nat,bp ⟨m.Buffers.set f x,m.Inbox.set t y⟩ n=bp m n+(if f<n then(x.length:Int) - ((nth m.Buffers f).length:Nat) else 0)+(if t<n then(y.length:Int) - ((nth m.Inbox t).length:Nat) else 0)
 | 0=>by simp[bp]
 | n+1=>by
  have ih:=nE m f t x y hf ht n;have e1:(nth (m.Buffers.set f x) n).length=if f=n then x.length else(nth m.Buffers n).length:=by
   rw[cx];by_cases e:f=n
   ·rw[if_pos ⟨e,by omega⟩,if_pos e]
   ·rw[if_neg fun z=>e z.1,if_neg e]
  have e2:(nth (m.Inbox.set t y) n).length=if t=n then y.length else(nth m.Inbox n).length:=by
   rw[cx];by_cases e:t=n
   ·rw[if_pos ⟨e,by omega⟩,if_pos e]
   ·rw[if_neg fun z=>e z.1,if_neg e]
  simp only[bp,ih,e1,e2];by_cases g1:f=n
  ·subst g1
   by_cases g2:t=f
   ·subst g2
    simp only[if_true,Nat.lt_irrefl,if_false,Nat.lt_succ_self];omega
   ·simp only[if_true,Nat.lt_irrefl,if_false,Nat.lt_succ_self,if_neg g2]
    by_cases g3:t<f
    ·rw[if_pos g3,if_pos (show t<f+1 by omega)];omega
    ·rw[if_neg g3,if_neg (show ¬t<f+1 by omega)];omega
  ·by_cases g2:t=n
   ·subst g2
    simp only[if_true,Nat.lt_irrefl,if_false,Nat.lt_succ_self,if_neg g1];by_cases g3:f<t
    ·rw[if_pos g3,if_pos (show f<t+1 by omega)];omega
    ·rw[if_neg g3,if_neg (show ¬f<t+1 by omega)];omega
   ·simp only[if_neg g1,if_neg g2]
    by_cases g3:f<n
    ·rw[if_pos g3,if_pos (show f<n+1 by omega)]
     by_cases g4:t<n
     ·rw[if_pos g4,if_pos (show t<n+1 by omega)];omega
     ·rw[if_neg g4,if_neg (show ¬t<n+1 by omega)];omega
    ·rw[if_neg g3,if_neg (show ¬f<n+1 by omega)]
     by_cases g4:t<n
     ·rw[if_pos g4,if_pos (show t<n+1 by omega)];omega
     ·rw[if_neg g4,if_neg (show ¬t<n+1 by omega)];omega
theorem KE {α:Type} [Inhabited α] {xs:List α} {i:Nat} (h:i<xs.length):xs.set i (nth xs i)=xs:=by
 rw[<-R1.1 (ah h) |>.2];exact List.set_getElem_self h
theorem Dq {m:aH} (h:bD m=true) {f:Nat} (hf:f<m.Buffers.length) (hn:0<(nth m.Buffers f).length):bD (fx m f)=true:=by
 obtain⟨⟨h1,h2,h3⟩,h4,h5⟩:=d5.1 h;obtain⟨g1,g2⟩:=h4 f hf;have hp:=g1 _ (am hn);have ht:(nth (nth m.Buffers f) 0).To.toNat<m.Inbox.length:=by omega
 refine d5.2 ⟨⟨?_,?_,?_⟩,fun i hi=>?_,?_⟩
 ·simp only[fx,Z0];exact h1
 ·simp only[fx,Z0];exact h2
 ·simp only[fx,Z0];exact h3
 ·simp only[fx,Z0]at hi |-
  obtain⟨k1,k2⟩:=h4 i hi;simp only[cx];refine⟨fun p hp=>?_,fun a ha=>?_⟩
  ·split at hp
   ·rename_i e;rw[<-e.1]at k1
    refine(h4 f hf).1 p (List.mem_of_mem_drop hp)
   ·exact k1 p hp
  ·split at ha
   ·rename_i e
    rcases C2.1 ha with ha|ha
    ·rw[e.1]at ha;exact k2 a ha
    ·rw[X0.1 ha];exact hp.2.2
   ·exact k2 a ha
 ·have hs:=nE m f (nth (nth m.Buffers f) 0).To.toNat ((nth m.Buffers f).drop 1) (nth m.Inbox (nth (nth m.Buffers f) 0).To.toNat++[(nth (nth m.Buffers f) 0).Addr]) hf ht m.Buffers.length
  simp only[fx,Z0];rw[hs,if_pos hf,if_pos (by omega),Q2,P2,List.length_singleton];omega
theorem Le {m:aH} (h:bD m=true) {t:Nat} (ht:t<m.Inbox.length):bD (kj m t)=true:=by
 obtain⟨⟨h1,h2,h3⟩,h4,h5⟩:=d5.1 h;refine d5.2 ⟨⟨h1,h2,?_⟩,fun i hi=>?_,?_⟩
 ·simp only[kj,Z0];exact h3
 ·obtain⟨k1,k2⟩:=h4 i hi
  simp only[kj,cx];refine⟨k1,fun a ha=>?_⟩;split at ha
  ·cases ha
  ·exact k2 a ha
 ·have hs:=nE m t t (nth m.Buffers t) [] (by omega) ht m.Buffers.length
  rw[KE (by omega)]at hs;show bp ⟨m.Buffers,m.Inbox.set t []⟩ m.Buffers.length<=30;rw[hs,if_pos (by omega),if_pos (by omega),List.length_nil];omega
theorem j9 {m:aH} (h:bD m=true) (b:Int):(aK m).count b=(m.Buffers.flatMap fun l=>l.map (·.Addr)).count b+(m.Inbox.flatMap fun x=>x).count b:=by
 unfold aK;rw[if_pos h,P4,jS]
theorem bo.mailed {h:ab} {E E':List Int} {m:aH} (hi:bo h E) (hm:bD m=true) (hl:m.Buffers.length=h.Mail.Buffers.length) (hc:∀ b,E'.count b+(aK m).count b=E.count b+(aK h.Mail).count b) (hs:∀ a,a∈E'\/a∈aK m->iU h.Spans a (-1)):bo {h with Mail:=m} E':=by
 have hp:(E++holders h).Perm (E'++holders {h with Mail:=m}):=by
  refine List.perm_iff_count.2 fun b=>?_
  have h1:=hc b;simp only[holders,ch,P4];omega
 exact {hi with
   mail:=hm
   nc:=hi.nc.trans hl.symm
   hfl:=fun a ha=>hs a (.inr ha)
   hin:=fun a ha=>hs a (.inl ha)
   nd:=hp.nodup_iff.1 hi.nd
   mem:=fun b=>by rw[<-hp.mem_iff];exact hi.mem b}
theorem DI {h:ab} {E E':List Int} {m:aH} (hi:bo h E) (hc:∀ b,E'.count b+(aK m).count b=E.count b+(aK h.Mail).count b):∀ a,a∈E'\/a∈aK m->iU h.Spans a (-1):=fun a ha=>by
 have h1:=hc a;have h2:0<E'.count a+(aK m).count a:=by
  rcases ha with ha|ha
  ·have:=List.count_pos_iff.2 ha;omega
  ·have:=List.count_pos_iff.2 ha;omega
 by_cases e:0<E.count a
 ·exact hi.hin a (List.count_pos_iff.1 e)
 ·exact hi.hfl a (List.count_pos_iff.1 (by omega))
theorem bo.deliv {h:ab} {E:List Int} {f:Nat} (hi:bo h E) (hf:f<h.Mail.Buffers.length) (hn:0<(nth h.Mail.Buffers f).length):bo {h with Mail:=fx h.Mail f} E:=by
 have hok:=Dq hi.mail hf hn;obtain⟨⟨h1,h2,h3⟩,h4,h5⟩:=d5.1 hi.mail;have hpt:=(h4 f hf).1 _ (am hn);have hc:∀ b,E.count b+(aK (fx h.Mail f)).count b=E.count b+(aK h.Mail).count b:=fun b=>by
  rw[j9 hok,j9 hi.mail];have c1:=gZ (fun l:List cW=>l.map (·.Addr)) b h.Mail.Buffers f ((nth h.Mail.Buffers f).drop 1) hf;have c2:=gZ (fun x:List Int=>x) b h.Mail.Inbox (nth (nth h.Mail.Buffers f) 0).To.toNat (nth h.Mail.Inbox (nth (nth h.Mail.Buffers f) 0).To.toNat++[(nth (nth h.Mail.Buffers f) 0).Addr]) (by omega);have c3:(nth h.Mail.Buffers f).map (·.Addr)=(nth (nth h.Mail.Buffers f) 0).Addr::((nth h.Mail.Buffers f).drop 1).map (·.Addr):=by
   generalize nth h.Mail.Buffers f=l at hn
   match l,hn with
   | p::l,_=>rfl
  simp only[fx];rw[c3]at c1;simp only[List.count_cons]at c1;simp only[P4,List.count_singleton]at c2;omega
 exact hi.mailed hok (by simp[fx]) hc (DI hi hc)
theorem bo.coll {h:ab} {E:List Int} {t:Nat} (hi:bo h E) (ht:t<h.Mail.Inbox.length):bo {h with Mail:=kj h.Mail t} (nth h.Mail.Inbox t++E):=by
 have hok:=Le hi.mail ht;have hc:∀ b,(nth h.Mail.Inbox t++E).count b+(aK (kj h.Mail t)).count b=E.count b+(aK h.Mail).count b:=fun b=>by
  rw[j9 hok,j9 hi.mail];have c2:=gZ (fun x:List Int=>x) b h.Mail.Inbox t [] ht;simp only[List.count_nil]at c2;simp only[kj,P4];omega
 exact hi.mailed hok rfl hc (DI hi hc)
theorem bo.send {h:ab} {E:List Int} {f:Nat} {p:cW} (hi:bo h (p.Addr::E)) (hf:f<h.Mail.Buffers.length) (hok:bD (gq h.Mail f p)=true):bo {h with Mail:=gq h.Mail f p} E:=by
 have hc:∀ b,E.count b+(aK (gq h.Mail f p)).count b=(p.Addr::E).count b+(aK h.Mail).count b:=fun b=>by
  rw[j9 hok,j9 hi.mail];have c1:=gZ (fun l:List cW=>l.map (·.Addr)) b h.Mail.Buffers f (nth h.Mail.Buffers f++[p]) hf;simp only[C4,O4,List.map_nil,P4,List.count_singleton]at c1;simp only[gq,List.count_cons];omega
 exact hi.mailed hok (by simp[gq]) hc (DI hi hc)
def qE (now:Int):List aL->Nat
 | []=>0
 | x::xs=>if x.Since<now - 100 then qE now xs+1 else 0
def aged (h:ab) (n:Int):ab:={h with Clock:=h.Clock+n,Quar:=⟨h.Quar.Room,h.Quar.Lst.drop (qE (h.Clock+n) h.Quar.Lst)⟩}
def lU (h:ab) (n:Int):List Int:=(h.Quar.Lst.take (qE (h.Clock+n) h.Quar.Lst)).map (·.Addr)
def tick (h:ab) (n:Int):ab:=freeAs (aged h n) (lU h n)
theorem nG (x:aL) (xs:List aL):∀ n,quarCells (x::xs) (n+1)=csz x.Class+quarCells xs n
 | 0=>by simp only[quarCells];show 0+csz x.Class=csz x.Class+0;omega
 | n+1=>by
  rw[gW,nG x xs n,gW];show csz x.Class+quarCells xs n+csz (nth xs n).Class=_;omega
theorem MQ (k:Int):0<=csz k:=by
 unfold csz;split
 ·exact Int.le_of_lt (Int.pow_pos (by decide))
 ·decide
theorem FJ:∀ (l:List aL) (k:Nat),qc (l.drop k)<=qc l
 | [],k=>by simp
 | x::xs,0=>W3 _
 | x::xs,k+1=>by
  have h1:=FJ xs k;have h2:=MQ x.Class;have h3:qc (x::xs)=csz x.Class+qc xs:=nG x xs xs.length;show qc (xs.drop k)<=qc (x::xs);omega
theorem bo.aged {h:ab} {E:List Int} {n:Int} (hi:bo h E) (hn:0<=n) (hc:h.Clock+n<=1000000):bo (aged h n) (lU h n++E):=by
 obtain⟨q1,q2,q3,q4,q5,q6⟩:=iP.1 hi.quar;have hnum:=hi.nums;unfold bW at hnum;rw[C0]at hnum;have hd:=List.drop_sublist (qE (h.Clock+n) h.Quar.Lst) h.Quar.Lst;have hp:(E++holders h).Perm ((lU h n++E)++holders (Ab.aged h n)):=by
  refine List.perm_iff_count.2 fun b=>?_
  have h1:=R0 (fun l:List aL=>(l.map (·.Addr)).count b) (List.take_append_drop (qE (h.Clock+n) h.Quar.Lst) h.Quar.Lst);simp only[C4,P4]at h1;simp only[holders,ch,Ab.aged,lU,P4];omega
 exact {hi with
   nums:=by unfold bW;rw[C0];simp only[Ab.aged];omega
   quar:=iP.2 ⟨fun y hy=>q1 y (hd.subset hy),q2.sublist hd,q3.sublist (hd.map _),q4,q5,Int.le_trans (FJ _ _) q6⟩
   snc:=fun y hy=>by
     have:=hi.snc y (hd.subset hy);show y.Since<=h.Clock+n;omega
   hqu:=fun y hy=>hi.hqu y (hd.subset hy)
   hin:=fun b hb=>by
     rcases C2.1 hb with hb|hb
     · obtain⟨y,hy,rfl⟩:=O3.1 hb
       exact(hi.hqu y (List.mem_of_mem_take hy)).any
     · exact hi.hin b hb
   nd:=hp.nodup_iff.1 hi.nd
   mem:=fun b=>by rw[<-hp.mem_iff];exact hi.mem b}
theorem bo.tick {h:ab} {n:Int} (hi:bo h []) (hn:0<=n) (hc:h.Clock+n<=1000000):bo (tick h n) []/\JK h (tick h n):=by
 have h1:=hi.aged hn hc;exact⟨bo.freeAs h1,JK.trans (h1:=Ab.aged h n) (JK.eq rfl rfl rfl rfl) (JK.freeAs h1)⟩
def collect (h:ab) (t:Nat):ab:=recycs t {h with Mail:=kj h.Mail t} (nth h.Mail.Inbox t)
theorem bo.collect {h:ab} {t:Nat} (hi:bo h []) (ht:t<h.Caches.length):bo (collect h t) []/\JK h (collect h t):=by
 have h1:=hi.coll (t:=t) (by rw[(d5.1 hi.mail).1.2.2,<-hi.nc];exact ht);exact⟨bo.recycs h1 ht,JK.trans (h1:={h with Mail:=kj h.Mail t}) (JK.eq rfl rfl rfl rfl) (JK.recycs h1 ht)⟩
def LV (h:ab) (t i:Nat):ab:={h with Kernel:=fJ h.Kernel (nth h.Objs i).Addr (csz (aO (nth h.Objs i).Size)).toNat,Objs:=dele h.Objs i,Mail:=gq h.Mail t ⟨(nth h.Objs i).Thread,(nth h.Objs i).Addr⟩}
def freeT (h:ab) (t i:Nat):ab × Int:=
 if aO (nth h.Objs i).Size<0 then(freeL h i (xi h (nth h.Objs i).Addr),0)
 else if(ar (tbl h) ((nth h.Objs i).Addr / 16)).Mode=1 then(h,5)
 else if(nth h.Objs i).Thread=t then(Ja h t i,0)
 else if bD (gq h.Mail t ⟨(nth h.Objs i).Thread,(nth h.Objs i).Addr⟩)=true then(LV h t i,0) else(h,5)
theorem y6 {h:ab} {t i:Nat} (e:(nth h.Objs i).Thread=t):freeT h t i=freeOb h t i:=by
 unfold freeT freeOb;rw[if_pos e]
theorem bo.freeT {h:ab} {t i:Nat} (hi:bo h []) (li:i<h.Objs.length) (ht:t<h.Caches.length):bo (freeT h t i).1 []/\JK h (freeT h t i).1:=by
 by_cases e:(nth h.Objs i).Thread=t
 ·rw[y6 e];exact⟨hi.freeOb li ht,JK.freeOb hi li ht⟩
 have h1:=hi.freeOb li ht;have h2:=JK.freeOb hi li ht;unfold Ab.freeOb at h1 h2;unfold Ab.freeT;split
 ·rename_i hc
  rw[if_pos hc]at h1 h2;exact⟨h1,h2⟩
 rename_i hc;rw[if_neg hc]at h1 h2;split
 ·exact⟨hi,JK.refl h⟩
 split
 ·rename_i hm
  obtain⟨⟨s,hs,g1,g2⟩,g3⟩:=(eX hi (am li)).2 hc;have k1:=hi.dropO li (iU.any ⟨s,hs,g1,.inr g2⟩);have k2:=k1.cells (k:=fJ h.Kernel (nth h.Objs i).Addr (csz (aO (nth h.Objs i).Size)).toNat) (D4 hi.ker _ _) rfl;exact⟨bo.send (p:=⟨(nth h.Objs i).Thread,(nth h.Objs i).Addr⟩) k2 (by show t<h.Mail.Buffers.length;rw[<-hi.nc];exact ht) hm,JK.eq rfl rfl rfl rfl⟩
 ·exact⟨hi,JK.refl h⟩
def kx (k:af) (a v:Int):af:=setCell k (fS k a) (a % 16) v
theorem ww {k:af} (h:aA k=true) {a v:Int} (ha:(ar k.Machine.Table (a / 16)).Mode≠0) (hv:0<=v/\v<=999):aA (kx k a v)=true:=by
 obtain⟨b1,b2,-⟩:=i6 h ha;exact pq h (f:=fS k a) b1 b2 hv
theorem bo.store {h:ab} {a v:Int} (hi:bo h []) (ha:(ar h.Kernel.Machine.Table (a / 16)).Mode≠0) (hv:0<=v/\v<=999):bo {h with Kernel:=kx h.Kernel a v} []/\JK h {h with Kernel:=kx h.Kernel a v}:=
 ⟨hi.cells (ww hi.ker ha hv) rfl,JK.eq rfl rfl rfl rfl⟩
open Go.RowKit
set_option maxRecDepth 20000
set_option maxHeartbeats 4000000
theorem KR {xs:List Int} {x:Int} (h:cA xs.length (fun j=>decide (nth xs j≠x))=true):x∉xs:=fun hm=>by
 obtain⟨j,hj⟩:=List.mem_iff_getElem?.1 hm;have:=d9 h (R1.1 hj).1;rw[bn hj]at this;simp at this
theorem Dh (xs:List Int) (x:Int) (hl:xs.length<=4611686018427387904):ao Tryz.prog 268 false [.val none (aD .imm xs),.val none [I x]] .one [B (decide (x∈xs))]:=by
 refine fO 18 [] Tryz.func268 rfl ?_
 repeat'(first|refine gO ?_|fail)
 (conv=>whnf)
 refine Lp.mk (ι:=Nat) (fun i=>[(0,.hold .one (aD .imm xs)),(1,.hold .one [I (x)]),(5,.hold .one [I ((i:Nat):Int)])]) (fun i=>i<=xs.length/\cA i (fun j=>decide (nth xs j≠x))=true) (fun i=>xs.length - i) 0 ?_ ⟨Q0 _,rfl⟩ fun i hi=>?_
 ·exact wB
 obtain⟨hi,ai⟩:=hi;by_cases li:i<xs.length
 ·have hx:=ah li
  by_cases e:nth xs i=x
  ·repeat'(first|refine gA ?_|(conv=>whnf);first|with_reducible refine Ix.nat (aa hx) ?_)
   exact R0 (fun z=>[B z]) ((by symm;exact O0 (by rw[<-e];exact am li)))
  ·repeat'(first|refine gA ?_|(conv=>whnf);first|with_reducible refine Ix.nat (aa hx) ?_)
   ((conv=>whnf);refine Nx.mk (i+1) ⟨by omega,bK ai (O0 e)⟩ (by omega) ?_;(exact wB))
 ·repeat'(first|refine gD ?_|fail)
  obtain rfl:i=xs.length:=by omega
  exact R0 (fun z=>[B z]) ((by symm;exact P0 (KR ai)))
theorem bH.more {M M':ac} {w w':World} (h:bH M w w') (hm:∀ b o,M b o->M' b o):bH M' w w':=
 ⟨h.os,h.tape,h.output,h.size,fun b hb hn=>h.blk b hb fun o ho=>hn o (hm b o ho),fun b o hb hn=>h.cel b o hb fun ho=>hn (hm b o ho),fun b o hb hn=>h.fro b o hb fun ho=>hn (hm b o ho)⟩
theorem aS.wk {P:Program} {f:Nat} {sh:Bool} {c c':List C} {A B:List MA} {k:Kd} {rcs:List C} (h:aS P f sh A (.ptr c::B) k rcs) (hw:Jm c c'):aS P f sh A (.ptr c'::B) k rcs:=by
 refine⟨h.has,fun w S V vs hS hV hVd hA=>(h.run w S V vs hS hV hVd hA).mono fun e w1 hv=>?_⟩;obtain⟨v,he,hk,X,V',S1,hX,hV',hS1,hVd',hXV,hXS,hVS1,hh,hr,hm⟩:=hv;refine⟨v,he,hk,X,V',S1,hX,hV',hS1,hVd',hXV,hXS,hVS1,hh,hr,?_⟩;cases vs with
 | nil=>exact hm.elim
 | cons v0 vs=>
  obtain⟨⟨X1,Y,h1,h2,h3,⟨g,o,e1,e2⟩,hrow⟩,hm2⟩:=hm;refine⟨⟨X1,Y,h1,h2,h3,⟨g,o,e1,fun j hj=>e2 j (by rw[(qS hw).1];exact hj)⟩,zl hw hrow⟩,hm2⟩
theorem aS.frame {P:Program} {f:Nat} {sh:Bool} {c c' r:List C} {A B:List MA} {k:Kd} {rcs:List C} (h:aS P f sh (.ptr c::A) (.ptr c'::B) k rcs) (hl:c'.length=c.length):aS P f sh (.ptr (c++r)::A) (.ptr (c'++r)::B) k rcs:=by
 refine⟨h.has,fun w S V vs hS hV hVd hA=>?_⟩;cases vs with
 | nil=>exact hA.elim
 | cons v0 vs=>
 obtain⟨⟨X1,Y,hX1,hY,hXY,⟨g,q,rfl,hcell⟩,ff,hf1,hf2,hf3⟩,hA'⟩:=hA;have hlen:(c++r).length=c.length+r.length:=P2
 let V0:ac:=piece g q ff 0 c.length
 let W:Nat->ac:=HH V0 (fun i=>V (i+1))
 have hcX:∀ o,q<=o->o<q+(c++r).length->X1 g o:=fun o h1 h2=>by
  have:=(hcell (o - q) (by omega)).1
  rwa [show q+(o - q)=o by omega]at this
 have hV0:∀ b o,V0 b o->V 0 b o:=fun b o ho=>by
  rcases ho with⟨rfl,h1,h2⟩|⟨j,-,h2,h3⟩
  ·exact hX1 _ _ (hcX o (by omega) (by omega))
  ·exact hY _ _ (hf2 j (by omega) b o h3)
 have hWV:∀ i b o,W i b o->V i b o:=fun i b o ho=>by
  cases i with
  | zero=>exact hV0 b o ho
  | succ i=>exact ho
 have hA2:K9 w S W (.ptr c::A) (.pointer (some ⟨g,q,none⟩)::vs):=by
  refine⟨?_,hA'⟩;have:=rx (lo:=0) (n:=c.length) (cs:=c++r) (by omega) hcell hf1 hf2 hf3 hXY;rw[show bq (c++r) 0 c.length=c by simp[bq]]at this;simp only[Y4,Nat.add_zero]at this;exact this
 refine(h.run w S W _ hS (fun i b o ho=>hV i b o (hWV i b o ho)) (fun i i' hne b o h1 h2=>hVd i i' hne b o (hWV i b o h1) (hWV i' b o h2)) hA2).mono fun e w1 hv=>?_
 obtain⟨v,he,hk,X,V',S1,hX,hV',hS1,hVd',hXV,hXS,hVS1,hh,hr,hm⟩:=hv;have hsub:∀ b o,(∃ i,W i b o)->∃ i,V i b o:=fun b o ⟨i,hi⟩=>⟨i,hWV i b o hi⟩
 let R:ac:=fun b o=>V 0 b o/\¬V0 b o
 have hRW:∀ b o,R b o->¬∃ i,W i b o:=fun b o hR ⟨i,hi⟩=>by
  cases i with
  | zero=>exact hR.2 hi
  | succ i=>exact hVd 0 (i+1) (by omega) b o hR.1 hi
 have hRold:∀ b o,R b o->b<w.heap.size:=fun b o hR=>(hV 0 b o hR.1).1
 have hRout:∀ b o,R b o->¬((∃ i,W i b o)\/(b<w1.heap.size/\w.heap.size<=b)):=fun b o hR ho=>by
  rcases ho with ho|ho
  ·exact hRW b o hR ho
  ·have:=hRold b o hR;omega
 have hRsame:bi R w w1:=fun b o hR=>⟨hk.cel b o (hRold b o hR) (hRW b o hR),hk.fro b o (hRold b o hR) (hRW b o hR)⟩
 have hRS1:∀ b o,R b o->¬S1 b o:=fun b o hR hs=>by
  rcases hS1 b o hs with⟨-,h1⟩|h1
  ·exact(hV 0 b o hR.1).2 h1
  ·exact hRout b o hR h1
 have hSsame:bi S w w1:=fun b o hb=>⟨hk.cel b o (hS b o hb) (fun⟨i,hi⟩=>(hV i b o (hWV i b o hi)).2 hb),hk.fro b o (hS b o hb) (fun⟨i,hi⟩=>(hV i b o (hWV i b o hi)).2 hb)⟩
 have hRc:∀ j,c.length<=j->j<(c++r).length->R g (q+j):=fun j h1 h2=>by
  refine⟨hX1 _ _ (hcell j h2).1,fun ho=>?_⟩;rcases ho with⟨-,h3,h4⟩|⟨j',h3,h4,h5⟩
  ·omega
  ·exact hXY _ _ (hcell j h2).1 (hf2 j' (by omega) _ _ h5)
 have hRf:∀ j,c.length<=j->j<(c++r).length->∀ b o,ff j b o->R b o:=fun j h1 h2 b o ho=>by
  refine⟨hY _ _ (hf2 j h2 b o ho),fun hp=>?_⟩;rcases hp with⟨rfl,h3,h4⟩|⟨j',h3,h4,h5⟩
  ·exact hXY _ _ (hcX o (by omega) (by omega)) (hf2 j h2 _ _ ho)
  ·exact hf3 j j' h2 (by omega) (by omega) b o ho h5
 let U:Nat->ac:=HH (fun b o=>V' 0 b o\/R b o) (fun i=>V' (i+1))
 have hU:∀ i b o,U i b o->V' i b o\/(i=0/\R b o):=fun i b o ho=>by
  cases i with
  | zero=>exact ho.imp id (fun h=>⟨rfl,h⟩)
  | succ i=>exact .inl ho
 refine⟨v,he,hk.more hsub,X,U,S1,fun b o ho=>(hX b o ho).imp (hsub b o) id,fun i b o ho=>?_,fun b o ho=>(hS1 b o ho).imp id (Or.imp (hsub b o) id),fun i i' hne b o h1 h2=>?_,fun i b o h1 h2=>?_,hXS,fun i b o h1 h2=>?_,hh,hr,?_,hm.2⟩
 ·rcases hU i b o ho with h1|⟨-,h1⟩
  ·exact(hV' i b o h1).imp (hsub b o) id
  ·exact .inl ⟨0,h1.1⟩
 ·rcases hU i b o h1 with h1|⟨e1,h1⟩
  ·rcases hU i' b o h2 with h2|⟨e2,h2⟩
   ·exact hVd' i i' hne b o h1 h2
   ·exact hRout b o h2 (hV' i b o h1)
  ·rcases hU i' b o h2 with h2|⟨e2,h2⟩
   ·exact hRout b o h1 (hV' i' b o h2)
   ·exact hne (by omega)
 ·rcases hU i b o h2 with h2|⟨-,h2⟩
  ·exact hXV i b o h1 h2
  ·exact hRout b o h2 (hX b o h1)
 ·rcases hU i b o h1 with h1|⟨-,h1⟩
  ·exact hVS1 i b o h1 h2
  ·exact hRS1 b o h1 h2
 ·obtain⟨Xa,Ya,ha1,ha2,ha3,⟨ga,oa,hea,ha4⟩,fa,ha5,ha6,ha7⟩:=(show ou w1 (fun b o=>S b o\/S1 b o) (V' 0) (.ptr c') (.pointer (some ⟨g,q,none⟩)) from hm.1)
  obtain⟨rfl,rfl⟩ : g=ga/\q=oa:=by simpa using hea
  have hlen':(c'++r).length=c.length+r.length:=by rw[P2,hl]
  show ou w1 (fun b o=>S b o\/S1 b o) (fun b o=>V' 0 b o\/R b o) (.ptr (c'++r)) (.pointer (some ⟨g,q,none⟩));have faV:∀ j,j<c.length->∀ b o,fa j b o->V' 0 b o:=fun j hj b o ho=>ha2 _ _ (ha6 j (by omega) b o ho)
  refine⟨fun b o=>Xa b o\/(R b o/\∃ j,c.length<=j/\j<(c++r).length/\b=g/\o=q+j),fun b o=>Ya b o\/∃ j,c.length<=j/\j<(c++r).length/\ff j b o,fun b o ho=>?_,fun b o ho=>?_,fun b o h1 h2=>?_,⟨g,q,rfl,fun j hj=>?_⟩,fun j=>if j<c.length then fa j else ff j,fun j d hj=>?_,fun j hj b o ho=>?_,fun j j' hj hj' hne b o h1 h2=>?_⟩
  ·exact ho.imp (ha1 b o) (·.1)
  ·rcases ho with ho|⟨j,h1,h2,h3⟩
   ·exact .inl (ha2 b o ho)
   ·exact .inr (hRf j h1 h2 b o h3)
  ·rcases h1 with h1|⟨h1,j,j1,j2,rfl,rfl⟩
   ·rcases h2 with h2|⟨j,j1,j2,j3⟩
    ·exact ha3 b o h1 h2
    ·exact hRout b o (hRf j j1 j2 b o j3) (hV' 0 b o (ha1 b o h1))
   ·rcases h2 with h2|⟨j',j3,j4,j5⟩
    ·exact hRout _ _ h1 (hV' 0 _ _ (ha2 _ _ h2))
    ·exact hXY _ _ (hcell j j2).1 (hf2 j' j4 _ _ j5)
  ·rw[hlen']at hj
   by_cases hc:j<c.length
   ·have:=ha4 j (by omega)
    exact⟨.inl this.1,this.2⟩
   ·have hR:=hRc j (by omega) (by omega)
    have hs:=hRsame _ _ hR;have hce:=hcell j (by omega);refine⟨.inr ⟨hR,j,by omega,by omega,rfl,rfl⟩,?_,?_⟩
    ·rw[hs.1];exact hce.2.1
    ·rw[hs.2];exact hce.2.2
  ·dsimp only
   by_cases hc:j<c.length
   ·rw[if_pos hc]
    rw[Q3 (by omega)]at hj;exact ha5 j d hj
   ·rw[if_neg hc]
    rw[R3 (by omega),hl]at hj;have hj2:(c++r)[j]? = some d:=by rw[R3 (by omega)];exact hj
    have hjl:=(R1.1 hj2).1;have h3:=(hf1 j d hj2).keep hSsame (fun b o ho=>hRsame b o (hRf j (by omega) hjl b o ho));have hce:=(hRsame _ _ (hRc j (by omega) hjl)).1;have:bS w1 .box (.pointer (some ⟨g,q,none⟩)) j=bS w .box (.pointer (some ⟨g,q,none⟩)) j:=by
     simp only[bS];rw[hce]
    rw[this];exact h3.mono (fun _ _ h=>.inl h) (fun _ _ h=>h)
  ·rw[hlen']at hj
   split at ho
   ·rename_i hc;exact .inl (ha6 j (by omega) b o ho)
   ·exact .inr ⟨j,by omega,by omega,ho⟩
  ·rw[hlen']at hj hj'
   split at h1
   ·rename_i c1
    split at h2
    ·exact ha7 j j' (by omega) (by omega) hne b o h1 h2
    ·exact hRout b o (hRf j' (by omega) (by omega) b o h2) (hV' 0 b o (faV j c1 b o h1))
   ·split at h2
    ·rename_i c1;exact hRout b o (hRf j (by omega) (by omega) b o h1) (hV' 0 b o (faV j' c1 b o h2))
    ·exact hf3 j j' (by omega) (by omega) hne b o h1 h2
mutual
theorem Nk:∀ c:C,fz (fz c)=fz c
 | .v x=>by simp[fz]
 | .s o rows=>by simp only[fz];rw[FV rows]
 | .x=>by simp[fz]
 | .z=>by simp[fz]
 | .m _=>by simp[fz]
 | .it _ _=>by simp[fz]
theorem FV:∀ rs:List (List C),fzR (fzR rs)=fzR rs
 | []=>rfl
 | r::rs=>by simp only[fzR];rw[qn r,FV rs]
theorem qn:∀ cs:List C,d3 (d3 cs)=d3 cs
 | []=>rfl
 | c::cs=>by simp only[d3];rw[Nk c,qn cs]
end
theorem mh (k:af) (hk:aA k=true) (hc:k.Calls≠100000):aS Tryz.prog 347 false [.ptr (af.enc .own k)] [.ptr (af.enc .own (df k))] .one [B (!refd k)]:=by
 have hs:=bG hk;have hcl:=(aC.1 hk).2.2.2.2;have c1:=Dh k.Refuse k.Calls (by have:=hs.2;omega);refine fM 22 [] [(2,9,[11,12,13,14,15,16,17,18,19])] [(0,0)] Tryz.func347 rfl (fun u q=>?_)
 repeat'(first|refine gO ?_|(conv=>whnf);first|refine Cl.eq (c1) ⟨⟨rfl,dG _⟩,⟨rfl,R0 (fun z=>[I z]) (by omega)⟩,trivial⟩ ?_)
 refine aR.mk rfl ?_ ?_
 ·rfl
 ·exact wB
theorem my (k:af) (p m:Int) (hk:aA k=true) (hc:k.Calls≠100000) (hm:(ar k.Machine.Table p).Mode≠0) (h12:m=1\/m=2):aS Tryz.prog 406 false [.ptr (af.enc .own k),.val none [I p],.val none [I m]] [.ptr (af.enc .own (jG k p m).1),.val none [I p],.val none [I m]] .one [B (jG k p m).2]:=by
 have hs:=bG hk;have c1:=mh k hk hc;have c2:=dY (df k) p hs.1.2;have c3:=aE m 1 2;rw[O0 (by omega)]at c3;obtain⟨m1,m2,m3,-⟩:=cv hk hm;have hx:=ah (xs:=k.Machine.Table.Entries) (i:=p.toNat) (by omega);have hm':¬(ar (df k).Machine.Table p).Mode=0:=hm;unfold jG;cases e:refd k<;>rw[e]at c1
 ·rw[if_neg (by simp),GF]
  refine fM 31 [(347,[2])] [] [(0,0),(0,0),(0,0)] Tryz.func406 rfl (fun u q=>?_)
  repeat'(first|refine gA ?_|(conv=>whnf);first|refine cu.mk (c1) (.inl rfl) ?_|refine Cl.eq (c2) ⟨af.enc_fz (df k),⟨rfl,rfl⟩,trivial⟩ ?_|refine Cl.mk (c3) ?_|refine Ix.mk m1 (aa hx) ?_|refine Pu.one rfl rfl (aa hx) rfl (W0 rfl) rfl ?_)
  refine aR.mk rfl ?_ ?_
  ·rfl
  ·exact wB
 ·rw[if_pos rfl]
  refine fM 31 [(347,[2])] [] [(0,0),(0,0),(0,0)] Tryz.func406 rfl (fun u q=>?_)
  repeat'(first|refine gA ?_|(conv=>whnf);first|refine cu.mk (c1) (.inl rfl) ?_|refine Cl.eq (c2) ⟨af.enc_fz (df k),⟨rfl,rfl⟩,trivial⟩ ?_|refine Cl.mk (c3) ?_)
  refine aR.mk rfl ?_ ?_
  ·rfl
  ·exact wB
theorem Rw.two {bs:List C} {off i k j i2 k2 j2:Nat} {K:List C->Nat->Prop} {o o2:dz} {rows rows2:List (List C)} {r r2:List C} (h1:bs[off]? = some (.s o rows)) (h2:rows[i]? = some r) (h3:r.length=k) (h4:r[j]? = some (.s o2 rows2)) (h5:rows2[i2]? = some r2) (h6:r2.length=k2) (hK:K r2 j2):Rw bs off [(i,k,j),(i2,k2,j2)] K:=
 Rw.mk (r:=r2) (j:=j2) (by simp[bQ,h1,h2,h3,h4,h5,h6]) hK
theorem xC (k:af) (a b c:Int) (hk:aA k=true) (ha:(ar k.Machine.Table a).Mode≠0) (hb:(ar k.Machine.Table b).Mode≠0) (h15:0<=c/\c<=15):aS Tryz.prog 407 false [.ptr (af.enc .own k),.val none [I a],.val none [I b],.val none (aD .imm [c])] [.ptr (af.enc .own (xV k a b c)),.val none [I a],.val none [I b],.val none (aD .imm [c])] .one [B true]:=by
 have hs:=bG hk;have c1:=dY k a hs.1.2;have c2:=dY k b hs.1.2;have c3:=aE c 0 15;rw[O0 h15]at c3;obtain⟨a1,a2,a3,a4,a5⟩:=cv hk ha;obtain⟨b1,b2,b3,b4,b5⟩:=cv hk hb;have hul:=(bg.1 (aC.1 hk).2.1).2.2.1;have ra:=row16 hk (f:=mn k a) (by unfold mn;omega);have rb:=row16 hk (f:=mn k b) (by unfold mn;omega);have hxa:k.Machine.Frames.Cells[(ar k.Machine.Table a).Frame.toNat]? = some (nth k.Machine.Frames.Cells (mn k a)):=ah (by omega);have hxb:k.Machine.Frames.Cells[(ar k.Machine.Table b).Frame.toNat]? = some (nth k.Machine.Frames.Cells (mn k b)):=ah (by omega);have hya:=ah (xs:=nth k.Machine.Frames.Cells (mn k a)) (i:=c.toNat) (by omega);have hyb:=ah (xs:=nth k.Machine.Frames.Cells (mn k b)) (i:=c.toNat) (by omega);have hea:=ah (xs:=k.Machine.Table.Entries) (i:=a.toNat) (by omega);have heb:=ah (xs:=k.Machine.Table.Entries) (i:=b.toNat) (by omega);rw[a3]at a4 hxa;rw[b3]at b4 hxb;have hq0:[c][0]? = some c:=rfl;refine fM 90 [] [(13,28,[61,62,63,64,65,66,67,68,69,70,71,72,73,74,75,76,77,78,79,80,81,82,83,84,85,86,87,88])] [(0,0),(0,0),(0,0),(0,0)] Tryz.func407 rfl (fun u q=>?_)
 repeat'(first|refine gA ?_|(conv=>whnf);first|refine Sm.rf ?_|refine Cl.eq (c1) ⟨af.enc_fz k,⟨rfl,rfl⟩,trivial⟩ ?_|refine Cl.eq (c2) ⟨af.enc_fz k,⟨rfl,rfl⟩,trivial⟩ ?_)
 (conv=>whnf)
 refine Lp.mk (ι:=Nat) (fun n=>[(0,.hold .box (af.enc .own k)),(1,.hold .one [I (a)]),(2,.hold .one [I (b)]),(3,.hold .one (aD .imm [c])),(9,.hold .one [I ((n:Nat):Int)])]) (fun n=>n<=1) (fun n=>1 - n) (0) ?_ (Q0 _) fun n hn=>?_
 ·exact wB
 by_cases ln:n<1
 ·obtain rfl:n=0:=by omega
  repeat'(first|refine gD ?_|(conv=>whnf);first|refine Sm.rf ?_|refine Ix.mk (by decide) (aa hq0) ?_|refine Cl.mk (c3) ?_)
  ((conv=>whnf);refine Nx.mk 1 (by omega) (by omega) ?_;(exact wB))
 ·obtain rfl:n=1:=by omega
  repeat'(first|refine gD ?_|(conv=>whnf);first|refine Sm.rf ?_|refine Ix.mk a1 (aa hea) ?_|refine Ix.mk b1 (aa heb) ?_|refine Rw.one rfl (aa hea) rfl ?_|refine Rw.one rfl (aa heb) rfl ?_)
  (conv=>whnf)
  refine Lp.mk (ι:=Nat) (fun j=>[(0,.hold .box (af.enc .own (LZ k a b c j))),(3,.hold .one (aD .imm [c])),(10,.hold .one [I ((nth k.Machine.Table.Entries a.toNat).Frame)]),(11,.hold .one [I ((nth k.Machine.Table.Entries b.toNat).Frame)]),(12,.hold .one [I ((j:Nat):Int)])]) (fun j=>j<=1) (fun j=>1 - j) (0) ?_ (Q0 _) fun j hj=>?_
  ·exact wB
  by_cases lj:j<1
  ·obtain rfl:j=0:=by omega
   repeat'(first|refine gD ?_|(conv=>whnf);first|refine Sm.rf ?_|refine Ix.mk (by decide) (aa hq0) ?_|refine Ix.mk a4 (aa hxa) ?_|refine Ix.mk b4 (aa hxb) ?_|refine Ix.mk h15.1 (aa hya) ?_|refine Ix.mk h15.1 (aa hyb) ?_|refine Rw.one rfl (aa hxb) rfl ?_|refine Rw.one rfl (aa hxa) rfl ?_|refine Rw.two rfl (aa hxa) rfl rfl (aa hya) rfl ?_|refine Pu.two rfl rfl (aa hxb) rfl rfl rfl (aa hyb) rfl (I2 _) rfl ?_)
   ((conv=>whnf);refine Nx.mk 1 (by omega) (by omega) ?_)
   rw[show LZ k a b c 1=xV k a b c from rfl];unfold xV;rw[BP,show mn k b=(nth k.Machine.Table.Entries b.toNat).Frame.toNat by unfold mn;rw[b3]];exact wB
  ·obtain rfl:j=1:=by omega
   repeat'(first|refine gD ?_|(conv=>whnf);first|refine Sm.rf ?_)
   refine aR.mk rfl ?_ ?_
   ·rfl
   ·exact wB
theorem Eu (k:af) (p o:Int) (hk:aA k=true) (hc:k.Calls≠100000) (hp:(ar k.Machine.Table p).Mode≠0) (ho:(ar k.Machine.Table o).Mode≠0) (hpo:p≠o):aS Tryz.prog 408 false [.ptr (af.enc .own k),.val none [I p],.val none [I o]] [.ptr (af.enc .own (yN k p o).1),.val none [I p],.val none [I o]] .one [B (yN k p o).2]:=by
 have hs:=bG hk;have c1:=mh k hk hc;have c2:=dY (df k) p hs.1.2;have c3:=dY (df k) o hs.1.2;obtain⟨p1,p2,p3,p4,p5⟩:=cv hk hp;obtain⟨o1,o2,o3,o4,o5⟩:=cv hk ho;have hul:=(bg.1 (aC.1 hk).2.1).2.2.1;have hx:=ah (xs:=k.Machine.Table.Entries) (i:=p.toNat) (by omega);have hy:=ah (xs:=k.Machine.Table.Entries) (i:=o.toNat) (by omega);have hp':¬(ar (df k).Machine.Table p).Mode=0:=hp;have ho':¬(ar (df k).Machine.Table o).Mode=0:=ho;rw[p3]at p4 p5;have c5:=yO (uh (df k) p.toNat ⟨2,(nth k.Machine.Table.Entries o.toNat).Frame⟩) (nth k.Machine.Table.Entries p.toNat).Frame (Ju _ _ hs.1.2) ⟨p4,by show _<((k.Machine.Frames.Cells.length:Nat):Int);omega,p5⟩;rw[HV]at c5;unfold yN;cases e:refd k<;>rw[e]at c1
 ·rw[if_neg (by simp)]
  refine fM 60 [(347,[2]),(349,[2,0])] [(4,274,[38,39,40,41,42,43,44,45,46,47,48,49,50,51,52,53,54,56,0,1,2,3,4,5,6,7,8,9,10,11,12,13,14,15,16,17,1000,1001,1002,1003,1004,1005,1006,18,19])] [(0,0),(0,0),(0,0)] Tryz.func408 rfl (fun u q=>?_)
  repeat'(first|refine gA ?_|(conv=>whnf);first|refine Sm.rf ?_|refine cu.mk (c1) (.inl rfl) ?_|refine Cl.eq (c2) ⟨af.enc_fz (df k),⟨rfl,rfl⟩,trivial⟩ ?_|refine Cl.eq (c3) ⟨af.enc_fz (df k),⟨rfl,rfl⟩,trivial⟩ ?_|refine Ix.mk p1 (aa hx) ?_|refine Ix.mk o1 (aa hy) ?_|refine Rw.one rfl (aa hx) rfl ?_|refine Rw.one rfl (aa hy) rfl ?_|refine Pu.one rfl rfl (aa hx) rfl (W0 rfl) rfl ?_|refine cu.mk (c5) (.inl rfl) ?_)
  refine aR.mk rfl ?_ ?_
  ·rfl
  ·exact wB
 ·rw[if_pos rfl]
  refine fM 60 [(347,[2]),(349,[2,0])] [(4,274,[38,39,40,41,42,43,44,45,46,47,48,49,50,51,52,53,54,56,0,1,2,3,4,5,6,7,8,9,10,11,12,13,14,15,16,17,1000,1001,1002,1003,1004,1005,1006,18,19])] [(0,0),(0,0),(0,0)] Tryz.func408 rfl (fun u q=>?_)
  repeat'(first|refine gA ?_|(conv=>whnf);first|refine Sm.rf ?_|refine cu.mk (c1) (.inl rfl) ?_|refine Cl.eq (c2) ⟨af.enc_fz (df k),⟨rfl,rfl⟩,trivial⟩ ?_|refine Cl.eq (c3) ⟨af.enc_fz (df k),⟨rfl,rfl⟩,trivial⟩ ?_)
  refine aR.mk rfl ?_ ?_
  ·rfl
  ·exact wB
theorem xx (m:aQ) (a:Int) (hs:aQ.sml m) (ha:0<=a/\a<512):ao Tryz.prog 411 false [.val (some 3) (aQ.enc .imm m),.val none [I a]] (.tup [some 2,none]) (bj.enc .own (ar m.Table (a / 16))++[I (a % 16)]):=by
 have c2:=cP m.Table (a / 16) hs.2;have htm:a.tmod 16=a % 16:=dZ ha.1;refine fO 16 [] Tryz.func411 rfl ?_ (.inr ⟨trivial,trivial,trivial,trivial⟩)
 repeat'(first|refine gD ?_|(conv=>whnf);first|refine Sm.rf ?_|refine Cl.mk (c2) ?_|refine Wr.mk (oM ha) ?_|refine Cd.mk (by decide) ?_|refine Ev.mk htm ?_)
 rfl
theorem Ej (m:aQ) (a v:Int) (hm:de m=true) (hs:aQ.sml m) (ha:0<=a/\a<512) (hv:0<=v/\v<=999) (hf:(ar m.Table (a / 16)).Mode≠0->0<=(ar m.Table (a / 16)).Frame/\(ar m.Table (a / 16)).Frame<m.Frames.Cells.length/\(nth m.Frames.Cells (ar m.Table (a / 16)).Frame.toNat).length=16):ao Tryz.prog 410 false [.val (some 3) (aQ.enc .imm m),.val none [I a],.val none [I v]] (.tup [some 3,none]) (aQ.enc .own (kE m a v).1++[I (kE m a v).2]):=by
 have c0:=mU m hs;rw[hm]at c0;have c1:=qv m hs;have c2:=xx m a hs ha;have c3:=aE v 0 999;rw[O0 hv]at c3;have hfr:=aQ.enc_fr (kE m a v).1;unfold kE at hfr |-;by_cases e0:(ar m.Table (a / 16)).Mode=0
 ·rw[if_pos e0]at hfr |-
  refine fO 47 [] Tryz.func410 rfl ?_ (.inr (aN hfr ⟨trivial,trivial⟩))
  repeat'(first|refine gA ?_|(conv=>whnf);first|refine Sm.rf ?_|refine Cl.mk (c0) ?_|refine Cl.mk (c1) ?_|refine Cl.mk (c2) ?_|refine Cl.mk (c3) ?_)
  rfl
 ·rw[if_neg e0]at hfr |-
  by_cases e1:(ar m.Table (a / 16)).Mode=1
  ·rw[if_pos e1]at hfr |-
   refine fO 47 [] Tryz.func410 rfl ?_ (.inr (aN hfr ⟨trivial,trivial⟩))
   repeat'(first|refine gA ?_|(conv=>whnf);first|refine Sm.rf ?_|refine Cl.mk (c0) ?_|refine Cl.mk (c1) ?_|refine Cl.mk (c2) ?_|refine Cl.mk (c3) ?_)
   rfl
  ·rw[if_neg e1]at hfr |-
   obtain⟨f1,f2,f3⟩:=hf e0;have hx:=ah (xs:=m.Frames.Cells) (i:=(ar m.Table (a / 16)).Frame.toNat) (by omega);have hy:=ah (xs:=nth m.Frames.Cells (ar m.Table (a / 16)).Frame.toNat) (i:=(a % 16).toNat) (by omega);simp only at hfr |-;rw[ES]at hfr |-;refine fO 47 [] Tryz.func410 rfl ?_ (.inr (aN hfr ⟨trivial,trivial⟩))
   repeat'(first|refine gA ?_|(conv=>whnf);first|refine Sm.rf ?_|refine Cl.mk (c0) ?_|refine Cl.mk (c1) ?_|refine Cl.mk (c2) ?_|refine Cl.mk (c3) ?_|refine Ix.mk f1 (aa hx) ?_|refine Ix.mk (by omega) (aa hy) ?_|refine Rw.one rfl (aa hx) rfl ?_|refine Pu.two rfl rfl (aa hx) rfl rfl rfl (aa hy) rfl (I2 _) rfl ?_)
   rfl
theorem kW {k:af} {j:cj} : jmay k j=true↔(aA k=true/\k.Calls≠100000)/\iH j=true/\(ar k.Machine.Table j.Plan.Keep).Mode≠0/\(ar k.Machine.Table j.Plan.Move).Mode≠0/\(ar k.Machine.Table j.Plan.Keep).Frame≠(ar k.Machine.Table j.Plan.Move).Frame:=by
 unfold jmay;simp only[I0,C0]
theorem kP {p:bP} (h:ek p=true):p.Cells.length<=16:=by
 unfold ek at h;simp only[I0]at h;have hi:∀ i,i<p.Cells.length->(i:Int)<=nth p.Cells i:=fun i=>by
  induction i with
  | zero=>
   intro hi;have:=d9 h.1 hi;unfold lO at this;rw[C0]at this;exact this.1
  | succ i ih=>
   intro hi;have h1:=ih (by omega);have:=d9 h.1 hi;unfold lO at this;rw[C0]at this;have h2:=this.2.2.resolve_left (by omega);rw[Nat.add_sub_cancel]at h2;omega
 by_cases e:p.Cells.length<=16
 ·exact e
 ·exfalso
  have h1:=hi 16 (by omega);have:=d9 h.1 (show 16<p.Cells.length by omega);unfold lO at this;rw[C0]at this;omega
theorem Gu {j:cj} (h:iH j=true):cj.sml j:=by
 have:=kP (fm.1 h).1;show j.Plan.Cells.length<=1048576;omega
theorem rj {k:af} (h:aA k=true):de k.Machine=true:=by
 unfold aA at h;simp only[I0]at h;exact h.1.2
theorem zL (k:af) (j:cj) (hm:jmay k j=true) (h3:j.Phase=3):aS Tryz.prog 409 false [.ptr (af.enc .own k),.ptr (tY j)] [.ptr (af.enc .own (jstep k j).1),.ptr (tY (jstep k j).2)] (.tup []) []:=by
 obtain⟨⟨hk,hc⟩,hj,hkp,hmv,hne⟩:=kW.1 hm;obtain⟨j2,j3,j4,j5,j6⟩:=fm.1 hj;have hs:=bG hk;obtain⟨p1,p2,p3,p4,p5⟩:=cv hk hkp;have ht32:=(bx.1 (aC.1 hk).2.2.1).2.2;have hpl:=kP j2;have hul:=(bg.1 (aC.1 hk).2.1).2.2.1;unfold jstep;rw[if_neg (by omega),if_neg (by omega),if_neg (by omega),if_pos h3];by_cases hn:0<j.Next
 ·rw[if_pos hn]
  have hc15:=kO j2 (i:=(j.Next - 1).toNat) (by omega);have hx:=ah (xs:=j.Plan.Cells) (i:=(j.Next - 1).toNat) (by omega);have ha:0<=j.Plan.Keep*16+nth j.Plan.Cells (j.Next - 1).toNat/\j.Plan.Keep*16+nth j.Plan.Cells (j.Next - 1).toNat<512:=by omega
  have hq:(j.Plan.Keep*16+nth j.Plan.Cells (j.Next - 1).toNat) / 16=j.Plan.Keep:=by omega
  have c1:=Ej k.Machine (j.Plan.Keep*16+nth j.Plan.Cells (j.Next - 1).toNat) 0 (rj hk) hs.1 ha (by omega) (fun _=>by rw[hq];exact⟨p4,by omega,row16 hk (f:=mn k j.Plan.Keep) (by unfold mn;omega)⟩);generalize (kE k.Machine (j.Plan.Keep*16+nth j.Plan.Cells (j.Next - 1).toNat) 0).1=m at c1 |-;generalize (kE k.Machine (j.Plan.Keep*16+nth j.Plan.Cells (j.Next - 1).toNat) 0).2=e at c1;refine fM 59 [(406,[2,0,0])] [(2,283,[20,21,22,23,24,25,26,27,28,29,30,31,32,33,34,35,36,37,38,39,40,41,42,19,43,44,4,0,1,2,3,4,5,6,7,8,9,10,11,12,13,14,15,16,17,18,19,20,21,22,23,24,25,26,27,1025,28])] [(0,0),(1,0)] Tryz.func409 rfl (fun u q=>?_) (.inr trivial)
  repeat'(first|refine gD ?_|(conv=>whnf);first|refine Sm.rf ?_|refine Cl.eq (c1) ⟨⟨rfl,aQ.enc_fz k.Machine⟩,⟨rfl,rfl⟩,⟨rfl,rfl⟩,trivial⟩ ?_|refine Ix.mk (by omega) (aa hx) ?_|refine Sm.rf ?_)
  refine aR.mk rfl rfl ?_;exact wC
 ·rw[if_neg hn]
  have c1:=my k j.Plan.Move 2 hk hc hmv (.inr rfl);cases e:(jG k j.Plan.Move 2).2<;>rw[e]at c1
  ·refine fM 59 [(406,[2,0,0])] [(2,283,[20,21,22,23,24,25,26,27,28,29,30,31,32,33,34,35,36,37,38,39,40,41,42,19,43,44,4,0,1,2,3,4,5,6,7,8,9,10,11,12,13,14,15,16,17,18,19,20,21,22,23,24,25,26,27,1025,28])] [(0,0),(1,0)] Tryz.func409 rfl (fun u q=>?_) (.inr trivial)
   repeat'(first|refine gD ?_|(conv=>whnf);first|refine Sm.rf ?_|refine cu.mk (c1) (.inl rfl) ?_)
   refine aR.mk rfl rfl ?_;rw[<-h3];exact wC
  ·refine fM 59 [(406,[2,0,0])] [(2,283,[20,21,22,23,24,25,26,27,28,29,30,31,32,33,34,35,36,37,38,39,40,41,42,19,43,44,4,0,1,2,3,4,5,6,7,8,9,10,11,12,13,14,15,16,17,18,19,20,21,22,23,24,25,26,27,1025,28])] [(0,0),(1,0)] Tryz.func409 rfl (fun u q=>?_) (.inr trivial)
   repeat'(first|refine gD ?_|(conv=>whnf);first|refine Sm.rf ?_|refine cu.mk (c1) (.inl rfl) ?_)
   refine aR.mk rfl rfl ?_;exact wC
theorem zq (k:af) (j:cj) (hm:jmay k j=true):aS Tryz.prog 396 false [.ptr (af.enc .own k),.ptr (tY j)] [.ptr (af.enc .own (jstep k j).1),.ptr (tY (jstep k j).2)] (.tup []) []:=by
 obtain⟨⟨hk,hc⟩,hj,hkp,hmv,hne⟩:=kW.1 hm;obtain⟨j2,j3,j4,j5,j6⟩:=fm.1 hj;have hpo:j.Plan.Move≠j.Plan.Keep:=fun e=>hne (by rw[e])
 have hpl:=kP j2;by_cases h0:j.Phase=0
 ·have c1:=my k j.Plan.Move 1 hk hc hmv (.inl rfl)
  unfold jstep;rw[if_pos h0];cases e:(jG k j.Plan.Move 1).2<;>rw[e]at c1
  ·refine fM 80 [(406,[2,0,0]),(407,[2,0,0,0]),(408,[2,0,0]),(409,[2,2])] [(7,7,[27,28,29,30,31,32,33]),(9,14,[38,39,40,41,42,43,44,45,46,47,48,49,50,51])] [(0,0),(1,0)] Tryz.func396 rfl (fun u q=>?_) (.inr trivial)
   repeat'(first|refine gA ?_|(conv=>whnf);first|refine Sm.rf ?_|refine cu.mk (c1) (.inl rfl) ?_)
   refine aR.mk rfl rfl ?_;exact wC
  ·refine fM 80 [(406,[2,0,0]),(407,[2,0,0,0]),(408,[2,0,0]),(409,[2,2])] [(7,7,[27,28,29,30,31,32,33]),(9,14,[38,39,40,41,42,43,44,45,46,47,48,49,50,51])] [(0,0),(1,0)] Tryz.func396 rfl (fun u q=>?_) (.inr trivial)
   repeat'(first|refine gA ?_|(conv=>whnf);first|refine Sm.rf ?_|refine cu.mk (c1) (.inl rfl) ?_)
   refine aR.mk rfl rfl ?_;exact wC
 by_cases h1:j.Phase=1
 ·unfold jstep
  rw[if_neg h0,if_pos h1];by_cases hn:j.Next=j.Plan.Cells.length
  ·rw[if_pos hn]
   refine fM 80 [(406,[2,0,0]),(407,[2,0,0,0]),(408,[2,0,0]),(409,[2,2])] [(7,7,[27,28,29,30,31,32,33]),(9,14,[38,39,40,41,42,43,44,45,46,47,48,49,50,51])] [(0,0),(1,0)] Tryz.func396 rfl (fun u q=>?_) (.inr trivial)
   repeat'(first|refine gA ?_|(conv=>whnf);first|refine Sm.rf ?_|refine Sm.rf ?_)
   refine aR.mk rfl rfl ?_;exact wC
  ·rw[if_neg hn]
   have hx:=ah (xs:=j.Plan.Cells) (i:=j.Next.toNat) (by omega);have c1:=xC k j.Plan.Move j.Plan.Keep (nth j.Plan.Cells j.Next.toNat) hk hmv hkp (kO j2 (by omega));have hcl:=(kW.1 hm).2.1;refine fM 80 [(406,[2,0,0]),(407,[2,0,0,0]),(408,[2,0,0]),(409,[2,2])] [(7,7,[27,28,29,30,31,32,33]),(9,14,[38,39,40,41,42,43,44,45,46,47,48,49,50,51])] [(0,0),(1,0)] Tryz.func396 rfl (fun u q=>?_) (.inr trivial)
   repeat'(first|refine gA ?_|(conv=>whnf);first|refine Sm.rf ?_|refine cu.mk c1 (.inr ⟨rfl,af.enc_fr _,trivial⟩) ?_|refine Ix.mk (by omega) (aa hx) ?_|refine Sm.rf ?_)
   refine aR.mk rfl rfl ?_;exact wC
 by_cases h2:j.Phase=2
 ·have c1:=Eu k j.Plan.Move j.Plan.Keep hk hc hmv hkp hpo
  unfold jstep;rw[if_neg h0,if_neg h1,if_pos h2];cases e:(yN k j.Plan.Move j.Plan.Keep).2<;>rw[e]at c1
  ·refine fM 80 [(406,[2,0,0]),(407,[2,0,0,0]),(408,[2,0,0]),(409,[2,2])] [(7,7,[27,28,29,30,31,32,33]),(9,14,[38,39,40,41,42,43,44,45,46,47,48,49,50,51])] [(0,0),(1,0)] Tryz.func396 rfl (fun u q=>?_) (.inr trivial)
   repeat'(first|refine gA ?_|(conv=>whnf);first|refine Sm.rf ?_|refine cu.mk (c1) (.inl rfl) ?_)
   refine aR.mk rfl rfl ?_;exact wC
  ·refine fM 80 [(406,[2,0,0]),(407,[2,0,0,0]),(408,[2,0,0]),(409,[2,2])] [(7,7,[27,28,29,30,31,32,33]),(9,14,[38,39,40,41,42,43,44,45,46,47,48,49,50,51])] [(0,0),(1,0)] Tryz.func396 rfl (fun u q=>?_) (.inr trivial)
   repeat'(first|refine gA ?_|(conv=>whnf);first|refine Sm.rf ?_|refine cu.mk (c1) (.inl rfl) ?_)
   refine aR.mk rfl rfl ?_;exact wC
 by_cases h3:j.Phase=3
 ·have c1:=zL k j hm h3
  refine fM 80 [(406,[2,0,0]),(407,[2,0,0,0]),(408,[2,0,0]),(409,[2,2])] [(7,7,[27,28,29,30,31,32,33]),(9,14,[38,39,40,41,42,43,44,45,46,47,48,49,50,51])] [(0,0),(1,0)] Tryz.func396 rfl (fun u q=>?_) (.inr trivial)
  repeat'(first|refine gA ?_|(conv=>whnf);first|refine Sm.rf ?_|refine cu.mk (c1) (.inl rfl) ?_)
  refine aR.mk rfl rfl ?_;exact wC
 ·unfold jstep
  rw[if_neg h0,if_neg h1,if_neg h2,if_neg h3];refine fM 80 [(406,[2,0,0]),(407,[2,0,0,0]),(408,[2,0,0]),(409,[2,2])] [(7,7,[27,28,29,30,31,32,33]),(9,14,[38,39,40,41,42,43,44,45,46,47,48,49,50,51])] [(0,0),(1,0)] Tryz.func396 rfl (fun u q=>?_) (.inr trivial)
  repeat'(first|refine gA ?_|(conv=>whnf);first|refine Sm.rf ?_)
  refine aR.mk rfl rfl ?_;exact wC
theorem BA (k:af) (j:cj) (hk:aA k=true) (hj:iH j=true):ao Tryz.prog 395 false [.val (some 5) (af.enc .imm k),.val (some 5) (cj.enc .imm j)] .one [B (jmay k j)]:=by
 have hs:=bG hk;have hz:d3 (af.enc .imm k)=af.enc .imm k:=by rw[<-af.enc_fz k,qn]
 have hcl:=(aC.1 hk).2.2.2.2;have c1:=ka k hs;rw[hk]at c1;have c2:=vL j (Gu hj);rw[hj]at c2;have c3:=dY k j.Plan.Keep hs.1.2;have c4:=dY k j.Plan.Move hs.1.2;have c5:=cP k.Machine.Table j.Plan.Keep hs.1.2;have c6:=cP k.Machine.Table j.Plan.Move hs.1.2;by_cases hc:k.Calls=100000
 ·rw[P0 (by omega)]at c1
  rw[show jmay k j=false by rw[<-t4,kW];exact fun h=>h.1.2 hc];refine fO 44 [(3,16,[27,28,29,30,31,32,33,34,35,36,37,38,39,40,41,42])] Tryz.func395 rfl ?_
  repeat'(first|refine gO ?_|(conv=>whnf);first|refine Sm.rf ?_|refine Cl.mk (c1) ?_|refine Cl.mk (c2) ?_)
  rfl
 rw[O0 (by omega)]at c1;by_cases e1:(ar k.Machine.Table j.Plan.Keep).Mode=0
 ·rw[show jmay k j=false by rw[<-t4,kW];exact fun h=>h.2.2.1 e1]
  refine fO 44 [(3,16,[27,28,29,30,31,32,33,34,35,36,37,38,39,40,41,42])] Tryz.func395 rfl ?_
  repeat'(first|refine gA ?_|(conv=>whnf);first|refine Sm.rf ?_|refine Cl.mk (c1) ?_|refine Cl.mk (c2) ?_|refine Cl.eq (c3) ⟨hz,⟨rfl,rfl⟩,trivial⟩ ?_|refine Cl.eq (c4) ⟨hz,⟨rfl,rfl⟩,trivial⟩ ?_)
  rfl
 by_cases e2:(ar k.Machine.Table j.Plan.Move).Mode=0
 ·rw[show jmay k j=false by rw[<-t4,kW];exact fun h=>h.2.2.2.1 e2]
  refine fO 44 [(3,16,[27,28,29,30,31,32,33,34,35,36,37,38,39,40,41,42])] Tryz.func395 rfl ?_
  repeat'(first|refine gA ?_|(conv=>whnf);first|refine Sm.rf ?_|refine Cl.mk (c1) ?_|refine Cl.mk (c2) ?_|refine Cl.eq (c3) ⟨hz,⟨rfl,rfl⟩,trivial⟩ ?_|refine Cl.eq (c4) ⟨hz,⟨rfl,rfl⟩,trivial⟩ ?_)
  rfl
 refine fO 44 [(3,16,[27,28,29,30,31,32,33,34,35,36,37,38,39,40,41,42])] Tryz.func395 rfl ?_
 repeat'(first|refine gA ?_|(conv=>whnf);first|refine Sm.rf ?_|refine Cl.mk (c1) ?_|refine Cl.mk (c2) ?_|refine Cl.eq (c3) ⟨hz,⟨rfl,rfl⟩,trivial⟩ ?_|refine Cl.eq (c4) ⟨hz,⟨rfl,rfl⟩,trivial⟩ ?_|refine Cl.mk (c5) ?_|refine Cl.mk (c6) ?_|refine Sm.rf ?_)
 exact R0 (fun z=>[B z]) (by
   unfold jmay;rw[hk,hj,O0 hc];by_cases e3:(ar k.Machine.Table j.Plan.Keep).Frame=(ar k.Machine.Table j.Plan.Move).Frame
   · rw[P0 (fun h=>h.2.2 e3)];simp[e3]
   · rw[O0 ⟨e1,e2,e3⟩];simp[e3])
theorem zr (j:cj):ao Tryz.prog 397 false [.val (some 5) (cj.enc .imm j)] .one [B (over j)]:=by
 by_cases e1:j.Phase=4
 ·rw[show over j=true from O0 (.inl e1)]
  refine fO 11 [] Tryz.func397 rfl ?_
  repeat'(first|refine gA ?_|(conv=>whnf);first|refine Sm.rf ?_)
  rfl
 ·rw[show over j=decide (j.Phase=5) from decide_eq_decide.2 (by omega)]
  refine fO 11 [] Tryz.func397 rfl ?_
  repeat'(first|refine gA ?_|(conv=>whnf);first|refine Sm.rf ?_)
  exact R0 (fun z=>[B z]) (by rw[U3];simp)
def Fk (x:ab):List C:=(bt x).set 21 .z
theorem B5 {x:ab} (h:x.Job.Plan.Cells=[]):Jm (Fk x) (bt x):=by
 unfold Fk bt;simp only[List.set,h,List.map_nil]
 repeat'(first|exact trivial|exact dL _|refine And.intro ?_ ?_|rfl)
theorem zH (h:ab) (hi:bo h []) (hm:h.Meshing=true):aS Tryz.prog 368 false [.ptr (bt h)] [.ptr (bt (mStep h))] .one [B (Ds h)]:=by
 obtain⟨hj,-,-⟩:=hi.job hm;have c1:=BA h.Kernel h.Job hi.ker hj;have c3:=zr (iT h.Kernel h.Job).2;unfold Ds mStep;cases e:jmay h.Kernel h.Job with
 | false=>
  rw[e]at c1;have ej:iT h.Kernel h.Job=(h.Kernel,h.Job):=by unfold iT;rw[e];rfl
  rw[ej]at c3 |-;simp only at c3 |-;cases eo:over h.Job<;>rw[eo]at c3
  ·refine fM 39 [(396,[3,5,5])] [(1,8,[4,5,6,7,8,9,10,11]),(2,6,[13,14,15,16,17,18])] [(0,0)] Tryz.func368 rfl (fun u q=>?_)
   repeat'(first|refine gO ?_|(conv=>whnf);first|refine Cl.eq (c1) ⟨⟨rfl,af.enc_fz h.Kernel⟩,⟨rfl,rfl⟩,trivial⟩ ?_|refine Cl.mk (c3) ?_|refine Sm.rf ?_)
   refine aR.mk rfl ?_ ?_
   ·exact R0 (fun z=>[B z]) (by rw[U3];simp)
   ·exact wC
  ·refine aS.wk (c:=Fk _) ?_ (B5 rfl)
   refine fM 39 [(396,[3,5,5])] [(1,8,[4,5,6,7,8,9,10,11]),(2,6,[13,14,15,16,17,18])] [(0,0)] Tryz.func368 rfl (fun u q=>?_)
   repeat'(first|refine gO ?_|(conv=>whnf);first|refine Cl.eq (c1) ⟨⟨rfl,af.enc_fz h.Kernel⟩,⟨rfl,rfl⟩,trivial⟩ ?_|refine Cl.mk (c3) ?_|refine Sm.rf ?_)
   refine aR.mk rfl ?_ ?_
   ·exact R0 (fun z=>[B z]) (by rw[U3];simp)
   ·exact wC
 | true=>
  rw[e]at c1;have ej:iT h.Kernel h.Job=jstep h.Kernel h.Job:=by unfold iT;rw[e];rfl
  have c2:=zq h.Kernel h.Job e;rw[ej]at c3 |-;generalize jstep h.Kernel h.Job=r at c2 c3 |-;cases eo:over r.2<;>rw[eo]at c3
  ·refine fM 39 [(396,[3,5,5])] [(1,8,[4,5,6,7,8,9,10,11]),(2,6,[13,14,15,16,17,18])] [(0,0)] Tryz.func368 rfl (fun u q=>?_)
   repeat'(first|refine gO ?_|(conv=>whnf);first|refine Cl.eq (c1) ⟨⟨rfl,af.enc_fz h.Kernel⟩,⟨rfl,rfl⟩,trivial⟩ ?_|refine Cl.mk (c3) ?_|refine cu.mk (c2) (.inl rfl) ?_|refine Sm.rf ?_)
   refine aR.mk rfl ?_ ?_
   ·exact R0 (fun z=>[B z]) (by rw[U3];simp)
   ·exact wC
  ·refine aS.wk (c:=Fk _) ?_ (B5 rfl)
   refine fM 39 [(396,[3,5,5])] [(1,8,[4,5,6,7,8,9,10,11]),(2,6,[13,14,15,16,17,18])] [(0,0)] Tryz.func368 rfl (fun u q=>?_)
   repeat'(first|refine gO ?_|(conv=>whnf);first|refine Cl.eq (c1) ⟨⟨rfl,af.enc_fz h.Kernel⟩,⟨rfl,rfl⟩,trivial⟩ ?_|refine Cl.mk (c3) ?_|refine cu.mk (c2) (.inl rfl) ?_|refine Sm.rf ?_)
   refine aR.mk rfl ?_ ?_
   ·exact R0 (fun z=>[B z]) (by rw[U3];simp)
   ·exact wC
theorem Fn {k:Int} : ∀ {l s s2 s':List Int} (n:Nat),(∀ x∈s2,x∈s)->pL k s l=some s'->∃ s2',pL k s2 (l.take n)=some s2'/\∀ x∈s2',x∈s'
 | [],s,s2,s',n,h,e=>by
  simp only[pL,T0,List.take_nil]at e |-;subst e;exact⟨s2,rfl,h⟩
 | a::l,s,s2,s',0,h,e=>⟨s2,rfl,fun x hx=>(mL (fun _ y=>y) e).1 x (h x hx)⟩
 | a::l,s,s2,s',n+1,h,e=>by
  simp only[List.take_succ_cons,pL]at e |-;split at e
  ·rename_i g
   rw[if_pos (show good k s2 a from⟨g.1,g.2.1,g.2.2.1,fun x=>g.2.2.2 (h a x)⟩)];exact Fn (l:=l) (s:=s++[a]) (s2:=s2++[a]) n (fun x hx=>by
     rcases C2.1 hx with hx|hx
     · exact C2.2 (.inl (h x hx))
     · exact C2.2 (.inr hx)) e
  ·cases e
theorem AF:∀ {ls:List (List Int)} {k:Nat} {s s2:List Int} (i n:Nat),(∀ x∈s2,x∈s)->(fD k s ls).isSome=true->(fD k s2 (ls.set i ((nth ls i).take n))).isSome=true
 | [],_,_,_,_,_,_,_=>rfl
 | l::ls,k,s,s2,i,n,h,e=>by
  simp only[fD,dR]at e;split at e
  ·rename_i g
   cases e1:pL k s l with
   | none=>rw[e1]at e;cases e
   | some s'=>
    rw[e1]at e;cases i with
    | zero=>
     obtain⟨s2',e2,h2⟩:=Fn n h e1;simp only[List.set_cons_zero,fD,dR];rw[if_pos ⟨by have:=g.1;simp only[nth,List.getD_cons_zero,C1];omega,g.2⟩];show((pL (k:Nat) s2 (l.take n)).bind fun s'=>fD (k+1) s' ls).isSome=true;rw[e2];exact qU h2 e
    | succ i=>
     obtain⟨h1,s2',e2,h2⟩:=mL h e1;simp only[List.set_cons_succ,fD,dR];rw[if_pos g,e2];exact AF i n h2 e
  ·cases e
theorem Lj {c:aB} (h:br c=true) (k:Nat):br (pR c k)=true:=by
 unfold br at h |-;simp only[I0,C0]at h |-;exact⟨by simp only[pR,Z0];exact h.1,AF k _ (fun _ h=>h) h.2⟩
def mH (b:Int):Nat->List Int
 | 0=>[]
 | j+1=>if aT b (j:Nat)=true then mH b j else mH b j++[((j:Nat):Int)]
theorem rg {b:Int} : ∀ {n:Nat} {z:Int},z∈mH b n->0<=z/\z<n/\aT b z=false
 | 0,_,h=>by cases h
 | n+1,z,h=>by
  unfold mH at h;split at h
  ·have:=rg h;exact⟨this.1,by omega,this.2.2⟩
  ·rename_i e
   rcases C2.1 h with h|h
   ·have:=rg h;exact⟨this.1,by omega,this.2.2⟩
   ·rw[X0.1 h];exact⟨by omega,by omega,by simpa using e⟩
theorem rP (b:Int):∀ n,(mH b n).length<=n
 | 0=>I2 _
 | n+1=>by have:=rP b n;unfold mH;split<;>simp<;>omega
def pD (k b:Int):List Int:=if Ji k b=true then mH b (slots k).toNat else []
def mr (h:ab) (i:Nat):List Int:=pD (nth h.Spans i).Class (gr h i)
theorem vk {k b z:Int} (h:z∈pD k b):0<=z/\z<slots k/\aT b z=false:=by
 unfold pD at h;split at h
 ·have:=rg h;exact⟨this.1,by omega,this.2.2⟩
 ·cases h
theorem EM (k b:Int):(pD k b).length<=16:=by
 unfold pD;split
 ·rename_i h
  unfold Ji at h;rw[C0]at h;have:=(gf (k:=k) ⟨h.1,h.2.1⟩).2.2.1;have:=rP b (slots k).toNat;omega
 ·exact Q0 _
def oz (h:ab) (i:Nat):Int:=nth (mr h i) (AU h.Seed ((mr h i).length:Nat)).toNat
def slotT (h:ab) (i:Nat):ab:={h with Seed:=xp h.Seed,Spans:=h.Spans.set i (p6 (nth h.Spans i) (oz h i))}
def sN (h:ab) (i:Nat):Int:=16*(nth h.Spans i).Page+oz h i*csz (nth h.Spans i).Class
theorem xP {h:ab} {i:Nat} (hf:0<(mr h i).length):oz h i∈mr h i:=by
 have:=oT h.Seed (n:=((mr h i).length:Nat)) (by omega);exact am (by omega)
theorem bo.slotT {h:ab} {E:List Int} {i:Nat} (hi:bo h E) (li:i<h.Spans.length) (hf:0<(mr h i).length):bo (slotT h i) (sN h i::E)/\iU (slotT h i).Spans (sN h i) (nth h.Spans i).Class:=by
 obtain⟨m1,m2,m3⟩:=vk (xP hf);exact⟨hi.take li ⟨m1,m2⟩ m3 (zE _),(iU.setS hi.L li ⟨m1,m2⟩ _ _).2 (.inr ⟨rfl,.inr rfl⟩)⟩
def rc (h:ab) (c:Int) (i:Nat):Bool:=decide ((nth h.Spans i).Class=c)&&(!gv h (nth h.Spans i).Page&&decide (0<(mr h i).length))
def rF (h:ab) (c:Int):Option Nat:=(List.range h.Spans.length).find? (rc h c)
def uK (h:ab) (c:Int):ab:=addS h (fX h.Kernel (ay h.Free 1).2.1).1 (ay h.Free 1).1 (ay h.Free 1).2.1 c
def tn (h:ab):Nat:=jl (Gq (ay h.Free 1).2.1) h.Spans
def qr (h:ab) (i:Nat):ab × Int:=if(mr h i).length=0 then(h,-1) else(slotT h i,sN h i)
def gj (h:ab) (t c:Nat):ab × Int:=
 if 0<(nth (nth h.Caches t).Lists c).length then({h with Caches:=h.Caches.set t (pR (nth h.Caches t) c)},nth (nth (nth h.Caches t).Lists c) ((nth (nth h.Caches t).Lists c).length - 1))
 else match rF h c with
 | some i=>(slotT h i,sN h i)
 | none=>if(ay h.Free 1).2.2=false then(h,-1)
  else if(fX h.Kernel (ay h.Free 1).2.1).2=false then({h with Kernel:=(fX h.Kernel (ay h.Free 1).2.1).1},-1)
  else qr (uK h c) (tn h)
theorem Fd {α:Type} [Inhabited α] (p:α->Bool) (xs:List α) (y:α):jl p xs<(iQ p xs y).length/\nth (iQ p xs y) (jl p xs)=y:=by
 have h1:=LA p xs;have h2:(xs.take (jl p xs)).length=jl p xs:=by rw[C1];omega
 refine⟨by rw[(j7 p xs y).length_eq,List.length_cons];omega,bn ?_⟩;unfold iQ;rw[R3 (by omega),h2,Nat.sub_self]
 rfl
theorem bo.tEq {h:ab} {E:List Int} (hi:bo h E) {k:af} (hk:aA k=true) (he:tEq (tbl h) k.Machine.Table):bo {h with Kernel:=k} E/\JK h {h with Kernel:=k}:=
 ⟨hi.step (j:=h.Job) (m:=h.Meshing) hk he.1 (hi.pg.tEq he) hi.job hi.noj,⟨rfl,rfl,fun s hs _=>⟨s,hs,rfl,fun _ z=>z⟩,fun q hq=>.inl ⟨(he.2 q).1.1 hq,(he.2 q).2⟩⟩⟩
structure Nd (h:ab) (c:Int) (r:ab × Int):Prop where
 no:r.2<0->bo r.1 []
 yes:0<=r.2->bo r.1 [r.2]/\iU r.1.Spans r.2 c
 jk:JK h r.1
 nx:r.1.Next=h.Next
 cl:r.1.Caches.length=h.Caches.length
theorem iU.nn {h:ab} {E:List Int} (hi:bo h E) {a c:Int} (hs:iU h.Spans a c):0<=a:=(iU.bd hi hs).1
theorem Nd.slot {h h':ab} {i:Nat} {c:Int} (hi:bo h' []) (li:i<h'.Spans.length) (hf:0<(mr h' i).length) (hc:(nth h'.Spans i).Class=c) (hk:JK h h') (hno:gv h' (nth h'.Spans i).Page=false) (h1:h'.Next=h.Next) (h2:h'.Caches.length=h.Caches.length):Nd h c (slotT h' i,sN h' i):=by
 obtain⟨k1,k2⟩:=hi.slotT li hf;have hnn:=iU.nn k1 k2;exact⟨fun e=>absurd hnn (by simp only at e;omega),fun _=>⟨k1,by rw[<-hc];exact k2⟩,hk.trans (JK.take hno),h1,h2⟩
theorem yd {h:ab} {t c:Nat} (hi:bo h []) (ht:t<h.Caches.length) (hc:c<=3) (hcl:h.Kernel.Calls<=90000):Nd h c (gj h t c):=by
 have hck:=hi.cach _ (am ht);have hl4:=sO hck;unfold gj;split
 ·rename_i hn
  obtain⟨k1,k2⟩:=hi.pop ht (by omega) hn (Lj hck c);have hnn:=iU.nn hi k2;exact⟨fun e=>absurd hnn (by simp only at e;omega),fun _=>⟨k1,k2⟩,JK.eq rfl rfl rfl rfl,rfl,Z0 ..⟩
 split
 ·rename_i i hf
  have h1:=List.find?_some hf;have h2:=List.mem_range.1 (List.mem_of_find?_eq_some hf);unfold rc at h1;simp only[I0,C0,Bool.not_eq_true']at h1;exact Nd.slot hi h2 h1.2.2 h1.1 (JK.refl h) h1.2.1 rfl rfl
 split
 ·exact⟨fun _=>hi,fun e=>absurd e (by show ¬(0:Int)<=-1;decide),JK.refl h,rfl,rfl⟩
 rename_i hr;have hr':(ay h.Free 1).2.2=true:=by simpa using hr
 obtain⟨u1,u2,u3,u4⟩:=kb hi (W3 1) hr';have s:=Au.of (p:=(ay h.Free 1).2.1) hi.ker (by omega) ⟨u1,by have:(ay h.Free 1).2.1+1<=(h.Kernel.Machine.Table.Entries.length:Nat):=u2;omega⟩ (u3 _ (by omega) (by omega));split
 ·rename_i hk
  rw[s.no hk];obtain⟨k1,k2⟩:=hi.tEq (kZ hi.ker (by omega)) (tEq.refl _);exact⟨fun _=>k1,fun e=>absurd e (by show ¬(0:Int)<=-1;decide),k2,rfl,rfl⟩
 rename_i hk;have hk':(fX h.Kernel (ay h.Free 1).2.1).2=true:=by simpa using hk
 have s':Au h.Kernel (ay h.Free 1).2.1 ((fX h.Kernel (ay h.Free 1).2.1).1,true):=by rw[<-hk'];exact s
 have k1:=hi.addS (c:=c) ⟨by omega,by omega⟩ hr' s';have k2:JK h (uK h c):=JK.addS s';obtain⟨p1,p2⟩:=Fd (Gq (ay h.Free 1).2.1) h.Spans ⟨(ay h.Free 1).2.1,c,0⟩;unfold qr;split
 ·exact⟨fun _=>k1,fun e=>absurd e (by show ¬(0:Int)<=-1;decide),k2,rfl,rfl⟩
 ·refine Nd.slot (h':=uK h c) (i:=tn h) k1 p1 (by omega) (by show(nth (iQ (Gq (ay h.Free 1).2.1) h.Spans ⟨(ay h.Free 1).2.1,c,0⟩) (tn h)).Class=_;unfold tn;rw[p2]) k2 ?_ rfl rfl
  show gv (uK h c) (nth (iQ (Gq (ay h.Free 1).2.1) h.Spans ⟨(ay h.Free 1).2.1,c,0⟩) (tn h)).Page=false;unfold tn;rw[p2,k2.pg];rw[<-t4];intro hj;unfold gv at hj;simp only[I0,R4,C0]at hj;obtain⟨-,⟨y,hy,ey⟩,⟨z,hz,ez⟩⟩:=hi.job hj.1;rcases hj.2 with e|e
  ·exact u4 _ (W3 _) (by omega) (by rw[e,<-ey];exact dv hy)
  ·exact u4 _ (W3 _) (by omega) (by rw[e,<-ez];exact dv hz)
def kQ (size:Int):Nat:=((size+15) / 16).toNat
def i9 (h:ab) (size:Int):af × Nat:=cJ h.Kernel (ay h.Free (kQ size:Nat)).2.1 (kQ size)
def pf (h:ab) (t size:Int):ab × Int × Int:=
 if(ay h.Free (kQ size:Nat)).2.2=false then(h,-1,4)
 else if(i9 h size).2=kQ size then(addL h (i9 h size).1 (ay h.Free (kQ size:Nat)).1 (ay h.Free (kQ size:Nat)).2.1 (kQ size:Nat) size t,16*(ay h.Free (kQ size:Nat)).2.1,0)
 else({h with Kernel:=dN (i9 h size).1 (ay h.Free (kQ size:Nat)).2.1 (i9 h size).2},-1,4)
def rR (xs:List bJ):Nat->Int
 | 0=>0
 | i+1=>rR xs i+(nth xs i).Size
def uR (h:ab):Int:=rR h.Objs h.Objs.length
def gl (h:ab) (t size:Int):ab × Int × Int:=
 if 1000000<=h.Next\/90000<h.Kernel.Calls then(h,-1,5)
 else if ¬(0<=t/\t<=h.Caches.length - 1) then(h,-1,1)
 else if ¬(1<=size/\size<=1000) then(h,-1,2)
 else if h.Limit<uR h+size then(h,-1,3)
 else if 0<=aO size then(if(gj h t.toNat (aO size).toNat).2<0 then((gj h t.toNat (aO size).toNat).1,-1,4) else(addO (gj h t.toNat (aO size).toNat).1 (gj h t.toNat (aO size).toNat).2 size t,(gj h t.toNat (aO size).toNat).2,0))
 else pf h t size
theorem Gf {h:ab} {t size:Int} (hi:bo h []) (hz:9<=size/\size<=1000) (hn:h.Next<1000000) (hcl:h.Kernel.Calls<=90000) (ht:0<=t/\t<=h.Caches.length - 1):bo (pf h t size).1 []/\JK h (pf h t size).1:=by
 have hl:(kQ size:Int)=(size+15) / 16:=by unfold kQ;omega
 unfold pf;split
 ·exact⟨hi,JK.refl h⟩
 rename_i hr;have hr':(ay h.Free (kQ size:Nat)).2.2=true:=by simpa using hr
 obtain⟨u1,u2,u3,u4⟩:=kb hi (show(1:Int)<=(kQ size:Nat) by omega) hr';have s:=mP.of (p:=(ay h.Free (kQ size:Nat)).2.1) (n:=kQ size) hi.ker (by omega) ⟨u1,u2⟩ u3 (kQ size) (I2 _);split
 ·rename_i hk
  have s':mP h.Kernel (ay h.Free (kQ size:Nat)).2.1 (kQ size) ((i9 h size).1,kQ size):=by
   have:((i9 h size).1,kQ size)=i9 h size:=by rw[<-hk]
   rw[this];exact s
  exact⟨hi.addL hz hl hr' s' hn ht,JK.addL s'⟩
 ·obtain⟨k1,k2⟩:=s.undo hi.ker ⟨u1,u2⟩ u3
  exact hi.tEq k1 k2
theorem GY {h:ab} {t size:Int} (hi:bo h []):bo (gl h t size).1 []/\JK h (gl h t size).1:=by
 unfold gl;split
 ·exact⟨hi,JK.refl h⟩
 rename_i h1;rw[not_or]at h1;split
 ·exact⟨hi,JK.refl h⟩
 rename_i h2;split
 ·exact⟨hi,JK.refl h⟩
 rename_i h3;split
 ·exact⟨hi,JK.refl h⟩
 split
 ·rename_i hc
  have hcc:aO size<=3:=by unfold aO;repeat' split<;>omega
  have s:=yd (t:=t.toNat) (c:=(aO size).toNat) hi (by omega) (by omega) (by omega);generalize gj h t.toNat (aO size).toNat=r at s;split
  ·rename_i e;exact⟨s.no e,s.jk⟩
  ·rename_i e
   obtain⟨k1,k2⟩:=s.yes (by omega);refine⟨k1.addO (.inl ?_) (by rw[s.nx];omega) (by rw[s.cl];omega),s.jk.trans (JK.eq rfl rfl rfl rfl)⟩;obtain⟨z,hz,g1,g2⟩:=k2;exact⟨z,hz,g1,by show z.Class=aO size;omega⟩
 ·rename_i hc
  have h9:9<=size:=by
   unfold aO at hc
   repeat' split at hc<;>omega
  exact Gf hi ⟨h9,by omega⟩ (by omega) (by omega) (by omega)
theorem lW {α β:Type} [Inhabited α] {f:α->β} {xs:List α} {i:Nat} {y:α} (hi:i<xs.length) (e:f y=f (nth xs i)):(xs.set i y).map f=xs.map f:=by
 rw[Q4];refine List.ext_getElem (by simp) fun j h1 h2=>?_
 rw[List.getElem_set];split
 ·rename_i g;subst g
  rw[List.getElem_map,e,bn (Q1 hi)]
 ·rfl
theorem m8 {α β:Type} [Inhabited α] (f:α->List β):∀ (xs:List α) (i:Nat) (y:α),i<xs.length->(f y).Sublist (f (nth xs i))->((xs.set i y).flatMap f).Sublist (xs.flatMap f)
 | [],_,_,h,_=>absurd h (Nat.not_lt_zero _)
 | x::xs,0,y,_,hs=>by
  rw[List.set_cons_zero,W4,W4];exact List.Sublist.append hs (List.Sublist.refl _)
 | x::xs,i+1,y,h,hs=>by
  rw[List.set_cons_succ,W4,W4];exact List.Sublist.append (List.Sublist.refl _) (m8 f xs i y (by simpa using h) hs)
def zK (k:af) (a:Int):Nat->af
 | 0=>k
 | m+1=>kx (zK k a m) (a+m) 0
theorem vA (k:af) (a:Int):∀ m,(zK k a m).Machine.Table=k.Machine.Table/\(zK k a m).Calls=k.Calls/\(zK k a m).Refuse=k.Refuse
 | 0=>⟨rfl,rfl,rfl⟩
 | m+1=>vA k a m
theorem Mh {k:af} (h:aA k=true) {a:Int} : ∀ {m:Nat},(∀ j:Nat,j<m->(ar k.Machine.Table ((a+j) / 16)).Mode≠0)->aA (zK k a m)=true
 | 0,_=>h
 | m+1,hm=>ww (Mh h fun j hj=>hm j (by omega)) (by rw[(vA k a m).1];exact hm m (by omega)) ⟨by omega,by omega⟩
theorem EP {h:ab} {E:List Int} (hi:bo h E) {sp:List au} {la:List a8} {o:List a7} {p:Int} {n:Nat} (hlt:p+n<=h.Kernel.Machine.Table.Entries.length) (hs:sp.Sublist h.Spans) (hl:∀ l∈la,∀ q∈lpgs l l.Pages.toNat,∃ l0∈h.Larges,q∈lpgs l0 l0.Pages.toNat) (hp:0<=p) (hm:∀ q,q∈pgs sp la↔q∈pgs h.Spans h.Larges/\¬(p<=q/\q<p+n)) (o3:∀ q,RH o q↔RH h.Free q\/(p<=q/\q<p+n)) :
  Pg (dN h.Kernel p n).Machine.Table o sp la:=by
 have hlen:=(gV h.Kernel p n).1;have hent:=kY hi.ker hp n hlt;have hold:∀ q:Nat,(q:Int)∈pgs sp la->nth (dN h.Kernel p n).Machine.Table.Entries q=nth (tbl h).Entries q:=fun q hq=>by rw[hent,if_neg ((hm q).1 hq).2];rfl
 have hmode:∀ q:Nat,(nth (dN h.Kernel p n).Machine.Table.Entries q).Mode≠0↔(nth (tbl h).Entries q).Mode≠0/\¬(p<=q/\(q:Int)<p+n):=fun q=>by
  rw[hent];by_cases e:p<=q/\(q:Int)<p+n
  ·rw[if_pos e];exact⟨fun x=>absurd rfl x,fun x=>absurd e x.2⟩
  ·rw[if_neg e];exact⟨fun x=>⟨x,e⟩,fun x=>x.1⟩
 refine⟨fun l h1 q hq r hr hrm hrf=>?_,fun q hq=>?_,fun q hq=>?_,fun q hq=>?_,fun s h1 u h2 hne hf=>?_⟩
 ·have hr2:=(hmode r).1 hrm
  rw[hlen]at hr;rw[hold q (eZ h1 hq),hent,if_neg hr2.2]at hrf;obtain⟨l0,hl0,hq0⟩:=hl l h1 _ hq;exact hi.pg.one l0 hl0 q hq0 r hr hr2.1 hrf
 ·rw[hlen];exact hi.pg.bnd q ((hm q).1 hq).1
 ·rw[hlen]at hq
  rw[hmode,hm,hi.pg.own q hq]
 ·rw[hlen]at hq
  rw[hmode,o3,hi.pg.fre q hq]
  grind
 ·have hpos:∀ s∈sp,0<=s.Page:=fun s h1=>(aF (hi.L.sok s (hs.subset h1))).1
  have e1:=hold s.Page.toNat (by rw[Int.toNat_of_nonneg (hpos s h1)];exact dv h1);have e2:=hold u.Page.toNat (by rw[Int.toNat_of_nonneg (hpos u h2)];exact dv h2);rw[e1,e2]at hf;exact hi.pg.mesh s (hs.subset h1) u (hs.subset h2) hne hf
def trimL (l:a8) (size:Int):a8:=⟨l.Page,(size+15) / 16,size⟩
def d8 (l:a8) (size:Int):Nat:=(l.Pages - (size+15) / 16).toNat
theorem bo.trimL {h:ab} {E:List Int} {i k:Nat} {size:Int} (hi:bo h E) (li:i<h.Objs.length) (lk:k<h.Larges.length) (ea:(nth h.Objs i).Addr=16*(nth h.Larges k).Page) (hz:9<=size/\size<=(nth h.Larges k).Size) :
  ∃ o,(d8 (nth h.Larges k) size=0->o=h.Free)/\(0<d8 (nth h.Larges k) size->dn (dQ h) h.Free ⟨(nth h.Larges k).Page+(size+15) / 16,(d8 (nth h.Larges k) size:Nat)⟩ = some o)/\
   bo {h with Kernel:=dN h.Kernel ((nth h.Larges k).Page+(size+15) / 16) (d8 (nth h.Larges k) size),Larges:=h.Larges.set k (trimL (nth h.Larges k) size),Objs:=h.Objs.set i {nth h.Objs i with Size:=size},Free:=o} E:=by
 have hL:=hi.L;have hok:=hL.lok _ (am lk);have hf:=aU hok;unfold bR at hok;rw[C0]at hok;obtain⟨b1,b2⟩:=zT hi lk;have hdis:=hL.dis;have hone:=fun j hj=>hL.one j k hj lk
 have hlm:=(am lk:nth h.Larges k∈h.Larges)
 have hmemL:∀ z∈h.Larges.set k (Ab.trimL (nth h.Larges k) size),z=Ab.trimL (nth h.Larges k) size\/∃ j,j<h.Larges.length/\j≠k/\nth h.Larges j=z:=fun z hz=>eK hz
 have hself:Ab.trimL (nth h.Larges k) size∈h.Larges.set k (Ab.trimL (nth h.Larges k) size):=gU _ lk;have hoth:∀ j,j<h.Larges.length->j≠k->nth h.Larges j∈h.Larges.set k (Ab.trimL (nth h.Larges k) size):=fun j hj e=>iK _ hj e
 have hpageM:(h.Larges.set k (Ab.trimL (nth h.Larges k) size)).map (·.Page)=h.Larges.map (·.Page):=lW lk rfl;have hsubP:(pgs h.Spans (h.Larges.set k (Ab.trimL (nth h.Larges k) size))).Sublist (pgs h.Spans h.Larges):=by
  unfold pgs;refine List.Sublist.append (List.Sublist.refl _) (m8 _ _ _ _ lk ?_);unfold lpgs;exact(List.range_sublist.2 (by simp only[Ab.trimL];omega)).map _
 obtain⟨l,hl⟩ : ∃ l,nth h.Larges k=l:=⟨_,rfl⟩
 rw[hl]at hok hf b1 b2 hone hlm hmemL hself hoth hpageM hsubP ea hz |-;generalize hla:h.Larges.set k (Ab.trimL l size)=la at hmemL hself hoth hpageM hsubP |-;have hn1:(1:Int)<=(size+15) / 16/\(size+15) / 16+(d8 l size:Nat)=l.Pages:=by unfold d8;omega
 have hlp:∀ q,q∈lpgs l l.Pages.toNat↔l.Page<=q/\q<l.Page+l.Pages:=fun q=>by
  rw[db];constructor
  ·rintro⟨j,hj,rfl⟩;omega
  ·rintro⟨q1,q2⟩;exact⟨(q - l.Page).toNat,by omega,by omega⟩
 have hlt:∀ q,q∈lpgs (Ab.trimL l size) (Ab.trimL l size).Pages.toNat↔l.Page<=q/\q<l.Page+(size+15) / 16:=fun q=>by
  rw[db];simp only[Ab.trimL];constructor
  ·rintro⟨j,hj,rfl⟩;omega
  ·rintro⟨q1,q2⟩;exact⟨(q - l.Page).toNat,by omega,by omega⟩
 have hpe:l.Page+(size+15) / 16+(d8 l size:Nat)=l.Page+l.Pages:=by omega
 have hmem:∀ q,q∈pgs h.Spans la↔q∈pgs h.Spans h.Larges/\¬(l.Page+(size+15) / 16<=q/\q<l.Page+(size+15) / 16+(d8 l size:Nat)):=fun q=>by
  rw[nL,nL,hpe];constructor
  ·rintro(⟨s,hs,rfl⟩|⟨z,hz',hq⟩)
   ·exact⟨.inl ⟨s,hs,rfl⟩,fun e=>hdis s hs l hlm (s.Page - l.Page).toNat (by omega) (by omega)⟩
   ·rcases hmemL z hz' with rfl|⟨j,hj,hjk,rfl⟩
    ·have:=(hlt q).1 hq
     exact⟨.inr ⟨l,hlm,(hlp q).2 ⟨by omega,by omega⟩⟩,by omega⟩
    ·refine⟨.inr ⟨_,am hj,hq⟩,fun e=>?_⟩
     obtain⟨m,hm,rfl⟩:=db.1 hq;exact hjk (hone j hj m ((nth h.Larges j).Page+(m:Int) - l.Page).toNat hm (by omega) (by omega))
  ·rintro⟨⟨s,hs,rfl⟩|⟨z,hz',hq⟩,hne⟩
   ·exact .inl ⟨s,hs,rfl⟩
   ·obtain⟨j,hj,rfl⟩:=bf hz'
    by_cases e:j=k
    ·subst e
     rw[hl]at hq;have:=(hlp q).1 hq;exact .inr ⟨_,hself,(hlt q).2 ⟨by omega,by omega⟩⟩
    ·exact .inr ⟨_,hoth j hj e,hq⟩
 have hfree:∃ o,(d8 l size=0->o=h.Free)/\(0<d8 l size->dn (dQ h) h.Free ⟨l.Page+(size+15) / 16,(d8 l size:Nat)⟩ = some o)/\bv (dQ h) o=true/\∀ q,RH o q↔RH h.Free q\/(l.Page+(size+15) / 16<=q/\q<l.Page+(size+15) / 16+(d8 l size:Nat)):=by
  by_cases e:d8 l size=0
  ·refine⟨h.Free,fun _=>rfl,fun g=>absurd g (by omega),hi.rng,fun q=>⟨.inl,fun g=>g.resolve_right (by omega)⟩⟩
  ·obtain⟨o,o1,o2,o3⟩:=sA (r:=⟨l.Page+(size+15) / 16,(d8 l size:Nat)⟩) hi.rng ⟨by simp only;omega,by simp only;omega,by show l.Page+(size+15) / 16+(d8 l size:Nat)<=(dQ h:Int);have:((tbl h).Entries.length:Int)=(dQ h:Int):=rfl;omega⟩ fun q q1 q2=>by
    simp only at q1 q2;obtain⟨m,rfl⟩:=Z1 (show 0<=q by omega);have hml:m<(tbl h).Entries.length:=by omega
    exact(hi.pg.fre m hml).1 ((hi.pg.own m hml).2 (eZ hlm ((hlp _).2 ⟨by omega,by omega⟩)))
   exact⟨o,fun g=>absurd g e,fun _=>o1,o2,o3⟩
 obtain⟨o,o0,o1,o2,o3⟩:=hfree;have hlen:=(gV h.Kernel (l.Page+(size+15) / 16) (d8 l size)).1;have hob:∀ z∈h.Objs.set i {nth h.Objs i with Size:=size},z = {nth h.Objs i with Size:=size}\/∃ j,j<h.Objs.length/\j≠i/\nth h.Objs j=z:=fun z hz=>eK hz
 have hoa:(h.Objs.set i {nth h.Objs i with Size:=size}).map (·.Addr)=h.Objs.map (·.Addr):=lW li rfl;have hoi:(h.Objs.set i {nth h.Objs i with Size:=size}).map (·.Id)=h.Objs.map (·.Id):=lW li rfl;have hli:=(am li:nth h.Objs i∈h.Objs)
 generalize h.Objs.set i {nth h.Objs i with Size:=size} = ob at hob hoa hoi |-;refine⟨o,o0,o1,{hi with
   ker:=kz hi.ker _ _
   rng:=by show bv (((dN h.Kernel (l.Page+(size+15) / 16) (d8 l size)).Machine.Table.Entries.length:Nat):Int) o=true;rw[hlen];exact o2
   lay:=?_
   srl:=?_
   pg:=EP hi (by have:((tbl h).Entries.length:Int)=(h.Kernel.Machine.Table.Entries.length:Int):=rfl;omega) (List.Sublist.refl _) (fun z hz' q hq=>?_) (by omega) hmem o3
   osr:=?_
   onu:=fun z hz'=>?_
   oid:=by show(ob.map (·.Id)).Nodup;rw[hoi];exact hi.oid
   oow:=fun z hz'=>?_
   nd:=?_
   mem:=fun b=>?_}⟩
 ·obtain⟨l1,l2,l3⟩:=cY hi.lay
  unfold bk;simp only[I0,C0];refine⟨⟨l1,v3.2 fun z hz'=>?_⟩,l3.sublist hsubP⟩;rcases hmemL z hz' with rfl|⟨j,hj,-,rfl⟩
  ·exact O0 ⟨hz.1,by show size<=1000;omega,rfl,by show 0<=l.Page;omega,by show l.Page<=32 - (size+15) / 16;omega⟩
  ·exact hL.lok _ (am hj)
 ·have h1:(h.Larges.map (·.Page)).Pairwise (fun a b=>a<b):=List.pairwise_map.2 hi.srl
  rw[<-hpageM]at h1;exact List.pairwise_map.1 h1
 ·rcases hmemL z hz' with rfl|⟨j,hj,-,rfl⟩
  ·have:=(hlt q).1 hq
   exact⟨l,hlm,(hlp q).2 ⟨by omega,by omega⟩⟩
  ·exact⟨_,am hj,hq⟩
 ·have h1:(h.Objs.map (·.Addr)).Pairwise (fun a b=>a<b):=List.pairwise_map.2 hi.osr
  rw[<-hoa]at h1;exact List.pairwise_map.1 h1
 ·rcases hob z hz' with rfl|⟨j,hj,-,rfl⟩
  ·exact hi.onu (nth h.Objs i) hli
  ·exact hi.onu _ (am hj)
 ·rcases hob z hz' with rfl|⟨j,hj,hji,rfl⟩
  ·exact .inr ⟨_,hself,ea,rfl⟩
  ·rcases hi.oow _ (am hj) with h1|⟨l',hl',e1,e2⟩
   ·exact .inl h1
   ·obtain⟨m,hm,rfl⟩:=bf hl'
    by_cases e:m=k
    ·subst e
     rw[hl]at e1;exact absurd (gx (f:=(·.Addr)) (gP hi.osr) hj li (e1.trans ea.symm)) hji
    ·exact .inr ⟨_,hoth m hm e,e1,e2⟩
 ·have hh:holders {h with Kernel:=dN h.Kernel (l.Page+(size+15) / 16) (d8 l size),Larges:=la,Objs:=ob,Free:=o} = holders h:=by
   show((ob.map (·.Addr)++ch h)++h.Quar.Lst.map (·.Addr))++aK h.Mail=_;rw[hoa];rfl
  rw[hh];exact hi.nd
 ·have hh:holders {h with Kernel:=dN h.Kernel (l.Page+(size+15) / 16) (d8 l size),Larges:=la,Objs:=ob,Free:=o} = holders h:=by
   show((ob.map (·.Addr)++ch h)++h.Quar.Lst.map (·.Addr))++aK h.Mail=_;rw[hoa];rfl
  rw[hh,hi.mem b];show ll h.Spans h.Larges b↔ll h.Spans la b;unfold ll;constructor
  ·rintro(h1|⟨z,hz',e⟩)
   ·exact .inl h1
   ·obtain⟨j,hj,rfl⟩:=bf hz'
    by_cases e2:j=k
    ·subst e2
     rw[hl]at e;exact .inr ⟨_,hself,e⟩
    ·exact .inr ⟨_,hoth j hj e2,e⟩
  ·rintro(h1|⟨z,hz',e⟩)
   ·exact .inl h1
   ·rcases hmemL z hz' with rfl|⟨j,hj,-,rfl⟩
    ·exact .inr ⟨l,hlm,e⟩
    ·exact .inr ⟨_,am hj,e⟩
def sg (h:ab) (k:Nat) (size:Int):af:=zK h.Kernel (16*(nth h.Larges k).Page+size) (16*((size+15) / 16) - size).toNat
def FU (h:ab) (k:Nat) (size:Int):List a7:=if 0<d8 (nth h.Larges k) size then(dn (dQ h) h.Free ⟨(nth h.Larges k).Page+(size+15) / 16,(d8 (nth h.Larges k) size:Nat)⟩).getD h.Free else h.Free
def trimH (h:ab) (i k:Nat) (size:Int):ab:={h with Kernel:=dN (sg h k size) ((nth h.Larges k).Page+(size+15) / 16) (d8 (nth h.Larges k) size),Larges:=h.Larges.set k (trimL (nth h.Larges k) size),Objs:=h.Objs.set i {nth h.Objs i with Size:=size},Free:=FU h k size}
theorem ne {h:ab} {E:List Int} (hi:bo h E) {k:Nat} (lk:k<h.Larges.length) {a:Int} (ha:16*(nth h.Larges k).Page<=a/\a<16*(nth h.Larges k).Page+16*(nth h.Larges k).Pages):(ar h.Kernel.Machine.Table (a / 16)).Mode≠0:=by
 obtain⟨b1,b2⟩:=zT hi lk;have hf:=aU (hi.L.lok _ (am lk));have hq:(a / 16)∈pgs h.Spans h.Larges:=eZ (am lk) (db.2 ⟨(a / 16 - (nth h.Larges k).Page).toNat,by omega,by omega⟩);have hb:=hi.pg.bnd _ hq;have h1:=(hi.pg.own (a / 16).toNat (by omega)).2 (by rw[show(((a / 16).toNat:Nat):Int)=a / 16 by omega];exact hq);unfold ar;rw[if_pos ⟨by omega,hb⟩];exact h1
theorem D6 {h:ab} {E:List Int} (hi:bo h E) {k:Nat} (lk:k<h.Larges.length) {size:Int} (hz:9<=size/\size<=(nth h.Larges k).Size):∀ {m:Nat},m<=(16*((size+15) / 16) - size).toNat->aA (zK h.Kernel (16*(nth h.Larges k).Page+size) m)=true:=fun {m} hm=>by
 have hok:=hi.L.lok _ (am lk);unfold bR at hok;rw[C0]at hok;exact Mh hi.ker fun j hj=>ne hi lk ⟨by omega,by omega⟩
theorem bo.trimH {h:ab} {i k:Nat} {size:Int} (hi:bo h []) (li:i<h.Objs.length) (lk:k<h.Larges.length) (ea:(nth h.Objs i).Addr=16*(nth h.Larges k).Page) (hz:9<=size/\size<=(nth h.Larges k).Size):bo (trimH h i k size) []/\JK h (trimH h i k size):=by
 have hk:=D6 hi lk hz (I2 _);have ht:=(vA h.Kernel (16*(nth h.Larges k).Page+size) (16*((size+15) / 16) - size).toNat).1;have h1:=hi.cells hk ht;obtain⟨o,o0,o1,o2⟩:=h1.trimL (i:=i) (k:=k) (size:=size) li lk ea hz;simp only at o0 o1 o2;have hpg:dQ {h with Kernel:=zK h.Kernel (16*(nth h.Larges k).Page+size) (16*((size+15) / 16) - size).toNat} = dQ h:=by
  unfold dQ;simp only[ht]
 have he:FU h k size=o:=by
  unfold FU;split
  ·rename_i g;have:=o1 g;rw[hpg]at this;rw[this];rfl
  ·exact(o0 (by omega)).symm
 have hT:Ab.trimH h i k size = {h with Kernel:=dN (sg h k size) ((nth h.Larges k).Page+(size+15) / 16) (d8 (nth h.Larges k) size),Larges:=h.Larges.set k (Ab.trimL (nth h.Larges k) size),Objs:=h.Objs.set i {nth h.Objs i with Size:=size},Free:=o}:=by unfold Ab.trimH;rw[he]
 refine⟨by rw[hT];exact o2,JK.less rfl rfl rfl fun q hq=>?_⟩;have hok:=hi.L.lok _ (am lk);unfold bR at hok;rw[C0]at hok;obtain⟨b1,b2⟩:=zT hi lk;have hlb:(sg h k size).Machine.Table=h.Kernel.Machine.Table:=ht;have hent:=kY (k:=sg h k size) hk (p:=(nth h.Larges k).Page+(size+15) / 16) (by omega) (d8 (nth h.Larges k) size) (by rw[hlb];have:((tbl h).Entries.length:Int)=(h.Kernel.Machine.Table.Entries.length:Int):=rfl;unfold d8;omega) q;change (nth (dN (sg h k size) ((nth h.Larges k).Page+(size+15) / 16) (d8 (nth h.Larges k) size)).Machine.Table.Entries q).Mode≠0 at hq;show nth (dN (sg h k size) ((nth h.Larges k).Page+(size+15) / 16) (d8 (nth h.Larges k) size)).Machine.Table.Entries q=nth h.Kernel.Machine.Table.Entries q;rw[hent]at hq |-;split at hq
 ·exact absurd rfl hq
 ·rename_i e;rw[if_neg e,hlb]
theorem D9 {t:Nat} (ht:1<=t/\t<=4):bD (d2 t)=true:=by
 have hs:∀ n,n<=t->bp (d2 t) n=0:=fun n=>by
  induction n with
  | zero=>intro _;rfl
  | succ n ih=>
   intro hn;have h1:nth (d2 t).Buffers n=[]:=cN (by omega);have h2:nth (d2 t).Inbox n=[]:=cN (by omega);simp only[bp,ih (by omega),h1,h2,List.length_nil]
   decide
 have hl:(d2 t).Buffers.length=t:=List.length_replicate ..;refine d5.2 ⟨⟨by omega,by omega,by simp[d2]⟩,fun i hi=>?_,by rw[hl,hs t (I2 _)];omega⟩;rw[hl]at hi;have h1:nth (d2 t).Buffers i=[]:=cN hi;have h2:nth (d2 t).Inbox i=[]:=cN hi;rw[h1,h2];exact⟨fun p hp=>(by cases hp),fun p hp=>(by cases hp)⟩
theorem sD (t:Nat):aK (d2 t)=[]:=by
 unfold aK;split
 ·simp[d2]
 ·rfl
def oU (k:af) (t:Nat) (sd ck lim:Int):ab:=⟨k,[⟨0,(k.Machine.Table.Entries.length:Nat)⟩],[],[],[],List.replicate t eH,d2 t,⟨16,[]⟩,sd,ck,lim,1,false,⟨⟨0,0,[]⟩,0,0⟩⟩
theorem AQ:br eH=true:=by decide
theorem bo.fresh {k:af} {t:Nat} {lim sd ck:Int} (hk:aA k=true) (hz:∀ q,q<k.Machine.Table.Entries.length->(nth k.Machine.Table.Entries q).Mode=0) (ht:1<=t/\t<=4) (hl:0<=lim/\lim<=1000) (hs:0<=sd/\sd<=1073741823) (hc:0<=ck/\ck<=1000000):bo (oU k t sd ck lim) []:=by
 obtain⟨t1,t2,t3⟩:=bx.1 (aC.1 hk).2.2.1;have hca:ch (oU k t sd ck lim)=[]:=by
  unfold ch;refine List.flatMap_eq_nil_iff.2 fun c hc=>?_
  rw[(List.mem_replicate.1 hc).2]
  rfl
 have hh:holders (oU k t sd ck lim)=[]:=by
  unfold holders;rw[hca];show(([]++[])++[])++aK (d2 t)=[];rw[sD];rfl
 have hno:∀ a,¬ll (oU k t sd ck lim).Spans (oU k t sd ck lim).Larges a:=fun a=>by
  rintro(⟨s,hs,-⟩|⟨l,hl,-⟩)
  ·cases hs
  ·cases hl
 exact {
   ker:=hk
   rng:=eR.2 ⟨⟨List.pairwise_singleton ..,fun y hy=>by rw[X0.1 hy];show(1:Int)<=(k.Machine.Table.Entries.length:Nat);omega⟩,fun y hy=>by
       rw[X0.1 hy];refine⟨W3 _,by show(1:Int)<=(k.Machine.Table.Entries.length:Nat);omega,?_⟩;show(0:Int)+(k.Machine.Table.Entries.length:Nat)<=(k.Machine.Table.Entries.length:Nat);omega,by show(1:Int)<=(k.Machine.Table.Entries.length:Nat);omega,by show((k.Machine.Table.Entries.length:Nat):Int)<=32;omega⟩
   lay:=by show bk [] []=true;decide
   srs:=List.Pairwise.nil
   srl:=List.Pairwise.nil
   pg:=⟨fun l hl=>(by cases hl),fun p hp=>(by cases hp),fun p hp=>⟨fun e=>absurd (hz p hp) e,fun e=>by cases e⟩,fun p hp=>⟨fun e=>absurd (hz p hp) e,fun e=>absurd ⟨_,X0.2 rfl,by show(0:Int)<=p;omega,by
       show(p:Int)<0+(k.Machine.Table.Entries.length:Nat);have hp':p<k.Machine.Table.Entries.length:=hp;omega⟩ e⟩,fun s hs=>by cases hs⟩
   mail:=D9 ht
   nc:=by show(List.replicate t eH).length=(List.replicate t _).length;simp
   quar:=by show f6 ⟨16,[]⟩ = true;decide
   snc:=fun x hx=>by cases hx
   cach:=fun c hc=>by rw[(List.mem_replicate.1 hc).2];exact AQ
   nums:=by unfold bW;rw[C0];simp only[oU];omega
   osr:=List.Pairwise.nil
   onu:=fun o ho=>by cases ho
   oid:=List.nodup_nil
   oow:=fun o ho=>by cases ho
   hca:=fun c hc j hj a ha=>by
     rw[(List.mem_replicate.1 hc).2]at hj ha;have hj4:j<4:=hj;have:nth eH.Lists j=[]:=cN hj4;rw[this]at ha;cases ha
   hqu:=fun x hx=>by cases hx
   hfl:=fun a ha=>by
     have:aK (d2 t)=[]:=sD t;change a∈aK (d2 t) at ha;rw[this]at ha;cases ha
   hin:=fun a ha=>by cases ha
   nd:=by rw[hh];exact List.nodup_nil
   mem:=fun a=>by rw[hh];exact⟨fun e=>(by cases e),fun e=>absurd e (hno a)⟩
   job:=fun e=>by cases e
   noj:=fun _=>by show qC ⟨⟨0,0,[]⟩,0,0⟩ = true;decide}
theorem JI.no {h:ab} (hm:h.Meshing=false):JI h:=⟨fun e=>(by rw[hm]at e;cases e),fun e=>(by rw[hm]at e;cases e),fun e=>(by rw[hm]at e;cases e),fun e=>(by rw[hm]at e;cases e)⟩
theorem o9 {p f:Nat} {rf:List Int} (hp:1<=p/\p<=32) (hf:1<=f/\f<=32) (hr:rf.length<=40/\∀ x∈rf,0<=x):aA (b9 p f rf)=true:=by
 obtain⟨-,h2,h3,h4,h5⟩:=aC.1 (yG hp hf);exact aC.2 ⟨fun j hj=>hr.2 _ (am hj),h2,h3,h4,h5.1,h5.2.1,hr.1⟩
theorem AY {p f t:Nat} {lim:Int} {rf:List Int} (hp:1<=p/\p<=32) (hf:1<=f/\f<=32) (ht:1<=t/\t<=4) (hl:0<=lim/\lim<=1000) (hr:rf.length<=40/\∀ x∈rf,0<=x):bo (tT p f t lim rf) []:=by
 have h:=bo.fresh (k:=b9 p f rf) (t:=t) (lim:=lim) (sd:=0) (ck:=0) (o9 hp hf hr) (fun q hq=>by
   have hq':q<p:=by simpa[b9,dI] using hq
   rw[show nth (b9 p f rf).Machine.Table.Entries q = ⟨0,0⟩ from cN hq']) ht hl (by omega) (by omega)
 have e:(b9 p f rf).Machine.Table.Entries.length=p:=by simp[b9,dI]
 unfold oU at h;rw[e]at h;exact h
structure en where
 Kind:Int
 Thread:Int
 N:Int
 At:Int
 Value:Int
deriving DecidableEq,Inhabited
def en.enc (_:dz) (x:en):List C:=[I x.Kind,I x.Thread,I x.N,I x.At,I x.Value]
def lS (id:Int) (o:bE):Bool:=decide (o.Id=id)
def n6 (r:ax) (id:Int):Int:=du (lS id) r.Objs
def jD (r:ax) (n:Int):ax:=if 1<=n/\n<=1000 then {r with Next:=r.Next+1,Objs:=r.Objs++[⟨r.Next,List.replicate n.toNat 0⟩]} else r
def kn (r:ax) (id:Int):ax:=if n6 r id<0 then r else {r with Objs:=dele r.Objs (n6 r id).toNat}
def eE (r:ax) (id at_ v:Int):ax:=if 0<=n6 r id/\(0<=at_/\at_<=(nth r.Objs (n6 r id).toNat).Cells.length - 1)/\0<=v/\v<=999 then {r with Objs:=r.Objs.set (n6 r id).toNat ⟨(nth r.Objs (n6 r id).toNat).Id,(nth r.Objs (n6 r id).toNat).Cells.set at_.toNat v⟩} else r
def fW (r:ax) (id n:Int):ax:=if 0<=n6 r id/\1<=n/\n<=(nth r.Objs (n6 r id).toNat).Cells.length then {r with Objs:=r.Objs.set (n6 r id).toNat ⟨(nth r.Objs (n6 r id).toNat).Id,(nth r.Objs (n6 r id).toNat).Cells.take n.toNat⟩} else r
structure pP (r:ax) (m:Nat):Prop where
 len:r.Objs.length<=m
 cel:∀ o∈r.Objs,o.Cells.length<=1000
 nx:0<=r.Next/\r.Next<=m+1
theorem pP.more {r:ax} {m n:Nat} (h:pP r m) (hn:m<=n):pP r n:=⟨by have:=h.len;omega,h.cel,h.nx.1,by have:=h.nx.2;omega⟩
theorem pP.sml {r:ax} {m:Nat} (h:pP r m) (hm:m<=1000):ax.sml r:=⟨by have:=h.len;omega,fun o ho=>by have:=h.cel o ho;show o.Cells.length<=1048576;omega⟩
theorem pP.alloc {r:ax} {m:Nat} (h:pP r m) (n:Int):pP (jD r n) (m+1):=by
 unfold jD;split
 ·refine⟨by have:=h.len;simp only[P2,List.length_singleton];omega,fun o ho=>?_,by have:=h.nx.1;simp only;omega,by have:=h.nx.2;simp only;omega⟩
  rcases C2.1 ho with ho|ho
  ·exact h.cel o ho
  ·rw[X0.1 ho];simp only[List.length_replicate];omega
 ·exact h.more (by omega)
theorem pP.free {r:ax} {m:Nat} (h:pP r m) (id:Int):pP (kn r id) m:=by
 unfold kn;split
 ·exact h
 ·have hs:=fh r.Objs (n6 r id).toNat
  exact⟨V3 hs.length_le h.len,fun o ho=>h.cel o (hs.subset ho),h.nx⟩
theorem pP.set {r:ax} {m i:Nat} {x:bE} (h:pP r m) (hx:x.Cells.length<=1000):pP {r with Objs:=r.Objs.set i x} m:=
 ⟨by simp only[Z0];exact h.len,fun o ho=>by
   rcases U4 ho with ho|rfl
   · exact h.cel o ho
   · exact hx,h.nx⟩
theorem fN {α:Type} [Inhabited α] (p:α->Bool) (xs:List α) (h:0<=du p xs):(du p xs).toNat<xs.length/\p (nth xs (du p xs).toNat)=true/\du p xs=((du p xs).toNat:Nat):=by
 rcases ng p xs with e|⟨n,hn,e,hp⟩
 ·omega
 ·rw[e,W1];exact⟨hn,hp,rfl⟩
theorem pP.store {r:ax} {m:Nat} (h:pP r m) (id a v:Int):pP (eE r id a v) m:=by
 unfold eE;split
 ·rename_i e
  refine h.set ?_;simp only[Z0];exact h.cel (nth r.Objs (n6 r id).toNat) (am (fN _ _ e.1).1)
 ·exact h
theorem pP.trim {r:ax} {m:Nat} (h:pP r m) (id n:Int):pP (fW r id n) m:=by
 unfold fW;split
 ·rename_i e
  refine h.set ?_;have:=h.cel (nth r.Objs (n6 r id).toNat) (am (fN _ _ e.1).1);simp only[C1];omega
 ·exact h
def Kv (id:Int) (o:bJ):Bool:=decide (o.Id=id)
def qG (h:ab) (id:Int):Int:=du (Kv id) h.Objs
def F5 (a:Int) (l:a8):Bool:=decide (l.Page*16=a)
def xy (h:ab) (a:Int):Int:=du (F5 a) h.Larges
def ni (h:ab) (a:en):Prop:=0<=a.Thread/\a.Thread<=h.Caches.length - 1
instance (h:ab) (a:en):Decidable (ni h a):=by unfold ni;infer_instance
def tI (w:bI) (a:en) (i:Nat):bI × Int:=
 if w.Heap.Kernel.Calls=100000 then(w,6)
 else if ni w.Heap a then(⟨(freeT w.Heap a.Thread.toNat i).1,if(freeT w.Heap a.Thread.toNat i).2=0 then kn w.Ref (nth w.Heap.Objs i).Id else w.Ref⟩,(freeT w.Heap a.Thread.toNat i).2)
 else(w,1)
def qF (w:bI) (a:en) (i:Nat):bI × Int:=
 if ¬(0<=a.At/\a.At<=(nth w.Heap.Objs i).Size - 1) then(w,90)
 else if(ar w.Heap.Kernel.Machine.Table (((nth w.Heap.Objs i).Addr+a.At) / 16)).Mode=1 then(w,2)
 else if ¬(0<=a.Value/\a.Value<=999) then(w,3)
 else(⟨{w.Heap with Kernel:=kx w.Heap.Kernel ((nth w.Heap.Objs i).Addr+a.At) a.Value},eE w.Ref (nth w.Heap.Objs i).Id a.At a.Value⟩,0)
def kf (h:ab) (i:Nat) (n:Int):Prop:=0<=xy h (nth h.Objs i).Addr/\9<=n/\n<=(nth h.Larges (xy h (nth h.Objs i).Addr).toNat).Size
instance (h:ab) (i:Nat) (n:Int):Decidable (kf h i n):=by unfold kf;infer_instance
def tO (w:bI) (a:en) (i:Nat):bI × Int:=
 if w.Heap.Kernel.Calls≠100000/\kf w.Heap i a.Value then(⟨trimH w.Heap i (xy w.Heap (nth w.Heap.Objs i).Addr).toNat a.Value,fW w.Ref (nth w.Heap.Objs i).Id a.Value⟩,0) else(w,90)
def pz (w:bI) (a:en) (i:Nat):bI × Int:=if a.Kind=2 then tI w a i else if a.Kind=3 then qF w a i else tO w a i
def gI (h:ab) (a:en):ab × Int:=
 if a.Kind=5 then(if ni h a/\0<(nth h.Mail.Buffers a.Thread.toNat).length then({h with Mail:=fx h.Mail a.Thread.toNat},0) else(h,90))
 else if ¬(h.Kernel.Calls≠100000/\ni h a) then(h,0)
 else if a.Kind=6 then(collect h a.Thread.toNat,((nth h.Mail.Inbox a.Thread.toNat).length:Nat))
 else((flushN a.Thread.toNat h 4).1,((flushN a.Thread.toNat h 4).2:Nat))
def qz (h:ab) (n:Int):ab × Int:=if h.Kernel.Calls≠100000/\(0<=n/\n<=1000)/\h.Clock+n<=1000000 then(tick h n,((lU h n).length:Nat)) else(h,0)
def tE (h:ab):Bool:=h.Meshing&&decide (h.Kernel.Calls<=99000)
def mB (h:ab):Nat->ab × Nat
 | 0=>(h,0)
 | i+1=>if tE (mB h i).1=true then(mStep (mB h i).1,(mB h i).2+1) else mB h i
def pU (h:ab):ab × Int:=if h.Meshing=true then(h,90) else((started h).1,if(started h).2=true then 0 else 90)
def pV (w:bI) (a:en):bI × Int:=
 if a.Kind=1 then(⟨(gl w.Heap a.Thread a.N).1,if(gl w.Heap a.Thread a.N).2.2=0 then jD w.Ref a.N else w.Ref⟩,(gl w.Heap a.Thread a.N).2.2)
 else if a.Kind=2\/a.Kind=3\/a.Kind=4 then(if qG w.Heap a.N<0 then(w,90) else pz w a (qG w.Heap a.N).toNat)
 else if a.Kind=5\/a.Kind=6\/a.Kind=7 then(⟨(gI w.Heap a).1,w.Ref⟩,(gI w.Heap a).2)
 else if a.Kind=8 then(⟨(qz w.Heap a.N).1,w.Ref⟩,(qz w.Heap a.N).2)
 else if a.Kind=9 then(⟨(pU w.Heap).1,w.Ref⟩,(pU w.Heap).2)
 else if a.Kind=10/\0<=a.N/\a.N<=50 then(⟨(mB w.Heap a.N.toNat).1,w.Ref⟩,((mB w.Heap a.N.toNat).2:Nat))
 else(w,90)
structure sf (w:bI) (m:Nat):Prop where
 inv:bo w.Heap []
 ji:JI w.Heap
 ref:pP w.Ref m
theorem sf.more {w:bI} {m n:Nat} (h:sf w m) (hn:m<=n):sf w n:=⟨h.inv,h.ji,h.ref.more hn⟩
theorem sf.jk {w:bI} {m:Nat} (h:sf w m) {g:ab} {r:ax} (hg:bo g []/\JK w.Heap g) (hr:pP r m):sf ⟨g,r⟩ m:=⟨hg.1,h.ji.keep hg.1 hg.2,hr⟩
theorem mc {h:ab} {E:List Int} (hi:bo h E) {o:bJ} (ho:o∈h.Objs) {k:Int} (hk:0<=k/\k<=o.Size - 1):(ar h.Kernel.Machine.Table ((o.Addr+k) / 16)).Mode≠0/\0<=o.Addr/\o.Addr+k<512:=by
 rcases hi.oow o ho with⟨s,hs,h1,h2⟩|⟨l,hl,e1,e2⟩
 ·have hsok:=hi.L.sok s hs
  have hc:=aF hsok;obtain⟨m1,m2,m3⟩:=hi.mapped hs;have hcs:=cg hc.2.2;obtain⟨g1,g2,g3,-⟩:=h1;have hsz:o.Size<=csz s.Class:=by
   have hb:=pK (n:=o.Size) (by omega);rw[h2];have:o.Size=1\/o.Size=2\/o.Size=3\/o.Size=4\/o.Size=5\/o.Size=6\/o.Size=7\/o.Size=8:=by omega
   rcases this with e|e|e|e|e|e|e|e<;>rw[e]<;>decide
  have hp:(o.Addr+k) / 16=s.Page:=by
   rcases hcs with e|e|e|e<;>rw[e]at g3 hsz<;>omega
  rw[hp];refine⟨?_,by omega,by omega⟩;unfold ar;rw[if_pos ⟨m1,m2⟩];exact m3
 ·obtain⟨j,hj,rfl⟩:=bf hl
  have hok:=hi.L.lok _ hl;unfold bR at hok;rw[C0]at hok;exact⟨ne hi hj ⟨by omega,by omega⟩,by omega,by omega⟩
theorem sf.obj {w:bI} {m:Nat} (h:sf w m) (a:en) {i:Nat} (li:i<w.Heap.Objs.length):sf (pz w a i).1 m:=by
 unfold pz;split
 ·unfold tI
  split
  ·exact h
  split
  ·rename_i ht
   unfold ni at ht;refine h.jk (h.inv.freeT li (by omega)) ?_;split
   ·exact h.ref.free _
   ·exact h.ref
  ·exact h
 split
 ·unfold qF
  split
  ·exact h
  rename_i h1;split
  ·exact h
  split
  ·exact h
  rename_i h3;exact h.jk (h.inv.store (mc h.inv (am li) (by omega)).1 (by omega)) (h.ref.store _ _ _)
 ·unfold tO
  split
  ·rename_i e
   obtain⟨-,e1,e2⟩:=e;obtain⟨f1,f2,f3⟩:=fN _ _ e1;have f2':=of_decide_eq_true f2;exact h.jk (h.inv.trimH li f1 (f2'.symm.trans (Int.mul_comm _ _)) e2) (h.ref.trim _ _)
  ·exact h
theorem sf.thread {w:bI} {m:Nat} (h:sf w m) (a:en):sf ⟨(gI w.Heap a).1,w.Ref⟩ m:=by
 unfold gI;split
 ·split
  ·rename_i e
   obtain⟨e1,e2⟩:=e;unfold ni at e1;exact h.jk (g:={w.Heap with Mail:=fx w.Heap.Mail a.Thread.toNat}) ⟨h.inv.deliv (by rw[<-h.inv.nc];omega) e2,JK.eq rfl rfl rfl rfl⟩ h.ref
  ·exact h
 split
 ·exact h
 rename_i e;have e:=Classical.not_not.1 e;obtain⟨-,e1⟩:=e;unfold ni at e1;split
 ·exact h.jk (g:=collect w.Heap a.Thread.toNat) (h.inv.collect (by omega)) h.ref
 ·have ht:a.Thread.toNat<w.Heap.Caches.length:=by omega
  have h1:=(jT h.inv ht (I2 4)).1;have h2:=JK.flushN h.inv ht (I2 4);generalize flushN a.Thread.toNat w.Heap 4=r at h1 h2 |-;exact h.jk (g:=r.1) ⟨h1,h2⟩ h.ref
theorem zA {h:ab} (hi:bo h []) (hj:JI h):∀ n,bo (mB h n).1 []/\JI (mB h n).1
 | 0=>⟨hi,hj⟩
 | n+1=>by
  obtain⟨h1,h2⟩:=zA hi hj n;unfold mB;split
  ·rename_i e
   unfold tE at e;rw[I0]at e;exact h1.mStep h2 e.1
  ·exact⟨h1,h2⟩
theorem sf.act {w:bI} {m:Nat} (h:sf w m) (a:en):sf (pV w a).1 (m+1):=by
 unfold pV;split
 ·have h1:=GY (t:=a.Thread) (size:=a.N) h.inv
  refine⟨h1.1,h.ji.keep h1.1 h1.2,?_⟩;show pP (if _ then _ else _) (m+1);split
  ·exact h.ref.alloc _
  ·exact h.ref.more (by omega)
 refine sf.more (m:=m) ?_ (by omega);split
 ·split
  ·exact h
  ·rename_i e
   exact h.obj a (fN _ _ (by unfold qG at e;omega)).1
 split
 ·exact h.thread a
 split
 ·unfold qz
  split
  ·rename_i e
   exact h.jk (h.inv.tick e.2.1.1 e.2.2) h.ref
  ·exact h
 split
 ·unfold pU
  split
  ·exact h
  ·rename_i e
   have h1:=En h.inv (by simpa using e);exact⟨h1.1,h1.2,h.ref⟩
 split
 ·have h1:=zA h.inv h.ji a.N.toNat
  exact⟨h1.1,h1.2,h.ref⟩
 ·exact h
structure cI where
 Pages:Nat
 Frames:Nat
 Threads:Nat
 Limit:Int
 Refuse:List Int
deriving Inhabited
structure GV (c:cI):Prop where
 p:1<=c.Pages/\c.Pages<=32
 f:1<=c.Frames/\c.Frames<=32
 t:1<=c.Threads/\c.Threads<=4
 l:0<=c.Limit/\c.Limit<=1000
 r:c.Refuse.length<=40/\∀ x∈c.Refuse,0<=x
def world0 (c:cI):bI:=⟨tT c.Pages c.Frames c.Threads c.Limit c.Refuse,{Next:=1,Objs:=[]}⟩
def A2 (c:cI) (acts:List en):Nat->bI × List Int
 | 0=>(world0 c,[])
 | i+1=>((pV (A2 c acts i).1 (nth acts i)).1,(A2 c acts i).2++[(pV (A2 c acts i).1 (nth acts i)).2])
theorem Hf {c:cI} (h:GV c):sf (world0 c) 0:=
 ⟨AY h.p h.f h.t h.l h.r,JI.no rfl,⟨I2 _,fun o ho=>(by cases ho),by show(0:Int)<=1;omega,by show(1:Int)<=((0:Nat):Int)+1;omega⟩⟩
theorem zc {c:cI} (h:GV c) (acts:List en):∀ n,sf (A2 c acts n).1 n
 | 0=>Hf h
 | n+1=>(zc h acts n).act _
theorem or64 {z1 z2:Int} (h1:0<=z1/\z1<=65535) (h2:0<=z2/\z2<=65535):IntKind.i64.wrap ((BitVec.ofInt IntKind.i64.bits z1 ||| BitVec.ofInt IntKind.i64.bits z2).toNat:Nat)=bor z1 z2:=by
 rw[BitVec.toNat_or,lD (by omega),lD (by omega)];have h3:=H3 h1 h2;unfold bor at h3 |-;exact ed (by omega) (by omega)
theorem wV (h:ab) (i:Nat) (hs1:dt h.Spans) (hst:tB h) (hok:∀ s∈h.Spans,aY s=true) (hi:i<h.Spans.length):ao Tryz.prog 342 false [.val (some 24) (ab.enc .imm h),.val none [I (i:Nat)]] .one [I (gr h i)]:=by
 have hl1:=hs1.1;have hx:=ah hi;have hb0:=tV hok hi;have c1:=aE ((i:Nat):Int) 0 ((h.Spans.length:Int) - 1);rw[O0 (show(0:Int)<=(i:Nat)/\((i:Nat):Int)<=(h.Spans.length:Int) - 1 by omega)]at c1;have c2:=fj h (nth h.Spans i).Page hst;have hpl:=fp h (nth h.Spans i).Page;have hpn:dQ h<=1048576:=hst.1;have hub:gr h i=jc h.Spans (aP h (nth h.Spans i).Page) (nth h.Spans i).Bits (aP h (nth h.Spans i).Page).length:=rfl;obtain⟨ps,hps⟩ : ∃ ps,aP h (nth h.Spans i).Page=ps:=⟨_,rfl⟩
 obtain⟨b,hbe⟩ : ∃ b,(nth h.Spans i).Bits=b:=⟨_,rfl⟩
 rw[hps]at c2 hpl hub;rw[hbe]at hub hb0;rw[hub];have hoz:jc h.Spans ps b 0=b:=rfl;refine fO 63 [(4,7,[22,23,24,25,26,27,28]),(11,10,[43,44,45,46,47,48,49,50,51,52])] Tryz.func342 rfl ?_
 repeat'(first|refine gO ?_|(conv=>whnf);first|with_reducible refine Ix.nat (aa hx) ?_|refine Cl.mk (c1) ?_|refine Cl.mk (c2) ?_)
 (conv=>whnf)
 refine Lp.mk (ι:=Nat) (fun u=>[(2,.hold .box (ab.enc .imm h)),(5,.hold .one [I (jc h.Spans ps b u)]),(6,.hold .one (aD .own ps)),(7,.hold .one [I ((u:Nat):Int)])]) (fun u=>u<=ps.length) (fun u=>ps.length - u) (0) ?_ (Q0 _) fun u hu=>?_
 ·exact wB
 by_cases lu:u<ps.length
 ·have hy:=ah lu
  have hob:=qJ hok (ps:=ps) hb0 u
  repeat'(first|refine gD ?_|fail)
  (conv=>whnf)
  refine Lp.mk (ι:=Nat) (fun j=>[(2,.hold .box (ab.enc .imm h)),(5,.hold .one [I (pQ h.Spans (nth ps u) (jc h.Spans ps b u) j)]),(6,.hold .one (aD .own ps)),(7,.hold .one [I ((u:Nat):Int)]),(8,.hold .one [I ((j:Nat):Int)])]) (fun j=>j<=h.Spans.length) (fun j=>h.Spans.length - j) (0) ?_ (Q0 _) fun j hj=>?_
  ·exact wB
  by_cases lj:j<h.Spans.length
  ·have hz:=ah lj
   have hjb:=tH hok (p:=nth ps u) hob j hj;by_cases e:(nth h.Spans j).Page=nth ps u
   ·have hstp:pQ h.Spans (nth ps u) (jc h.Spans ps b u) (j+1)=bor (pQ h.Spans (nth ps u) (jc h.Spans ps b u) j) (nth h.Spans j).Bits:=if_pos e
    repeat'(first|refine gA ?_|(conv=>whnf);first|with_reducible (first|refine Ix.nat (aa hy) ?_|refine Ix.nat (aa hz) ?_)|refine Rw.one rfl (aa hy) rfl ?_|refine Wr.mk (or64 hjb (tV hok lj)) ?_)
    ((conv=>whnf);refine Nx.mk (j+1) (by omega) (by omega) ?_;(exact wB))
   ·have hstp:pQ h.Spans (nth ps u) (jc h.Spans ps b u) (j+1)=pQ h.Spans (nth ps u) (jc h.Spans ps b u) j:=if_neg e
    repeat'(first|refine gA ?_|(conv=>whnf);first|with_reducible (first|refine Ix.nat (aa hy) ?_|refine Ix.nat (aa hz) ?_)|refine Rw.one rfl (aa hy) rfl ?_)
    ((conv=>whnf);refine Nx.mk (j+1) (by omega) (by omega) ?_;(exact wB))
  ·obtain rfl:j=h.Spans.length:=by omega
   repeat'(first|refine gD ?_|fail)
   ((conv=>whnf);refine Nx.mk (u+1) (by omega) (by omega) ?_;(exact wB))
 ·obtain rfl:u=ps.length:=by omega
  repeat'(first|refine gD ?_|fail)
  rfl
theorem rL {xs:List bJ} (h:∀ o∈xs,0<=o.Size/\o.Size<=1000):∀ k:Nat,k<=xs.length->0<=rR xs k/\rR xs k<=1000*k
 | 0,_=>⟨W3 _,W3 _⟩
 | k+1,hk=>by
  have h1:=rL h k (by omega);have h2:=h _ (am (xs:=xs) (i:=k) (by omega));simp only[rR];omega
theorem u7 (h:ab) (hb:∀ o∈h.Objs,0<=o.Size/\o.Size<=1000) (hl:h.Objs.length<=1048576):ao Tryz.prog 51 false [.val (some 24) (ab.enc .imm h)] .one [I (uR h)]:=by
 refine fO 21 [] Tryz.func51 rfl ?_
 repeat'(first|refine gO ?_|fail)
 (conv=>whnf)
 refine Lp.mk (ι:=Nat) (fun k=>[(1,.hold .box (ab.enc .imm h)),(3,.hold .one [I (rR h.Objs k)]),(4,.hold .one [I ((k:Nat):Int)])]) (fun k=>k<=h.Objs.length) (fun k=>h.Objs.length - k) (0) ?_ (Q0 _) fun k hk=>?_
 ·exact wB
 have hc:=rL hb k hk;by_cases lk:k<h.Objs.length
 ·have hx:=ah lk
  have h2:=hb _ (am lk)
  repeat'(first|refine gD ?_|(conv=>whnf);first|refine Ix.nat (aa hx) ?_)
  ((conv=>whnf);refine Nx.mk (k+1) (by omega) (by omega) ?_;(exact wB))
 ·obtain rfl:k=h.Objs.length:=by omega
  repeat'(first|refine gD ?_|fail)
  rfl
theorem vW (k b:Int) (hb:b<=9223372036854775807):ao Tryz.prog 341 false [.val none [I (slots k)],.val none [I b]] .one (aD .own (pD k b)):=by
 have c1:=o6 k b;have hs:0<=slots k/\slots k<=16:=by unfold slots;repeat' split<;>omega
 unfold pD;cases e:Ji k b<;>rw[e]at c1
 ·rw[if_neg (by simp)]
  refine fO 27 [] Tryz.func341 rfl ?_ (.inr (bF _))
  repeat'(first|refine gO ?_|fail)
  (conv=>whnf)
  refine Lp.mk (ι:=Nat) (fun j=>[(0,.hold .one [I (slots k)]),(1,.hold .one [I (b)]),(5,.hold .one (aD .own [])),(6,.hold .one [I ((j:Nat):Int)])]) (fun j=>j=0) (fun j=>1 - j) (0) ?_ (rfl) fun j hj=>?_
  ·exact wB
  subst hj
  repeat'(first|refine gD ?_|(conv=>whnf);first|with_reducible refine Bf.D (fun hq=>?_) (fun hq=>?_)|refine Cl.mk (c1) ?_)
  all_goals rfl
 ·rw[if_pos rfl]
  refine fO 27 [] Tryz.func341 rfl ?_ (.inr (bF _))
  repeat'(first|refine gO ?_|fail)
  (conv=>whnf)
  refine Lp.mk (ι:=Nat) (fun j=>[(0,.hold .one [I (slots k)]),(1,.hold .one [I (b)]),(5,.hold .one (aD .own (mH b j))),(6,.hold .one [I ((j:Nat):Int)])]) (fun j=>j<=(slots k).toNat) (fun j=>(slots k).toNat - j) (0) ?_ (Q0 _) fun j hj=>?_
  ·exact wB
  have hfl:=rP b j;by_cases lj:j<(slots k).toNat
  ·have c2:=gX b (j:Nat) hb
   have hn:mH b (j+1)=if aT b (j:Nat)=true then mH b j else mH b j++[((j:Nat):Int)]:=rfl
   cases e2:aT b (j:Nat)<;>rw[e2]at c2 hn
   ·rw[if_neg (by simp)]at hn
    repeat'(first|refine gD ?_|(conv=>whnf);first|refine Cl.mk (c1) ?_|refine Cl.mk (c2) ?_|refine Ap.mk cq (fun r hr=>by rw[X0.1 hr];rfl) (by simp[aV,d4]) (by simp;omega) (by simp only[U0];exact wI (by simp;omega) (by decide)) rfl ?_)
    ((conv=>whnf);refine Nx.mk (j+1) (by omega) (by omega) ?_)
    rw[hn]
    repeat'(first|exact trivial|rfl|exact And.intro rfl (And.intro (R0 (C.s dz.own) (by simp[rI])) trivial)|refine And.intro ?_ ?_|(exact AG (by first|omega|(simp only;omega)|(simp;omega))))
   ·rw[if_pos rfl]at hn
    repeat'(first|refine gD ?_|(conv=>whnf);first|refine Cl.mk (c1) ?_|refine Cl.mk (c2) ?_)
    ((conv=>whnf);refine Nx.mk (j+1) (by omega) (by omega) ?_)
    rw[hn];exact wB
  ·obtain rfl:j=(slots k).toNat:=by omega
   repeat'(first|refine gD ?_|fail)
   rfl
theorem Ge (b i:Int):bor b (2 ^ i.toNat)=gi b i:=by
 unfold bor gi;have:((2 ^ i.toNat:Nat):Int)=(2:Int) ^ i.toNat:=Int.natCast_pow 2 i.toNat;rw[<-this,W1]
theorem wU (b i:Int) (hb:0<=b/\b<=65535) (hi:0<=i/\i<=15):ao Tryz.prog 344 false [.val none [I b],.val none [I i]] .one [I (gi b i)]:=by
 have c1:=nI b i;rw[O0 (by omega)]at c1;have hw:IntKind.u64.wrap i=i:=by unfold IntKind.wrap;simp[IntKind.signed,IntKind.bits];omega
 have h2:=(shl64 hi).2;have ho:=(or64 (z1:=b) (z2:=2 ^ i.toNat) hb (by omega)).trans (Ge b i);refine fO 15 [] Tryz.func344 rfl ?_
 repeat'(first|refine gO ?_|(conv=>whnf);first|refine Cl.mk (c1) ?_|refine Cd.mk (by omega) ?_|refine Wr.mk hw ?_|refine Wr.mk (shl64 hi).1 ?_|refine Wr.mk ho ?_)
 rfl
theorem K3 {s:au} (ho:aY s=true) {k:Int} (hk:0<=k/\k<slots s.Class):0<=k*csz s.Class/\k*csz s.Class<=15:=by
 have hc:=aF ho;have hl:=gf hc.2.2;rcases cg hc.2.2 with e|e|e|e<;>rw[e]at hl |-<;>omega
theorem wD (s:au) (k:Int) (ho:aY s=true) (hk:0<=k/\k<slots s.Class):ao Tryz.prog 345 false [.val (some 3) (au.enc .imm s),.val none [I k]] .one [I (16*s.Page+k*csz s.Class)]:=by
 have hc:=aF ho;have hb:=K3 ho hk;have hl:=gf hc.2.2;have c1:=fG s;rw[ho]at c1;have c2:=lC s.Class;have c3:=aE k 0 (slots s.Class - 1);rw[O0 (by omega)]at c3;have c4:=dx s.Class;refine fO 26 [(3,8,[17,18,19,20,21,22,23,24])] Tryz.func345 rfl ?_
 repeat'(first|refine gO ?_|(conv=>whnf);first|refine Cl.mk (c1) ?_|refine Cl.mk (c2) ?_|refine Cl.mk (c3) ?_|refine Cl.mk (c4) ?_|refine Sm.rf ?_)
 exact R0 (fun z=>[I z]) (by omega)
theorem z8 (f:aZ) (hl:f.Used.length<=1048576):ao Tryz.prog 346 false [.val (some 2) (aZ.enc .imm f)] .one [I (du (fun u=>!u) f.Used)]:=by
 refine fO 18 [] Tryz.func346 rfl ?_
 repeat'(first|refine gO ?_|fail)
 (conv=>whnf)
 refine Lp.mk (ι:=Nat) (fun i=>[(1,.hold .box (aZ.enc .imm f)),(3,.hold .one [I ((i:Nat):Int)])]) (fun i=>i<=f.Used.length/\∀ (j:Nat) (z:Bool),j<i->f.Used[j]? = some z->(!z)=false) (fun i=>f.Used.length - i) (0) ?_ (⟨Q0 _,fun j z hj=>by omega⟩) fun i hi=>?_
 ·exact wB
 obtain⟨hi,ha⟩:=hi;by_cases li:i<f.Used.length
 ·have hx:=ah li
  cases e:nth f.Used i<;>rw[e]at hx
  ·repeat'(first|refine gD ?_|(conv=>whnf);first|with_reducible refine Ix.nat (aa hx) ?_)
   exact R0 (fun z=>[I z]) (dD hx rfl ha).symm
  ·repeat'(first|refine gD ?_|(conv=>whnf);first|with_reducible refine Ix.nat (aa hx) ?_)
   ((conv=>whnf);refine Nx.mk (i+1) ⟨by omega,dc hx rfl ha⟩ (by omega) ?_;(exact wB))
 ·repeat'(first|refine gD ?_|fail)
  exact R0 (fun z=>[I z]) (fE (by omega) ha).symm
theorem lY (m:aH):∀ (n i:Nat),i<n->((nth m.Buffers i).length:Int)+(nth m.Inbox i).length<=bp m n/\0<=bp m n
 | 0,i,h=>absurd h (Nat.not_lt_zero i)
 | n+1,i,h=>by
  have h0:0<=bp m n:=by
   cases n with
   | zero=>exact W3 _
   | succ k=>exact(lY m (k+1) 0 (by omega)).2
  simp only[bp];by_cases e:i=n
  ·subst e;omega
  ·have:=(lY m n i (by omega)).1;omega
structure ki (m:aH):Prop where
 b4:1<=m.Buffers.length/\m.Buffers.length<=4
 i4:m.Inbox.length=m.Buffers.length
 bl:∀ i,i<m.Buffers.length->(nth m.Buffers i).length<=30
 il:∀ i,i<m.Buffers.length->(nth m.Inbox i).length<=30
theorem ki.of {m:aH} (h:bD m=true):ki m:=by
 obtain⟨⟨h1,h2,h3⟩,-,h5⟩:=d5.1 h;exact⟨⟨h1,h2⟩,h3,fun i hi=>by have:=(lY m m.Buffers.length i hi).1;omega,fun i hi=>by have:=(lY m m.Buffers.length i hi).1;omega⟩
theorem ki.sml {m:aH} (h:ki m):aH.sml m:=by
 have h1:=h.b4;have h2:=h.i4;refine⟨⟨by omega,fun l hl=>?_⟩,⟨by omega,fun l hl=>?_⟩⟩
 ·obtain⟨i,hi,rfl⟩:=bf hl
  have:=h.bl i hi;exact⟨by omega,fun _ _=>trivial⟩
 ·obtain⟨i,hi,rfl⟩:=bf hl
  have:=h.il i (by omega);show(nth m.Inbox i).length<=1048576;omega
theorem qg (m:aH) (k:Int) (hs:aH.sml m):ao Tryz.prog 388 false [.val (some 2) (aH.enc .imm m),.val none [I k]] .one [B (bD m&&decide (0<=k/\k<=m.Buffers.length - 1))]:=by
 have c1:=ku m hs;have hl:m.Buffers.length<=1048576:=hs.1.1;cases e:bD m<;>rw[e]at c1
 all_goals
  refine fO 15 [] Tryz.func388 rfl ?_
  repeat'(first|refine gO ?_|(conv=>whnf);first|refine Sm.rf ?_|refine Cl.mk (c1) ?_|refine Cl.mk (aE k 0 (m.Buffers.length - 1:Int)) ?_)
  all_goals rfl
theorem MY {m:aH} {f:Nat} (hf:f<m.Buffers.length):m.Buffers[f]? = some (nth m.Buffers f):=ah hf
theorem GC (m:aH) (f:Nat) (p:cW):aH.enc .own (gq m f p)=[.s .own ((m.Buffers.map (co .own)).set f (co .own (nth m.Buffers f++[p]))),.s .own (m.Inbox.map (aD .own))]:=by simp[aH.enc,gq,Q4]
theorem Gg {m:aH} (h:ki m) {f:Nat} (hf:f<m.Buffers.length) (p:cW):aH.sml (gq m f p):=by
 have h1:=h.b4;have hs:=h.sml;refine⟨⟨by simp only[gq,Z0];omega,fun l hl=>?_⟩,hs.2⟩;rcases U4 hl with hl|rfl
 ·exact hs.1.2 l hl
 ·have:=h.bl f hf
  exact⟨by simp;omega,fun _ _=>trivial⟩
theorem Gv (m:aH) (f:Nat) (p:cW) (hm:bD m=true) (hf:f<m.Buffers.length):ao Tryz.prog 381 false [.val (some 2) (aH.enc .imm m),.val none [I (f:Nat)],.val (some 2) (cW.enc .imm p)] (.tup [some 2,none]) (aH.enc .own (if bD (gq m f p)=true then gq m f p else m)++[B (bD (gq m f p))]):=by
 have hL:=ki.of hm;have hs:=hL.sml;have h4:=hL.b4;have c1:=qg m f hs;rw[hm,O0 (by omega)]at c1;have c2:=eM m hs;have hps:=Gg hL hf p;have c3:=ku (gq m f p) hps;have c4:=eM (gq m f p) hps;have hx:=MY hf;have hxl:=hL.bl f hf;have hz:=aH.enc_fz (gq m f p);rw[GC]at hz;cases e:bD (gq m f p)<;>rw[e]at c3
 ·rw[if_neg (by simp)]
  refine fO 35 [(4,267,[16,17,18,19,20,21,22,23,24,25,27,0,1,2,3,4,5,6,7,8,9,10,1000,1001,1002,11,12])] Tryz.func381 rfl ?_ (.inr (aN (aH.enc_fr _) ⟨trivial,trivial⟩))
  repeat'(first|refine gO ?_|(conv=>whnf);first|with_reducible refine Ix.nat (aa hx) ?_|refine Sm.rf ?_|refine Ix.nat (fH hx) ?_|refine Rw.one rfl (fH hx) rfl ?_|refine Cl.mk (c1) ?_|refine Cl.mk (c2) ?_|refine Lq.one rfl rfl (aa hx) rfl (W0 rfl) rfl rfl ?_|refine Rw.one rfl (aa hx) rfl ?_|refine Pu.one rfl rfl (fH hx) rfl (W0 rfl) (show [C.s dz.own ((m.Buffers.map (co .own)).set f (co .own (nth m.Buffers f++[p]))),C.s .own (m.Inbox.map (aD .own))]=_ from by simp only[List.set_cons_zero,List.set_set,W1];rfl) ?_|refine Ap.sm (aM fun _=>rfl) rfl (by simp;omega) (by decide) (fg _ _ _) ?_|refine Cl.eq (c3) ⟨⟨rfl,hz⟩,trivial⟩ ?_)
  rfl
 ·rw[if_pos rfl]
  refine fO 35 [(4,267,[16,17,18,19,20,21,22,23,24,25,27,0,1,2,3,4,5,6,7,8,9,10,1000,1001,1002,11,12])] Tryz.func381 rfl ?_ (.inr (aN (aH.enc_fr _) ⟨trivial,trivial⟩))
  repeat'(first|refine gO ?_|(conv=>whnf);first|with_reducible refine Ix.nat (aa hx) ?_|refine Sm.rf ?_|refine Ix.nat (fH hx) ?_|refine Rw.one rfl (fH hx) rfl ?_|refine Cl.mk (c1) ?_|refine Cl.mk (c2) ?_|refine Lq.one rfl rfl (aa hx) rfl (W0 rfl) rfl rfl ?_|refine Rw.one rfl (aa hx) rfl ?_|refine Pu.one rfl rfl (fH hx) rfl (W0 rfl) (show [C.s dz.own ((m.Buffers.map (co .own)).set f (co .own (nth m.Buffers f++[p]))),C.s .own (m.Inbox.map (aD .own))]=_ from by simp only[List.set_cons_zero,List.set_set,W1];rfl) ?_|refine Ap.sm (aM fun _=>rfl) rfl (by simp;omega) (by decide) (fg _ _ _) ?_|refine Cl.eq (c3) ⟨⟨rfl,hz⟩,trivial⟩ ?_|refine Cl.eq (c4) ⟨⟨rfl,hz⟩,trivial⟩ ?_)
  rfl
theorem Ed (m:aH) (f:Int) (hm:bD m=true) (hf:¬(0<=f/\f<=m.Buffers.length - 1)):ao Tryz.prog 360 false [.val (some 2) (aH.enc .imm m),.val none [I f]] (.tup [some 2,none]) (aH.enc .own m++[B false]):=by
 have hL:=ki.of hm;have hs:=hL.sml;have c1:=qg m f hs;rw[hm,P0 hf]at c1;have c2:=eM m hs;refine fO 60 [(5,267,[31,32,33,34,35,36,37,38,39,40,42,0,1,2,3,4,5,6,7,8,9,10,1000,1001,1002,11,12]),(6,270,[43,44,45,46,47,48,49,50,51,52,53,54,55,57,0,1,2,3,4,5,6,7,8,9,10,11,12,13,1000,1001,1002,1003,14,15])] Tryz.func360 rfl ?_ (.inr (aN (aH.enc_fr _) ⟨trivial,trivial⟩))
 repeat'(first|refine gO ?_|(conv=>whnf);first|refine Sm.rf ?_|refine Cl.mk (c1) ?_|refine Cl.mk (c2) ?_)
 rfl
theorem Ez (m:aH) (f t:Nat) (ht:(nth (nth m.Buffers f) 0).To=t):aH.enc .own (fx m f)=[.s .own ((m.Buffers.map (co .own)).set f [.s .own (((nth m.Buffers f).drop 1).map (cW.enc .imm))]),.s .own ((m.Inbox.map (aD .own)).set t (aD .own (nth m.Inbox t++[(nth (nth m.Buffers f) 0).Addr])))]:=by
 unfold aH.enc fx;simp only[Q4,ht,W1]
 rfl
theorem BF (m:aH) (f:Nat) (hm:bD m=true) (hf:f<m.Buffers.length):ao Tryz.prog 360 false [.val (some 2) (aH.enc .imm m),.val none [I (f:Nat)]] (.tup [some 2,none]) (aH.enc .own (if 0<(nth m.Buffers f).length then fx m f else m)++[B (decide (0<(nth m.Buffers f).length))]):=by
 have hL:=ki.of hm;have hs:=hL.sml;have h4:=hL.b4;have hi4:=hL.i4;have c1:=qg m f hs;rw[hm,O0 (by omega)]at c1;have c2:=eM m hs;have hx:=MY hf;have hxl:=hL.bl f hf;by_cases e:0<(nth m.Buffers f).length
 ·rw[if_pos e,O0 e]
  have hok:=((d5.1 hm).2.1 f hf).1 _ (am e);obtain⟨t,ht⟩:=Z1 hok.1;have ht4:t<m.Inbox.length:=by omega
  have hy:=ah e;have hw:=ah ht4;have hwl:=hL.il t (by omega);have hds:=(ki.of (Dq hm hf e)).sml;have c3:=eM (fx m f) hds;have hz:=aH.enc_fz (fx m f);rw[Ez m f t ht]at hz;have hfr:=aN (b:=[B true]) (aH.enc_fr (fx m f)) ⟨trivial,trivial⟩;generalize hp:nth (nth m.Buffers f) 0=p at *;obtain⟨pt,pa⟩:=p;simp only at ht hok hz;subst ht;refine fO 60 [(5,267,[31,32,33,34,35,36,37,38,39,40,42,0,1,2,3,4,5,6,7,8,9,10,1000,1001,1002,11,12]),(6,270,[43,44,45,46,47,48,49,50,51,52,53,54,55,57,0,1,2,3,4,5,6,7,8,9,10,11,12,13,1000,1001,1002,1003,14,15])] Tryz.func360 rfl ?_ (.inr hfr)
  repeat'(first|refine gA ?_|(conv=>whnf);first|with_reducible (first|refine Ix.nat (aa hx) ?_|refine Ix.nat (aa hw) ?_|refine Bf.E (fun hq=>?_) (fun hq=>?_))|refine Sm.rf ?_|refine Ix.mk (by decide) (aa hy) ?_|refine Ix.nat (fH hx) ?_|refine Ix.nat (fH hw) ?_|refine Rw.one rfl (fH hx) rfl ?_|refine Rw.one rfl (fH hw) rfl ?_|refine Cl.mk (c1) ?_|refine Cl.mk (c2) ?_|refine Rw.one rfl (aa hx) rfl ?_|refine Rw.one rfl (aa hw) rfl ?_|refine Rw.one rfl (aa hy) rfl ?_|refine Lq.one rfl rfl (aa hw) rfl (W0 rfl) rfl rfl ?_|refine Sl.suf 1 rfl (by rw[U0];omega) (aM fun _=>rfl) I3 ?_|refine Fl.cp (fun _=>rfl) (fun _=>rfl) (by rw[Q2];omega) (by decide) ?_|refine Ap.cp (fun _=>rfl) (fun _=>rfl) (by rw[Q2];omega) (by decide) ?_|refine Pu.one rfl rfl (aa hx) rfl (W0 rfl) rfl ?_|refine Pu.one rfl rfl (fH hw) rfl (W0 rfl) (show [C.s dz.own ((m.Buffers.map (co .own)).set f [.s .own (((nth m.Buffers f).drop 1).map (cW.enc .imm))]),C.s .own ((m.Inbox.map (aD .own)).set t (aD .own (nth m.Inbox t++[pa])))]=_ from by simp only[List.set_cons_zero,List.set_cons_succ,List.set_set,W1];rfl) ?_|refine Ap.sm (aM fun _=>rfl) rfl (by simp;omega) (by decide) (fg _ _ _) ?_|refine Sm.rf ?_|refine Cl.eq (c3) ⟨⟨rfl,hz⟩,trivial⟩ ?_)
  rfl
 ·rw[if_neg e,P0 e]
  refine fO 60 [(5,267,[31,32,33,34,35,36,37,38,39,40,42,0,1,2,3,4,5,6,7,8,9,10,1000,1001,1002,11,12]),(6,270,[43,44,45,46,47,48,49,50,51,52,53,54,55,57,0,1,2,3,4,5,6,7,8,9,10,11,12,13,1000,1001,1002,1003,14,15])] Tryz.func360 rfl ?_ (.inr (aN (aH.enc_fr _) ⟨trivial,trivial⟩))
  repeat'(first|refine gA ?_|(conv=>whnf);first|with_reducible (first|refine Ix.nat (aa hx) ?_|refine Bf.E (fun hq=>?_) (fun hq=>?_))|refine Sm.rf ?_|refine Cl.mk (c1) ?_|refine Cl.mk (c2) ?_|refine Rw.one rfl (aa hx) rfl ?_)
  rfl
theorem Hr.set (rows:List (List C)) (i:Nat) {r r':List C} (h:H5 r r'):Hr (.s .own (rows.set i r)) (.s .own (rows.set i r')):=by
 refine .own_ _ _ (by simp) (fun j a b h1 h2=>?_) (fun j l a b c c' h1 h2 h3 h4=>?_)
 ·by_cases e:i=j
  ·subst e
   have hl:i<rows.length:=by have:=(R1.1 h1).1;simpa using this
   rw[U2 hl]at h1 h2;cases h1;cases h2;exact h.1
  ·rw[List.getElem?_set_ne e]at h1 h2
   rw[h1]at h2;cases h2;rfl
 ·by_cases e:i=j
  ·subst e
   have hl:i<rows.length:=by have:=(R1.1 h1).1;simpa using this
   rw[U2 hl]at h1 h2;cases h1;cases h2;exact h.2 l c c' h3 h4
  ·rw[List.getElem?_set_ne e]at h1 h2
   rw[h1]at h2;cases h2;rw[h3]at h4;cases h4;exact .rfl_ _
theorem zh (m:aH) (t:Nat) (hm:bD m=true) (ht:t<m.Buffers.length):ao Tryz.prog 389 false [.val (some 2) (aH.enc .imm m),.val none [I (t:Nat)]] (.tup [some 2,none]) (aH.enc .own (kj m t)++aD .own (nth m.Inbox t)):=by
 have hL:=ki.of hm;have hs:=hL.sml;have h4:=hL.b4;have hi4:=hL.i4;have c1:=qg m t hs;rw[hm,O0 (by omega)]at c1;have c2:=eM m hs;have hw:=ah (xs:=m.Inbox) (i:=t) (by omega);have hwl:=hL.il t ht;have hfr:=aN (aH.enc_fr (kj m t)) (bF (nth m.Inbox t));have e1:aH.enc .own (kj m t)=[.s .own (m.Buffers.map (co .own)),.s .own ((m.Inbox.map (aD .own)).set t [.s .own []])]:=by simp[aH.enc,kj,Q4];rfl
 rw[e1]at hfr |-;refine fO 28 [(5,263,[20,21,22,23,24,25,26,0,1,2,3,4,5,6,7,1000,8,9])] Tryz.func389 rfl ?_ (.inr hfr)
 repeat'((conv=>whnf);first|with_reducible (first|refine Lm ?_|refine Wm (by omega) ?_|refine Ix.nat (aa hw) ?_|refine Bn ?_|refine iW.dk rfl ?_)|refine Bt ?_|refine Bu ?_|refine Sm.rf ?_|refine Cl.mk (c1) ?_|refine Cl.mk (c2) ?_|refine Rw.one rfl (aa hw) rfl ?_|refine Pu.one rfl rfl (aa hw) rfl (W0 rfl) rfl ?_|refine Fl.cp (fun _=>rfl) (fun _=>rfl) (by omega) (by decide) ?_|refine Ap.cp (fun _=>rfl) (fun _=>rfl) (by omega) (by decide) ?_|refine Sm.rf ?_)
 exact .cons (.rfl_ _) (.cons (Hr.set _ _ (.cons .z_ .nil)) (.cons (.rfl_ _) .nil))
theorem FD (now:Int):∀ {l:List aL} {i:Nat},i<=l.length->(∀ j,j<i->(nth l j).Since<now - 100)->(i<l.length->¬(nth l i).Since<now - 100)->qE now l=i
 | [],i,h,_,_=>by simp at h;subst h;rfl
 | x::xs,0,_,_,h=>by
  unfold qE;exact if_neg (h (by simp))
 | x::xs,i+1,h1,h2,h3=>by
  unfold qE;refine(if_pos (h2 0 (by omega))).trans ?_;rw[FD now (l:=xs) (i:=i) (by simp at h1;omega) (fun j hj=>h2 (j+1) (by omega)) (fun hi=>h3 (by simp;omega))]
def L0 (q:bA) (now:Int):List C:=bA.enc .own ⟨q.Room,q.Lst.drop (qE now q.Lst)⟩++cz .own (q.Lst.take (qE now q.Lst))
theorem tc (q:bA) (now:Int) (hq:f6 q=true) (hl:q.Lst.length<=4096) (hn:0<=now/\now<=1000000):ao Tryz.prog 363 false [.val (some 2) (bA.enc .imm q),.val none [I now],.val none [I 100]] (.tup [some 2,none]) (L0 q now):=by
 have hs:bA.sml q:=⟨by omega,fun _ _=>trivial⟩
 have c1:=mY q hs;rw[hq]at c1;have c2:=aE now 0 1000000;rw[O0 hn]at c2;have c3:=aE 100 0 1000000;rw[O0 (by decide)]at c3;have hsc:=(iP.1 hq).1;have hfr:gk (L0 q now):=aN (bA.enc_fr _) (sF _);have hb:∀ i,i<q.Lst.length->0<=(nth q.Lst i).Since:=fun i hi=>(hsc _ (am hi)).2.2.2
 unfold L0 at hfr |-;generalize hk:qE now q.Lst=k at hfr |-;refine fO 59 [(6,270,[44,45,46,47,48,49,50,51,53,54,55,56,57,58,0,1,2,3,4,5,6,7,9,10,11,12,13,14,8,1009,1010,1011,1012,1013,1014,15,16])] Tryz.func363 rfl ?_ (.inr hfr)
 repeat'(first|refine gO ?_|(conv=>whnf);first|refine Sm.rf ?_|refine Cl.mk (c1) ?_|refine Cl.mk (c2) ?_|refine Cl.mk (c3) ?_)
 (conv=>whnf)
 refine Lp.mk (ι:=Nat) (fun i=>[(1,.hold .one [I (now)]),(2,.hold .one [I (100)]),(3,.hold .box (bA.enc .imm q)),(6,.hold .box [I 0,.z]),(8,.hold .one [I ((i:Nat):Int)])]) (fun i=>i<=q.Lst.length/\∀ j,j<i->(nth q.Lst j).Since<now - 100) (fun i=>q.Lst.length - i) (0) ?_ (⟨Q0 _,fun j hj=>by omega⟩) fun i hi=>?_
 ·exact wC
 obtain⟨hi,ha⟩:=hi;by_cases go:i<q.Lst.length/\(nth q.Lst i).Since<now - 100
 ·have hx:=ah go.1
  repeat'(first|refine gD ?_|(conv=>whnf);first|with_reducible refine Ix.nat (aa hx) ?_|refine Sm.rf ?_|refine Rw.one rfl (aa hx) rfl ?_)
  ((conv=>whnf);refine Nx.mk (i+1) ⟨by omega,fun j hj=>by by_cases e:j=i;(subst e;exact go.2);exact ha j (by omega)⟩ (by omega) ?_;(exact wC))
 ·have hki:=FD now (i:=i) hi ha (fun h1 h2=>go ⟨h1,h2⟩)
  rw[hk]at hki;subst hki;by_cases li:k<q.Lst.length
  ·have hx:=ah li
   have:=hb k li
   repeat'(first|refine gD ?_|(conv=>whnf);first|with_reducible (first|refine Ix.nat (aa hx) ?_|refine Bf.D (fun hq=>?_) (fun hq=>?_))|refine Sm.rf ?_|refine Rw.one rfl (aa hx) rfl ?_|refine Sl.pre k rfl (by rw[U0];omega) (aM fun _=>rfl) C3 ?_|refine Sl.suf k rfl (by rw[U0];omega) (aM fun _=>rfl) I3 ?_|refine Fl.cp (fun _=>rfl) (fun _=>rfl) (by rw[C1];omega) (by decide) ?_|refine Fl.cp (fun _=>rfl) (fun _=>rfl) (by rw[Q2];omega) (by decide) ?_|refine Ap.cp (fun _=>rfl) (fun _=>rfl) (by rw[Q2];omega) (by decide) ?_|refine Sm.rf ?_)
   rfl
  ·repeat'(first|refine gD ?_|(conv=>whnf);first|refine Sm.rf ?_|refine Sl.pre k rfl (by rw[U0];omega) (aM fun _=>rfl) C3 ?_|refine Sl.suf k rfl (by rw[U0];omega) (aM fun _=>rfl) I3 ?_|refine Fl.cp (fun _=>rfl) (fun _=>rfl) (by rw[C1];omega) (by decide) ?_|refine Fl.cp (fun _=>rfl) (fun _=>rfl) (by rw[Q2];omega) (by decide) ?_|refine Ap.cp (fun _=>rfl) (fun _=>rfl) (by rw[Q2];omega) (by decide) ?_|refine Sm.rf ?_)
   rfl
theorem zt (h:ab) (n:Int) (hi:bo h []) (hn:0<=n/\n<=1000) (hc:h.Clock+n<=1000000):aS Tryz.prog 306 false [.ptr (bt h),.val none [I n]] [.ptr (bt (tick h n)),.val none [I n]] .one [I ((lU h n).length:Nat)]:=by
 have hnum:=hi.nums;unfold bW at hnum;rw[C0]at hnum;have hlq:=hi.lens.quar;have c1:=tc h.Quar (h.Clock+n) hi.quar (by omega) ⟨by omega,hc⟩;have h1:=hi.aged hn.1 hc;unfold L0 at c1;unfold tick lU aged at *;have hlo:(h.Quar.Lst.take (qE (h.Clock+n) h.Quar.Lst)).length<=4096:=by rw[C1];omega
 rw[U0];generalize h.Quar.Lst.take (qE (h.Clock+n) h.Quar.Lst)=out at c1 h1 hlo |-;generalize h.Quar.Lst.drop (qE (h.Clock+n) h.Quar.Lst)=rest at c1 h1 |-;refine fM 48 [(364,[2,0])] [(2,269,[18,19,20,21,22,23,24,25,26,17,27,28,5,0,1,2,3,4,5,6,7,8,9,10,11,12,13,1011,14])] [(0,0),(0,0)] Tryz.func306 rfl (fun u q=>?_)
 repeat'(first|refine gO ?_|(conv=>whnf);first|refine Sm.rf ?_|refine Cl.eq (c1) ⟨⟨rfl,bA.enc_fz h.Quar⟩,⟨rfl,rfl⟩,⟨rfl,rfl⟩,trivial⟩ ?_|refine Sm.rf ?_)
 (conv=>whnf)
 refine Lp.mk (ι:=Nat) (fun k=>[(0,.hold .box (bt (freeAs {h with Clock:=h.Clock+n,Quar:=⟨h.Quar.Room,rest⟩} ((out.map (·.Addr)).take k)))),(6,.hold .one (cz .own out)),(7,.hold .one [I ((k:Nat):Int)])]) (fun k=>k<=out.length) (fun k=>out.length - k) (0) ?_ (Q0 _) fun k hk=>?_
 ·exact wC
 by_cases lk:k<out.length
 ·have hxo:=ah lk
  have hlk:k<(out.map (·.Addr)).length:=by rw[U0];exact lk
  have hnk:nth (out.map (·.Addr)) k=(nth out k).Addr:=bn (by rw[O2,ah lk];rfl);have hik:bo (freeAs {h with Clock:=h.Clock+n,Quar:=⟨h.Quar.Room,rest⟩} ((out.map (·.Addr)).take k)) (nth (out.map (·.Addr)) k::(out.map (·.Addr)).drop (k+1)):=by
   refine bo.freeAs ?_;rw[<-iS hlk,List.take_append_drop];rw[List.append_nil]at h1;exact h1
  rw[hnk]at hik;have c2:=lQ _ _ _ hik
  repeat'(first|refine gD ?_|(conv=>whnf);first|refine Sm.rf ?_|refine Ix.nat (aa hxo) ?_|refine Rw.one rfl (aa hxo) rfl ?_|refine cu.mk (c2) (.inl rfl) ?_)
  ((conv=>whnf);refine Nx.mk (k+1) (by omega) (by omega) ?_)
  rw[sv _ _ _ hlk,hnk];exact wC
 ·obtain rfl:k=out.length:=by omega
  rw[t5 (by rw[U0];omega)]
  repeat'(first|refine gD ?_|(conv=>whnf);first|refine Sm.rf ?_)
  refine aR.mk rfl rfl ?_;exact wC
theorem Dw (t:Nat) (h:ab) (az:List Int) (k:Nat) (hk:k<az.length):recycs t h (az.take (k+1))=recyc t (recycs t h (az.take k)) (nth az k):=by
 unfold recycs;rw[v4,ah hk,Option.toList_some,List.foldl_append];rfl
theorem tG (h:ab) (t:Nat) (hi:bo h []) (ht:t<h.Caches.length):aS Tryz.prog 361 false [.ptr (bt h),.val none [I (t:Nat)]] [.ptr (bt (collect h t)),.val none [I (t:Nat)]] .one [I ((nth h.Mail.Inbox t).length:Nat)]:=by
 have hnc:=hi.nc;have hi4:=(d5.1 hi.mail).1.2.2;have c1:=zh h.Mail t hi.mail (by omega);have hll:=(ki.of hi.mail).il t (by omega);have h1:=hi.coll (t:=t) (by omega);rw[List.append_nil]at h1;unfold collect;generalize nth h.Mail.Inbox t=out at c1 h1 hll |-;refine fM 36 [(384,[2,0,0])] [] [(0,0),(0,0)] Tryz.func361 rfl (fun u q=>?_)
 repeat'(first|refine gO ?_|(conv=>whnf);first|refine Sm.rf ?_|refine Cl.eq (c1) ⟨⟨rfl,aH.enc_fz h.Mail⟩,⟨rfl,rfl⟩,trivial⟩ ?_)
 (conv=>whnf)
 refine Lp.mk (ι:=Nat) (fun k=>[(0,.hold .box (bt (recycs t {h with Mail:=kj h.Mail t} (out.take k)))),(1,.hold .one [I ((t:Nat):Int)]),(6,.hold .one (aD .own out)),(7,.hold .one [I ((k:Nat):Int)])]) (fun k=>k<=out.length) (fun k=>out.length - k) (0) ?_ (Q0 _) fun k hk=>?_
 ·exact wC
 by_cases lk:k<out.length
 ·have hxo:=ah lk
  have hik:bo (recycs t {h with Mail:=kj h.Mail t} (out.take k)) (nth out k::out.drop (k+1)):=by
   refine bo.recycs ?_ ht;rw[<-iS lk,List.take_append_drop];exact h1
  have c2:=mu _ _ t _ hik (by rw[(iF t _ _).1];exact ht)
  repeat'(first|refine gD ?_|(conv=>whnf);first|refine Sm.rf ?_|refine Ix.nat (aa hxo) ?_|refine Rw.one rfl (aa hxo) rfl ?_|refine cu.mk (c2) (.inl rfl) ?_)
  ((conv=>whnf);refine Nx.mk (k+1) (by omega) (by omega) ?_)
  rw[Dw _ _ _ _ lk];exact wC
 ·obtain rfl:k=out.length:=by omega
  rw[X3]
  repeat'(first|refine gD ?_|(conv=>whnf);first|refine Sm.rf ?_)
  refine aR.mk rfl rfl ?_;exact wC
def Jd (a:Int) (o:bJ):Bool:=decide (o.Addr<=a/\a<o.Addr+o.Size)
theorem DZ (h:ab) (E:List Int) (a:Int) (hi:bo h E):aS Tryz.prog 126 false [.ptr (bt h),.val none [I a]] [.ptr (bt h),.val none [I a]] .one [I (du (Jd a) h.Objs)]:=by
 have hlo:=hi.lens.objs;refine fM 47 [] [(4,29,[15,16,17,18,19,20,21,22,23,24,25,26,27,28,29,30,31,32,33,34,35,36,37,38,39,40,41,42,43])] [(0,0),(0,0)] Tryz.func126 rfl (fun u q=>?_)
 repeat'(first|refine gO ?_|(conv=>whnf);first|refine Sm.rf ?_)
 (conv=>whnf)
 refine Lp.mk (ι:=Nat) (fun i=>[(0,.hold .box (bt h)),(1,.hold .one [I (a)]),(5,.hold .one [I ((i:Nat):Int)])]) (fun i=>i<=h.Objs.length/\∀ (j:Nat) (z:bJ),j<i->h.Objs[j]? = some z->Jd a z=false) (fun i=>h.Objs.length - i) (0) ?_ (⟨Q0 _,fun j z hj=>by omega⟩) fun i hi=>?_
 ·exact wC
 obtain⟨hi1,ha⟩:=hi;by_cases li:i<h.Objs.length
 ·have hx:=ah li
  have hbo:=rQ ‹bo h E› (am li);have hso:0<=(nth h.Objs i).Size/\(nth h.Objs i).Size<=1000:=by
   rcases bo.oow ‹bo h E› _ (am li) with⟨s,hs,h1,h2⟩|⟨l,hl',e1,e2⟩
   ·have hc:=aF ((bo.L ‹bo h E›).sok s hs)
    have:=pK (n:=(nth h.Objs i).Size) (by omega);omega
   ·have h8:=cr ((bo.L ‹bo h E›).lok l hl')
    omega
  by_cases e1:(nth h.Objs i).Addr<=a
  ·by_cases e2:a<(nth h.Objs i).Addr+(nth h.Objs i).Size
   ·repeat'(first|refine gD ?_|(conv=>whnf);first|with_reducible refine Ix.nat (aa hx) ?_|refine Sm.rf ?_|refine Rw.one rfl (aa hx) rfl ?_|refine Sm.rf ?_)
    refine aR.mk rfl (R0 (fun z=>[I z]) (dD hx (O0 ⟨e1,e2⟩) ha).symm) ?_;exact wC
   ·repeat'(first|refine gD ?_|(conv=>whnf);first|with_reducible (first|refine Ix.nat (aa hx) ?_|refine Bf.D (fun hq=>?_) (fun hq=>?_))|refine Sm.rf ?_|refine Rw.one rfl (aa hx) rfl ?_|refine Sm.rf ?_)
    ((conv=>whnf);refine Nx.mk (i+1) ⟨by omega,dc hx (P0 fun x=>e2 x.2) ha⟩ (by omega) ?_;(exact wC))
  ·repeat'(first|refine gD ?_|(conv=>whnf);first|with_reducible (first|refine Ix.nat (aa hx) ?_|refine Bf.D (fun hq=>?_) (fun hq=>?_))|refine Sm.rf ?_|refine Rw.one rfl (aa hx) rfl ?_|refine Sm.rf ?_)
   ((conv=>whnf);refine Nx.mk (i+1) ⟨by omega,dc hx (P0 fun x=>e1 x.1) ha⟩ (by omega) ?_;(exact wC))
 ·repeat'(first|refine gD ?_|(conv=>whnf);first|refine Sm.rf ?_)
  refine aR.mk rfl (R0 (fun z=>[I z]) (fE (by omega) ha).symm) ?_;exact wC
theorem Fu (h:ab) (a v:Int):bt {h with Kernel:=kx h.Kernel a v} = (bt h).set 0 (.s .own ((h.Kernel.Machine.Frames.Cells.map (aD .own)).set (ar h.Kernel.Machine.Table (a / 16)).Frame.toNat ((aD .own (nth h.Kernel.Machine.Frames.Cells (fS h.Kernel a))).set 0 (.s .own (((nth h.Kernel.Machine.Frames.Cells (fS h.Kernel a)).map (rI .own)).set (a % 16).toNat (splice (rI .own (nth (nth h.Kernel.Machine.Frames.Cells (fS h.Kernel a)) (a % 16).toNat)) 0 [I v])))))):=by
 simp[bt,kx,setCell,Q4,aD,splice,fS,rI]
theorem Db {α:Type} {p:α->Bool} {xs:List α} {x:α} (hx:x∈xs) (hp:p x=true):0<=du p xs:=by
 have:=jz p xs;rw[show xs.any p=true from Z2.2 ⟨x,hx,hp⟩,C0]at this;exact this
theorem wL (h:ab) (i:Nat) (j v:Int) (hi:bo h []) (li:i<h.Objs.length) (hj:0<=j/\j<=(nth h.Objs i).Size - 1):aS Tryz.prog 356 false [.ptr (bt h),.val none [I ((nth h.Objs i).Addr+j)],.val none [I v]]
  [.ptr (bt (if(ar h.Kernel.Machine.Table (((nth h.Objs i).Addr+j) / 16)).Mode=1\/¬(0<=v/\v<=999) then h else {h with Kernel:=kx h.Kernel ((nth h.Objs i).Addr+j) v})),.val none [I ((nth h.Objs i).Addr+j)],.val none [I v]] .one [I (if(ar h.Kernel.Machine.Table (((nth h.Objs i).Addr+j) / 16)).Mode=1 then 2 else if ¬(0<=v/\v<=999) then 3 else 0)]:=by
 obtain⟨m1,m2,m3⟩:=mc hi (am li) hj;have hfi:0<=du (Jd ((nth h.Objs i).Addr+j)) h.Objs:=Db (am li) (O0 (by omega));have c1:=DZ h [] ((nth h.Objs i).Addr+j) hi;have hks:=bG hi.ker;have c2:=cP h.Kernel.Machine.Table (((nth h.Objs i).Addr+j) / 16) hks.1.2;have c3:=aE v 0 999;generalize hA:(nth h.Objs i).Addr+j=a at *;have hbd:0<=a/\a<512:=by omega
 obtain⟨-,-,-,f0,f1⟩:=cv hi.ker m1;have hul:=(bg.1 (aC.1 hi.ker).2.1).2.2.1;have hfr:fS h.Kernel a<h.Kernel.Machine.Frames.Cells.length:=by unfold fS;omega
 have hck:h.Kernel.Machine.Frames.Cells[(ar h.Kernel.Machine.Table (a / 16)).Frame.toNat]? = some (nth h.Kernel.Machine.Frames.Cells (fS h.Kernel a)):=ah hfr;have h16:=hi.lens.row _ (am hfr);have hzk:=ah (xs:=nth h.Kernel.Machine.Frames.Cells (fS h.Kernel a)) (i:=(a % 16).toNat) (by rw[h16];omega);have htm:a.tmod 16=a % 16:=dZ hbd.1;refine fM 42 [(126,[2,0])] [(8,14,[27,28,29,30,31,32,33,34,35,36,37,38,39,40])] [(0,0),(0,0),(0,0)] Tryz.func356 rfl (fun u q=>?_);by_cases e1:(ar h.Kernel.Machine.Table (a / 16)).Mode=1
 ·rw[if_pos (Or.inl e1),if_pos e1]
  repeat'(first|refine gA ?_|(conv=>whnf);first|refine Sm.rf ?_|refine cu.mk (c1) (.inl rfl) ?_|refine Cl.eq (c2) ⟨⟨rfl,aG.enc_fz _⟩,⟨rfl,rfl⟩,trivial⟩ ?_|refine Cd.mk (by decide) ?_|refine Wr.mk (oM hbd) ?_)
  refine aR.mk rfl rfl ?_;exact wC
 rw[if_neg (c:=_=(1:Int)) e1];by_cases e2:0<=v/\v<=999
 ·rw[O0 e2]at c3
  rw[if_neg (c:=¬(0<=v/\v<=999)) (z3 e2),if_neg (c:=_\/¬(0<=v/\v<=999)) (fun y=>y.elim e1 fun y=>y e2)]
  repeat'(first|refine gA ?_|(conv=>whnf);first|refine Sm.rf ?_|refine cu.mk (c1) (.inl rfl) ?_|refine Cl.eq (c2) ⟨⟨rfl,aG.enc_fz _⟩,⟨rfl,rfl⟩,trivial⟩ ?_|refine Cl.mk (c3) ?_|refine Cd.mk (by decide) ?_|refine Wr.mk (oM hbd) ?_|refine Ev.mk htm ?_|refine Ix.mk f0 (aa hck) ?_|refine Rw.one rfl (aa hck) rfl ?_|refine Ix.mk (by omega) (aa hzk) ?_|refine Pu.two rfl rfl (aa hck) rfl rfl rfl (aa hzk) rfl (I2 _) (Fu h a v) ?_|refine Sm.rf ?_)
  refine aR.mk rfl rfl ?_;exact wC
 ·rw[P0 e2]at c3
  rw[if_pos (Or.inr e2),if_pos e2]
  repeat'(first|refine gA ?_|(conv=>whnf);first|refine Sm.rf ?_|refine cu.mk (c1) (.inl rfl) ?_|refine Cl.eq (c2) ⟨⟨rfl,aG.enc_fz _⟩,⟨rfl,rfl⟩,trivial⟩ ?_|refine Cl.mk (c3) ?_|refine Cd.mk (by decide) ?_|refine Wr.mk (oM hbd) ?_)
  refine aR.mk rfl rfl ?_;exact wC
def vF (l:a8) (n:Int):a7:=if(n+15) / 16<l.Pages then⟨l.Page+(n+15) / 16,l.Pages - (n+15) / 16⟩ else⟨0,0⟩
theorem uM (l:a8) (n:Int) (hl:bR l=true):ao Tryz.prog 386 false [.val (some 3) (a8.enc .imm l),.val none [I n]] (.tup [some 3,some 2,none]) (if 9<=n/\n<=l.Size then a8.enc .own (trimL l n)++a7.enc .own (vF l n)++[B true] else a8.enc .own l++[I 0,I 0]++[B false]):=by
 have c1:=lF l;rw[hl]at c1;have c2:=aE n 9 l.Size;have h8:=hl;unfold bR at h8;rw[C0]at h8;by_cases e:9<=n/\n<=l.Size
 ·rw[O0 e]at c2
  rw[if_pos e];have c3:=kB n;rw[show eI n=(n+15) / 16 by unfold eI;rw[if_pos (by omega)]]at c3;unfold vF;by_cases e2:(n+15) / 16<l.Pages
  ·rw[if_pos e2]
   refine fO 43 [(7,261,[37,38,39,40,42,0,1,2,3,5,4,1005,6,1005,7,8])] Tryz.func386 rfl ?_ (.inr ⟨trivial,trivial,trivial,trivial,trivial,trivial,trivial⟩)
   repeat'(first|refine gD ?_|(conv=>whnf);first|refine Sm.rf ?_|refine Cl.mk (c1) ?_|refine Cl.mk (c2) ?_|refine Cl.mk (c3) ?_|refine Sm.rf ?_)
   rfl
  ·rw[if_neg e2]
   refine fO 43 [(7,261,[37,38,39,40,42,0,1,2,3,5,4,1005,6,1005,7,8])] Tryz.func386 rfl ?_ (.inr ⟨trivial,trivial,trivial,trivial,trivial,trivial,trivial⟩)
   repeat'(first|refine gD ?_|(conv=>whnf);first|refine Sm.rf ?_|refine Cl.mk (c1) ?_|refine Cl.mk (c2) ?_|refine Cl.mk (c3) ?_|refine Sm.rf ?_)
   rfl
 ·rw[P0 e]at c2
  rw[if_neg e];refine fO 43 [(7,261,[37,38,39,40,42,0,1,2,3,5,4,1005,6,1005,7,8])] Tryz.func386 rfl ?_ (.inr ⟨trivial,trivial,trivial,trivial,trivial,trivial,trivial⟩)
  repeat'(first|refine gO ?_|(conv=>whnf);first|refine Sm.rf ?_|refine Cl.mk (c1) ?_|refine Cl.mk (c2) ?_|refine Sm.rf ?_)
  rfl
theorem yH (h:ab) (t a:Int) (hlc:h.Caches.length<=4) (ht:¬(0<=t/\t<=h.Caches.length - 1)):aS Tryz.prog 354 false [.ptr (bt h),.val none [I t],.val none [I a]] [.ptr (bt h),.val none [I t],.val none [I a]] .one [I 1]:=by
 have c0:=aE t 0 (h.Caches.length - 1:Int);rw[P0 ht]at c0;refine fM 148 [(380,[2,0]),(382,[2,0]),(384,[2,0,0]),(379,[2,0])] [(15,269,[68,69,70,71,72,73,74,75,77,67,78,79,11,0,1,2,3,4,5,6,7,13,8,1000,1001,1002,1003,1004,1013,9,10,11,12,14,1012,15]),(22,15,[92,93,94,95,96,97,98,99,100,101,102,103,104,105,106]),(25,271,[116,117,118,119,120,121,122,123,124,125,127,115,128,129,14,0,1,2,3,4,5,6,7,8,9,15,10,1000,1001,1002,1003,1015,11,12,13,14,16,1014,17])] [(0,0),(0,0),(0,0)] Tryz.func354 rfl (fun u q=>?_)
 repeat'(first|refine gO ?_|(conv=>whnf);first|refine Sm.rf ?_|refine Cl.mk (c0) ?_)
 refine aR.mk rfl rfl ?_;exact wC
theorem AL (h:ab) (i t:Nat) (hi:bo h []) (li:i<h.Objs.length) (htn:t<h.Caches.length) (hne:(nth h.Objs i).Thread≠t):aS Tryz.prog 354 false [.ptr (bt h),.val none [I (t:Nat)],.val none [I (nth h.Objs i).Addr]] [.ptr (bt (freeT h t i).1),.val none [I (t:Nat)],.val none [I (nth h.Objs i).Addr]] .one [I (freeT h t i).2]:=by
 have ho:=am li;obtain⟨-,hob,hfst⟩:=hi.objAt ho;have hii:mS h (nth h.Objs i).Addr=i:=by
  have h2:=(hi.objAt ho).1;exact gx (f:=(·.Addr)) (gP hi.osr) h2 li (by rw[hob])
 rw[hii]at hfst;have hbd:=rQ hi ho;have hon:=hi.onu _ ho;have hlen:=hi.lens;have hno:=hlen.objs;have hnc:=hi.nc;have hL:=ki.of hi.mail;have hb4:=hL.b4;have c0:=aE (t:Nat) 0 (h.Caches.length - 1:Int);rw[O0 (by omega)]at c0;have c1:=pp h (nth h.Objs i).Addr (by omega);rw[hfst]at c1;have hx:=ah li;have c2:=jg (nth h.Objs i).Size;have hks:=bG hi.ker;have c4:=cP h.Kernel.Machine.Table ((nth h.Objs i).Addr / 16) hks.1.2;unfold freeT;by_cases hc:aO (nth h.Objs i).Size<0
 ·rw[if_pos hc]
  have c3:=oA h i hi li hc;refine fM 148 [(380,[2,0]),(382,[2,0]),(384,[2,0,0]),(379,[2,0])] [(15,269,[68,69,70,71,72,73,74,75,77,67,78,79,11,0,1,2,3,4,5,6,7,13,8,1000,1001,1002,1003,1004,1013,9,10,11,12,14,1012,15]),(22,15,[92,93,94,95,96,97,98,99,100,101,102,103,104,105,106]),(25,271,[116,117,118,119,120,121,122,123,124,125,127,115,128,129,14,0,1,2,3,4,5,6,7,8,9,15,10,1000,1001,1002,1003,1015,11,12,13,14,16,1014,17])] [(0,0),(0,0),(0,0)] Tryz.func354 rfl (fun u q=>?_)
  repeat'(first|refine gD ?_|(conv=>whnf);first|with_reducible refine Bf.D (fun hq=>?_) (fun hq=>?_)|refine Sm.rf ?_|refine Cl.mk (c0) ?_|refine Cl.eq (c1) ⟨⟨rfl,bz h⟩,⟨rfl,rfl⟩,trivial⟩ ?_|refine Ix.nat (aa hx) ?_|refine Rw.one rfl (aa hx) rfl ?_|refine Cl.mk (c2) ?_|refine cu.mk (c3) (.inl rfl) ?_)
  refine aR.mk rfl rfl ?_;exact wC
 rw[if_neg hc];obtain⟨s1,s2,s3,s4⟩:=N8.of hi (am li) hc;by_cases hm:(ar (tbl h) ((nth h.Objs i).Addr / 16)).Mode=1
 ·rw[if_pos hm]
  unfold tbl at hm;refine fM 148 [(380,[2,0]),(382,[2,0]),(384,[2,0,0]),(379,[2,0])] [(15,269,[68,69,70,71,72,73,74,75,77,67,78,79,11,0,1,2,3,4,5,6,7,13,8,1000,1001,1002,1003,1004,1013,9,10,11,12,14,1012,15]),(22,15,[92,93,94,95,96,97,98,99,100,101,102,103,104,105,106]),(25,271,[116,117,118,119,120,121,122,123,124,125,127,115,128,129,14,0,1,2,3,4,5,6,7,8,9,15,10,1000,1001,1002,1003,1015,11,12,13,14,16,1014,17])] [(0,0),(0,0),(0,0)] Tryz.func354 rfl (fun u q=>?_)
  repeat'(first|refine gA ?_|(conv=>whnf);first|with_reducible refine Bf.D (fun hq=>?_) (fun hq=>?_)|refine Sm.rf ?_|refine Cd.mk (by decide) ?_|refine Wr.mk (oM hbd) ?_|refine Cl.mk (c0) ?_|refine Cl.eq (c1) ⟨⟨rfl,bz h⟩,⟨rfl,rfl⟩,trivial⟩ ?_|refine Ix.nat (aa hx) ?_|refine Rw.one rfl (aa hx) rfl ?_|refine Cl.mk (c2) ?_|refine Cl.eq (c4) ⟨⟨rfl,aG.enc_fz _⟩,⟨rfl,rfl⟩,trivial⟩ ?_)
  refine aR.mk rfl rfl ?_;exact wC
 rw[if_neg hm,if_neg hne];unfold tbl at hm;have c5:=Gv h.Mail t ⟨(nth h.Objs i).Thread,(nth h.Objs i).Addr⟩ hi.mail (by omega);by_cases hs:bD (gq h.Mail t ⟨(nth h.Objs i).Thread,(nth h.Objs i).Addr⟩)=true;rotate_left
 ·rw[if_neg hs]
  rw[if_neg hs,show bD (gq h.Mail t ⟨(nth h.Objs i).Thread,(nth h.Objs i).Addr⟩)=false by simpa using hs]at c5;refine fM 148 [(380,[2,0]),(382,[2,0]),(384,[2,0,0]),(379,[2,0])] [(15,269,[68,69,70,71,72,73,74,75,77,67,78,79,11,0,1,2,3,4,5,6,7,13,8,1000,1001,1002,1003,1004,1013,9,10,11,12,14,1012,15]),(22,15,[92,93,94,95,96,97,98,99,100,101,102,103,104,105,106]),(25,271,[116,117,118,119,120,121,122,123,124,125,127,115,128,129,14,0,1,2,3,4,5,6,7,8,9,15,10,1000,1001,1002,1003,1015,11,12,13,14,16,1014,17])] [(0,0),(0,0),(0,0)] Tryz.func354 rfl (fun u q=>?_)
  repeat'(first|refine gA ?_|(conv=>whnf);first|with_reducible refine Bf.D (fun hq=>?_) (fun hq=>?_)|refine Sm.rf ?_|refine Cd.mk (by decide) ?_|refine Wr.mk (oM hbd) ?_|refine Cl.mk (c0) ?_|refine Cl.eq (c1) ⟨⟨rfl,bz h⟩,⟨rfl,rfl⟩,trivial⟩ ?_|refine Ix.nat (aa hx) ?_|refine Rw.one rfl (aa hx) rfl ?_|refine Cl.mk (c2) ?_|refine Cl.eq (c4) ⟨⟨rfl,aG.enc_fz _⟩,⟨rfl,rfl⟩,trivial⟩ ?_|refine Cl.eq (c5) ⟨⟨rfl,aH.enc_fz h.Mail⟩,⟨rfl,rfl⟩,⟨rfl,rfl⟩,trivial⟩ ?_|refine Sm.rf ?_)
  refine aR.mk rfl rfl ?_;exact wC
 rw[if_pos hs];rw[if_pos hs,hs]at c5;have hfr:fS h.Kernel (nth h.Objs i).Addr<h.Kernel.Machine.Frames.Cells.length:=by unfold fS;omega
 have hcz:=HD s1;have hcs:=dx (aO (nth h.Objs i).Size);unfold LV;generalize gq h.Mail t ⟨(nth h.Objs i).Thread,(nth h.Objs i).Addr⟩ = M at c5;refine fM 148 [(380,[2,0]),(382,[2,0]),(384,[2,0,0]),(379,[2,0])] [(15,269,[68,69,70,71,72,73,74,75,77,67,78,79,11,0,1,2,3,4,5,6,7,13,8,1000,1001,1002,1003,1004,1013,9,10,11,12,14,1012,15]),(22,15,[92,93,94,95,96,97,98,99,100,101,102,103,104,105,106]),(25,271,[116,117,118,119,120,121,122,123,124,125,127,115,128,129,14,0,1,2,3,4,5,6,7,8,9,15,10,1000,1001,1002,1003,1015,11,12,13,14,16,1014,17])] [(0,0),(0,0),(0,0)] Tryz.func354 rfl (fun u q=>?_)
 repeat'(first|refine gA ?_|(conv=>whnf);first|with_reducible refine Bf.D (fun hq=>?_) (fun hq=>?_)|refine Sm.rf ?_|refine Cd.mk (by decide) ?_|refine Wr.mk (oM hbd) ?_|refine Cl.mk (c0) ?_|refine Cl.eq (c1) ⟨⟨rfl,bz h⟩,⟨rfl,rfl⟩,trivial⟩ ?_|refine Ix.nat (aa hx) ?_|refine Rw.one rfl (aa hx) rfl ?_|refine Cl.mk (c2) ?_|refine Cl.eq (c4) ⟨⟨rfl,aG.enc_fz _⟩,⟨rfl,rfl⟩,trivial⟩ ?_|refine Cl.eq (c5) ⟨⟨rfl,aH.enc_fz h.Mail⟩,⟨rfl,rfl⟩,⟨rfl,rfl⟩,trivial⟩ ?_|refine Sm.rf ?_)
 have hh0:({{h with Mail:=M} with Kernel:=fJ h.Kernel (nth h.Objs i).Addr 0} : ab) = {h with Mail:=M}:=EY {h with Mail:=M} _ hfr;have hoo:=R0 (fun y:ab=>C.s .own (y.Kernel.Machine.Frames.Cells.map (aD .own))) hh0
 (conv=>whnf)
 refine Lp.mk (ι:=Nat) (fun k=>[(0,.hold .box (bt {{h with Mail:=M} with Kernel:=fJ h.Kernel (nth h.Objs i).Addr k})),(1,.hold .one [I ((t:Nat):Int)]),(2,.hold .one [I ((nth h.Objs i).Addr)]),(7,.hold .one [I ((i:Nat):Int)]),(8,.hold .box (bJ.enc .own (nth h.Objs i))),(9,.hold .one [I (aO (nth h.Objs i).Size)]),(10,.hold .box (bj.enc .own (ar h.Kernel.Machine.Table ((nth h.Objs i).Addr / 16)))),(13,.hold .one [I ((k:Nat):Int)])]) (fun k=>k<=(csz (aO (nth h.Objs i).Size)).toNat) (fun k=>(csz (aO (nth h.Objs i).Size)).toNat - k) (0) ?_ (Q0 _) fun k hk=>?_
 ·repeat'(first|exact trivial|rfl |exact mI hoo|exact dL _|refine And.intro ?_ ?_|(exact AG (by first|omega|(simp only;omega)|(simp;omega))))
 have hmod:IntKind.i64.wrap 0=0:=rfl;have htm:(nth h.Objs i).Addr.tmod 16=(nth h.Objs i).Addr % 16:=dZ hbd.1;have hck:(fJ h.Kernel (nth h.Objs i).Addr k).Machine.Frames.Cells[(ar h.Kernel.Machine.Table ((nth h.Objs i).Addr / 16)).Frame.toNat]? = some (lv (nth h.Kernel.Machine.Frames.Cells (fS h.Kernel (nth h.Objs i).Addr)) ((nth h.Objs i).Addr % 16).toNat k):=U2 hfr;by_cases lk:k<(csz (aO (nth h.Objs i).Size)).toNat
 ·have hzk:=ah (xs:=lv (nth h.Kernel.Machine.Frames.Cells (fS h.Kernel (nth h.Objs i).Addr)) ((nth h.Objs i).Addr % 16).toNat k) (i:=((nth h.Objs i).Addr % 16+k).toNat) (by rw[nU,s4];omega)
  repeat'(first|refine gD ?_|(conv=>whnf);first|refine Sm.rf ?_|refine Cd.mk (by decide) ?_|refine Ev.mk htm ?_|refine Cl.mk (hcs) ?_|refine Ix.mk s2.1 (aa hck) ?_|refine Rw.one rfl (aa hck) rfl ?_|refine Ix.mk (by omega) (aa hzk) ?_|refine Pu.two rfl rfl (aa hck) rfl rfl rfl (aa hzk) rfl (I2 _) (BJ {h with Mail:=M} _ k _ hbd.1) ?_)
  ((conv=>whnf);refine Nx.mk (k+1) (by omega) (by omega) ?_;(exact wC))
 ·obtain rfl:k=(csz (aO (nth h.Objs i).Size)).toNat:=by omega
  have c6:=mf {{h with Mail:=M} with Kernel:=fJ h.Kernel (nth h.Objs i).Addr (csz (aO (nth h.Objs i).Size)).toNat} i li (by show h.Objs.length<=_;omega)
  repeat'(first|refine gA ?_|(conv=>whnf);first|with_reducible refine Bf.D (fun hq=>?_) (fun hq=>?_)|refine Sm.rf ?_|refine Cl.mk (hcs) ?_|refine cu.mk (c6) (.inl rfl) ?_)
  refine aR.mk rfl rfl ?_;exact wC
theorem LN (h:ab) (i:Nat) (t:Int) (hi:bo h []) (li:i<h.Objs.length):aS Tryz.prog 354 false [.ptr (bt h),.val none [I t],.val none [I (nth h.Objs i).Addr]] [.ptr (bt (if 0<=t/\t<=h.Caches.length - 1 then(freeT h t.toNat i).1 else h)),.val none [I t],.val none [I (nth h.Objs i).Addr]] .one [I (if 0<=t/\t<=h.Caches.length - 1 then(freeT h t.toNat i).2 else 1)]:=by
 have hlc:h.Caches.length<=4:=by have:=(d5.1 hi.mail).1.2.1;have:=hi.nc;omega
 by_cases ht:0<=t/\t<=h.Caches.length - 1
 ·rw[if_pos ht,if_pos ht]
  obtain⟨n,rfl⟩:=Z1 ht.1;simp only[W1];by_cases e:(nth h.Objs i).Thread=n
  ·have:=Eo h (nth h.Objs i) n hi (am li) e hlc
   have hii:mS h (nth h.Objs i).Addr=i:=by
    obtain⟨h2,hob,-⟩:=hi.objAt (am li);exact gx (f:=(·.Addr)) (gP hi.osr) h2 li (by rw[hob])
   rw[hii,<-y6 e]at this;exact this
  ·exact AL h i n hi li (by omega) e
 ·rw[if_neg ht,if_neg ht]
  exact yH h t _ hlc ht
end Go.Proofs.YtembpgjjnioagaaGreat.Ab
