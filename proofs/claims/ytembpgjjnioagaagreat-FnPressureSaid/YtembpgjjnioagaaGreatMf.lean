/- Pages given back: what holds of a heap is kept. No condition. -/
import Derived.Test.YtembpgjjnioagaaGreatMd
import Derived.Test.YtembpgjjnioagaaGreatMe
import Derived.Deep.LoopGhost
import Derived.Deep.RegionLaw
import Derived.Lib.Walk
import Derived.Sort.WalkB12
import Derived.Lib.SliceRun
import Derived.Shelf.RegionOpenPlain
set_option linter.unusedVariables false
set_option linter.unusedSimpArgs false
set_option linter.constructorNameAsVariable false
namespace Go.Proofs.YtembpgjjnioagaaGreat.Ab
def dL (k:af) (p:Int):Nat->af
 | 0=>k
 | n+1=>bZ (dL k p n) (p+n)
theorem jY {k:af} (h:a8 k=true) (p:Int):∀ n,a8 (dL k p n)=true
 | 0=>h
 | n+1=>mO _ (jY h p n)
theorem gY (k:af) (p:Int):∀ n,(dL k p n).Machine.Table.Entries.length=k.Machine.Table.Entries.length/\(dL k p n).Calls=k.Calls/\(dL k p n).Refuse=k.Refuse
 | 0=>⟨rfl,rfl,rfl⟩
 | n+1=>by
  obtain⟨h1,h2,h3⟩:=gY k p n;obtain⟨g1,g2,g3⟩:=lF (dL k p n) (p+n);exact⟨g1.trans h1,g2.trans h2,g3.trans h3⟩
theorem pu {k:af} (h:a8 k=true) {p:Int} (hp:0<=p/\p<k.Machine.Table.Entries.length) (q:Nat):nth (bZ k p).Machine.Table.Entries q=if(q:Int)=p then⟨0,0⟩ else nth k.Machine.Table.Entries q:=by
 have he:ar k.Machine.Table p=nth k.Machine.Table.Entries p.toNat:=by unfold ar;rw[if_pos hp]
 unfold bZ;split
 ·rename_i hm
  split
  ·rename_i hq
   rw[he]at hm;have h3:=(bt.1 (aB.1 h).2.2.1).1 p.toNat (by omega);unfold jQ at h3;rw[C0]at h3;have h4:=h3.2.2.1 hm;rw[show q=p.toNat by omega];generalize nth k.Machine.Table.Entries p.toNat=e at hm h4;obtain⟨m,f⟩:=e;simp only at hm h4;rw[hm,h4]
  ·rfl
 ·rw[(oe _ _).1]
  simp only[jM,cx];by_cases e:(q:Int)=p
  ·rw[if_pos ⟨by omega,by omega⟩,if_pos e]
  ·rw[if_neg fun x=>e (by omega),if_neg e]
theorem lh {k:af} (h:a8 k=true) {p:Int} (hp:0<=p):∀ n:Nat,p+n<=k.Machine.Table.Entries.length->∀ q:Nat,nth (dL k p n).Machine.Table.Entries q=if p<=q/\(q:Int)<p+n then⟨0,0⟩ else nth k.Machine.Table.Entries q
 | 0,_,q=>by rw[if_neg (by omega)];rfl
 | n+1,hn,q=>by
  have h1:=lh h hp n (by omega) q;have h2:=pu (jY h p n) (p:=p+n) ⟨by omega,by rw[(gY k p n).1];omega⟩ q;show nth (bZ (dL k p n) (p+n)).Machine.Table.Entries q=_;rw[h2,h1];by_cases e:(q:Int)=p+n
  ·rw[if_pos e,if_pos ⟨by omega,by omega⟩]
  ·rw[if_neg e]
   by_cases e2:p<=q/\(q:Int)<p+n
   ·rw[if_pos e2,if_pos ⟨by omega,by omega⟩]
   ·rw[if_neg e2,if_neg (by omega)]
theorem BP {α β:Type} (f:α->List β) {xs ys:List α} (h:xs.Sublist ys):(xs.flatMap f).Sublist (ys.flatMap f):=by
 induction h with
 | slnil=>exact List.Sublist.refl _
 | cons a _ ih=>rw[List.flatMap_cons];exact ih.trans (List.sublist_append_right ..)
 | cons_cons a _ ih=>rw[List.flatMap_cons,List.flatMap_cons];exact List.Sublist.append (List.Sublist.refl _) ih
theorem uj {h:ab} {E:List Int} (hi:bm h E) {sp:List au} {la:List aA} {p:Int} {n:Nat} (hn:1<=n) (hs:sp.Sublist h.Spans) (hl:la.Sublist h.Larges) (hall:∀ q:Int,p<=q->q<p+n->q∈pgs h.Spans h.Larges) (hp:0<=p) (hm:∀ q,q∈pgs sp la↔q∈pgs h.Spans h.Larges/\¬(p<=q/\q<p+n)) :
  ∃ o,dn (dG h) h.Free ⟨p,n⟩ = some o/\a8 (dL h.Kernel p n)=true/\bx ((dL h.Kernel p n).Machine.Table.Entries.length:Nat) o=true/\bg sp la=true/\Pg (dL h.Kernel p n).Machine.Table o sp la:=by
 have hlast:=hi.pg.bnd _ (hall (p+n - 1) (by omega) (by omega));have hlen:=(gY h.Kernel p n).1;have hlt:p+n<=h.Kernel.Machine.Table.Entries.length:=by unfold tbl at hlast;omega
 have hent:=lh hi.ker hp n hlt;obtain⟨o,o1,o2,o3⟩:=tf (r:=⟨p,n⟩) hi.rng ⟨hp,by simp only;omega,hlt⟩ fun q q1 q2=>by
  simp only at q1 q2;obtain⟨m,rfl⟩:=Z1 (show 0<=q by omega);have hml:m<(tbl h).Entries.length:=by unfold tbl;omega
  exact(hi.pg.fre m hml).1 ((hi.pg.own m hml).2 (hall _ q1 q2))
 refine⟨o,o1,jY hi.ker p n,by rw[hlen];exact o2,?_,?_⟩
 ·obtain⟨l1,l2,l3⟩:=cZ hi.lay
  unfold bg;simp only[I0,C0];exact⟨⟨z3.2 fun s h1=>z3.1 l1 s (hs.subset h1),z3.2 fun l h1=>z3.1 l2 l (hl.subset h1)⟩,l3.sublist ((hs.map _).append (BP _ hl))⟩
 ·have hold:∀ q:Nat,(q:Int)∈pgs sp la->nth (dL h.Kernel p n).Machine.Table.Entries q=nth (tbl h).Entries q:=fun q hq=>by rw[hent,if_neg ((hm q).1 hq).2];rfl
  have hmode:∀ q:Nat,(nth (dL h.Kernel p n).Machine.Table.Entries q).Mode≠0↔(nth (tbl h).Entries q).Mode≠0/\¬(p<=q/\(q:Int)<p+n):=fun q=>by
   rw[hent];by_cases e:p<=q/\(q:Int)<p+n
   ·rw[if_pos e];exact⟨fun x=>absurd rfl x,fun x=>absurd e x.2⟩
   ·rw[if_neg e];exact⟨fun x=>⟨x,e⟩,fun x=>x.1⟩
  refine⟨fun l h1 q hq r hr hrm hrf=>?_,fun q hq=>?_,fun q hq=>?_,fun q hq=>?_,fun s h1 u h2 hne hf=>?_⟩
  ·have hr2:=(hmode r).1 hrm
   rw[hlen]at hr;rw[hold q (eY h1 hq),hent,if_neg hr2.2]at hrf;exact hi.pg.one l (hl.subset h1) q hq r hr hr2.1 hrf
  ·rw[hlen];exact hi.pg.bnd q ((hm q).1 hq).1
  ·rw[hlen]at hq
   rw[hmode,hm,hi.pg.own q hq]
  ·rw[hlen]at hq
   rw[hmode,o3,hi.pg.fre q hq];simp only
   grind
  ·have hpos:∀ s∈sp,0<=s.Page:=fun s h1=>(aG (hi.L.sok s (hs.subset h1))).1
   have e1:=hold s.Page.toNat (by rw[Int.toNat_of_nonneg (hpos s h1)];exact du h1);have e2:=hold u.Page.toNat (by rw[Int.toNat_of_nonneg (hpos u h2)];exact du h2);rw[e1,e2]at hf;exact hi.pg.mesh s (hs.subset h1) u (hs.subset h2) hne hf
theorem dU {α:Type} [Inhabited α] {xs:List α} {k:Nat} {z:α} : z∈dele xs k↔∃ j,j<xs.length/\j≠k/\nth xs j=z:=by
 unfold dele;rw[C2];constructor
 ·rintro(h|h)
  ·obtain⟨j,hj,rfl⟩:=List.mem_take_iff_getElem.1 h
   exact⟨j,by omega,by omega,bq (Q1 (by omega))⟩
  ·obtain⟨j,hj,rfl⟩:=List.mem_drop_iff_getElem.1 h
   exact⟨k+1+j,by omega,by omega,bq (Q1 (by omega))⟩
 ·rintro⟨j,hj,hne,rfl⟩
  rw[bq (Q1 hj)];by_cases e:j<k
  ·exact .inl (List.mem_take_iff_getElem.2 ⟨j,by omega,rfl⟩)
  ·refine .inr (List.mem_drop_iff_getElem.2 ⟨j - (k+1),by omega,?_⟩)
   congr 1;omega
theorem nR {sp:List au} {la:List aA} {q:Int} : q∈pgs sp la↔(∃ s∈sp,s.Page=q)\/∃ l∈la,q∈lpgs l l.Pages.toNat:=by
 unfold pgs;simp only[C2,P3,List.mem_flatMap]
theorem yK {s:au} (h:s.Bits=0) (a:Int):¬eP s a:=by
 rintro⟨-,-,-,h4⟩
 rw[fU,h]at h4;simp at h4
theorem bm.giveSpan {h:ab} {E:List Int} {i:Nat} (hi:bm h E) (li:i<h.Spans.length) (hb:(nth h.Spans i).Bits=0) (hj:h.Meshing=true->(nth h.Spans i).Page≠h.Job.Plan.Keep/\(nth h.Spans i).Page≠h.Job.Plan.Move) :
  ∃ o,dn (dG h) h.Free ⟨(nth h.Spans i).Page,1⟩ = some o/\bm {h with Kernel:=bZ h.Kernel (nth h.Spans i).Page,Spans:=dele h.Spans i,Free:=o} E:=by
 have hL:=hi.L;have hc:=aG (hL.sok _ (am li));have hmem:∀ q,q∈pgs (dele h.Spans i) h.Larges↔q∈pgs h.Spans h.Larges/\¬((nth h.Spans i).Page<=q/\q<(nth h.Spans i).Page+(1:Nat)):=fun q=>by
  rw[nR,nR];constructor
  ·rintro(⟨s,hs,rfl⟩|⟨l,hl,hq⟩)
   ·obtain⟨j,hjl,hji,rfl⟩:=dU.1 hs
    refine⟨.inl ⟨_,am hjl,rfl⟩,fun e=>hji (gy (f:=(·.Page)) hL.nd hjl li (by omega))⟩
   ·refine⟨.inr ⟨l,hl,hq⟩,fun e=>?_⟩
    obtain⟨k,hk,rfl⟩:=dc.1 hq;exact hL.dis _ (am li) l hl k hk (by omega)
  ·rintro⟨⟨s,hs,rfl⟩|⟨l,hl,hq⟩,hne⟩
   ·obtain⟨j,hjl,rfl⟩:=bc hs
    refine .inl ⟨_,dU.2 ⟨j,hjl,fun e=>hne (by subst e;omega),rfl⟩,rfl⟩
   ·exact .inr ⟨l,hl,hq⟩
 obtain⟨o,o1,o2,o3,o4,o5⟩:=uj hi (sp:=dele h.Spans i) (la:=h.Larges) (p:=(nth h.Spans i).Page) (n:=1) (I2 _) (fe ..) (List.Sublist.refl _) (fun q q1 q2=>by rw[show q=(nth h.Spans i).Page by omega];exact du (am li)) hc.1 hmem;have hu:dL h.Kernel (nth h.Spans i).Page 1=bZ h.Kernel (nth h.Spans i).Page:=by show bZ h.Kernel ((nth h.Spans i).Page+((0:Nat):Int))=_;rw[show(nth h.Spans i).Page+((0:Nat):Int)=(nth h.Spans i).Page by omega]
 rw[hu]at o2 o3 o5;have hSl:∀ b c,iU (dele h.Spans i) b c↔iU h.Spans b c:=fun b c=>by
  constructor
  ·rintro⟨s,hs,h1⟩;exact⟨s,(fe ..).subset hs,h1⟩
  ·rintro⟨s,hs,h1,h2⟩
   obtain⟨j,hjl,rfl⟩:=bc hs;exact⟨_,dU.2 ⟨j,hjl,fun e=>yK hb b (by rw[<-e];exact h1),rfl⟩,h1,h2⟩
 refine⟨o,o1,{hi with
   ker:=o2
   rng:=o3
   lay:=o4
   srs:=hi.srs.sublist (fe ..)
   pg:=o5
   oow:=fun ob ho=>?_
   hca:=fun c hc k hk b hb=>(hSl b k).2 (hi.hca c hc k hk b hb)
   hqu:=fun x hx=>(hSl _ _).2 (hi.hqu x hx)
   hfl:=fun b hb=>(hSl _ _).2 (hi.hfl b hb)
   hin:=fun b hb=>(hSl _ _).2 (hi.hin b hb)
   mem:=fun b=>(hi.mem b).trans ?_
   job:=fun hm=>?_}⟩
 ·rcases hi.oow ob ho with⟨s,hs,h1,h2⟩|h1
  ·obtain⟨j,hjl,rfl⟩:=bc hs
   exact .inl ⟨_,dU.2 ⟨j,hjl,fun e=>yK hb _ (by rw[<-e];exact h1),rfl⟩,h1,h2⟩
  ·exact .inr h1
 ·unfold lw;rw[hSl]
 ·obtain⟨j1,⟨s,hs,e1⟩,⟨u,hu,e2⟩⟩:=hi.job hm
  obtain⟨n1,n2⟩:=hj hm;obtain⟨a,hal,rfl⟩:=bc hs;obtain⟨b,hbl,rfl⟩:=bc hu;exact⟨j1,⟨_,dU.2 ⟨a,hal,fun e=>n1 (by rw[<-e];exact e1),rfl⟩,e1⟩,⟨_,dU.2 ⟨b,hbl,fun e=>n2 (by rw[<-e];exact e2),rfl⟩,e2⟩⟩
theorem bm.dropL {h:ab} {E:List Int} {i k:Nat} (hi:bm h E) (li:i<h.Objs.length) (lk:k<h.Larges.length) (ea:(nth h.Objs i).Addr=16*(nth h.Larges k).Page) :
  ∃ o,dn (dG h) h.Free ⟨(nth h.Larges k).Page,(nth h.Larges k).Pages⟩ = some o/\bm {h with Kernel:=dL h.Kernel (nth h.Larges k).Page (nth h.Larges k).Pages.toNat,Larges:=dele h.Larges k,Free:=o,Objs:=dele h.Objs i} E:=by
 have hL:=hi.L;have hf:=aV (hL.lok _ (am lk));have hmem:∀ q,q∈pgs h.Spans (dele h.Larges k)↔q∈pgs h.Spans h.Larges/\¬((nth h.Larges k).Page<=q/\q<(nth h.Larges k).Page+((nth h.Larges k).Pages.toNat:Nat)):=fun q=>by
  rw[nR,nR];constructor
  ·rintro(⟨s,hs,rfl⟩|⟨l,hl,hq⟩)
   ·refine⟨.inl ⟨s,hs,rfl⟩,fun e=>hL.dis s hs _ (am lk) (s.Page - (nth h.Larges k).Page).toNat (by omega) (by omega)⟩
   ·obtain⟨j,hjl,hji,rfl⟩:=dU.1 hl
    refine⟨.inr ⟨_,am hjl,hq⟩,fun e=>?_⟩;obtain⟨m,hm,rfl⟩:=dc.1 hq;exact hji (hL.one j k hjl lk m ((nth h.Larges j).Page+(m:Int) - (nth h.Larges k).Page).toNat hm (by omega) (by omega))
  ·rintro⟨⟨s,hs,rfl⟩|⟨l,hl,hq⟩,hne⟩
   ·exact .inl ⟨s,hs,rfl⟩
   ·obtain⟨j,hjl,rfl⟩:=bc hl
    refine .inr ⟨_,dU.2 ⟨j,hjl,fun e=>hne ?_,rfl⟩,hq⟩;subst e;obtain⟨m,hm,rfl⟩:=dc.1 hq;omega
 obtain⟨o,o1,o2,o3,o4,o5⟩:=uj hi (sp:=h.Spans) (la:=dele h.Larges k) (p:=(nth h.Larges k).Page) (n:=(nth h.Larges k).Pages.toNat) (by omega) (List.Sublist.refl _) (fe ..) (fun q q1 q2=>eY (am lk) (dc.2 ⟨(q - (nth h.Larges k).Page).toNat,by omega,by omega⟩)) hf.2.2.1 hmem;rw[Int.toNat_of_nonneg (by omega)]at o1;have hp:(E++holders h).Perm ((nth h.Objs i).Addr::(E++holders {h with Objs:=dele h.Objs i})):=by
  have h0:=(xZ li).map (·.Addr);refine List.perm_iff_count.2 fun a=>?_
  have h1:=h0.count_eq a;simp only[List.map_cons,List.count_cons]at h1;simp only[holders,ch,List.count_append,List.count_cons];omega
 have hnd:=hp.nodup_iff.1 hi.nd;obtain⟨hna,hnd⟩:=List.nodup_cons.1 hnd;have hmm:∀ b,(b=(nth h.Objs i).Addr\/b∈E++holders {h with Objs:=dele h.Objs i})↔lw h.Spans h.Larges b:=fun b=>by rw[<-hi.mem b,hp.mem_iff,List.mem_cons]
 have hne:∀ b,b∈E++holders {h with Objs:=dele h.Objs i}->b≠(nth h.Objs i).Addr:=fun b hb e=>hna (by rw[<-e];exact hb)
 refine⟨o,o1,{hi with
   ker:=o2
   rng:=o3
   lay:=o4
   srl:=hi.srl.sublist (fe ..)
   pg:=o5
   osr:=hi.osr.sublist (fe ..)
   onu:=fun ob ho=>hi.onu ob ((fe ..).subset ho)
   oid:=hi.oid.sublist ((fe ..).map _)
   oow:=fun ob ho=>?_
   nd:=hnd
   mem:=fun b=>?_}⟩
 ·rcases hi.oow ob ((fe ..).subset ho) with h1|⟨l,hl,e1,e2⟩
  ·exact .inl h1
  ·obtain⟨j,hjl,rfl⟩:=bc hl
   refine .inr ⟨_,dU.2 ⟨j,hjl,fun e=>?_,rfl⟩,e1,e2⟩;subst e;refine hne ob.Addr (C2.2 (.inr ?_)) (by rw[ea];exact e1);unfold holders;simp only[C2];exact .inl (.inl (.inl (P3.2 ⟨ob,ho,rfl⟩)))
 ·constructor
  ·intro hb
   rcases(hmm b).1 (.inr hb) with h1|⟨l,hl,rfl⟩
   ·exact .inl h1
   ·obtain⟨j,hjl,rfl⟩:=bc hl
    exact .inr ⟨_,dU.2 ⟨j,hjl,fun e=>hne _ hb (by rw[ea,e]),rfl⟩,rfl⟩
  ·rintro(h1|⟨l,hl,rfl⟩)
   ·refine((hmm b).2 (.inl h1)).resolve_left fun e=>?_
    obtain⟨s,hs,⟨g1,g2,-⟩,-⟩:=h1;exact(un hL (am lk)).1 s hs (by rw[e,ea]at g1 g2;exact⟨g1,g2⟩)
   ·obtain⟨j,hjl,hji,rfl⟩:=dU.1 hl
    refine((hmm _).2 (.inr ⟨_,am hjl,rfl⟩)).resolve_left fun e=>hji ?_
    have g1:=aV (hL.lok _ (am hjl));rw[ea]at e;exact hL.one j k hjl lk 0 0 (by omega) (by omega) (by omega)
def gv (h:ab) (p:Int):Bool:=h.Meshing&&(decide (p=h.Job.Plan.Keep) || decide (p=h.Job.Plan.Move))
def giveP (h:ab) (i:Nat):ab:={h with Kernel:=bZ h.Kernel (nth h.Spans i).Page,Spans:=dele h.Spans i,Free:=(dn (dG h) h.Free ⟨(nth h.Spans i).Page,1⟩).getD h.Free}
def clrS (h:ab) (i:Nat) (a:Int):ab:={h with Spans:=h.Spans.set i (lK (nth h.Spans i) (dN (nth h.Spans i) a))}
def freeS (h:ab) (i:Nat) (a:Int):ab:=if(lK (nth h.Spans i) (dN (nth h.Spans i) a)).Bits=0/\gv h (nth h.Spans i).Page=false then giveP (clrS h i a) i else clrS h i a
def vu (h:ab) (a:Int):Nat:=(fV h (a / 16)).toNat
def freeA (h:ab) (a:Int):ab:=freeS h (vu h a) a
def cput (c:aC) (k a:Int):Option aC:=if bn c=true/\0<=k/\k<=3/\bn (mt c k.toNat a)=true then some (mt c k.toNat a) else none
def recyc (t:Nat) (h:ab) (a:Int):ab:=match cput (nth h.Caches t) (nth h.Spans (vu h a)).Class a with
 | some c=>{h with Caches:=h.Caches.set t c}
 | none=>freeA h a
theorem bm.at {h:ab} {E:List Int} {a:Int} (hi:bm h E) (ha:iU h.Spans a (-1)):vu h a<h.Spans.length/\eP (nth h.Spans (vu h a)) a/\fV h (a / 16)=(vu h a:Nat):=by
 obtain⟨s,hs,h1,-⟩:=ha;obtain⟨i,li,rfl⟩:=bc hs;have hp:(nth h.Spans i).Page=a / 16:=by have a1:=h1.1;have a2:=h1.2.1;omega
 have hon:=sf hi.L li;rw[hp]at hon;have hx:vu h a=i:=by unfold vu;rw[hon];rfl
 rw[hx];exact⟨li,h1,hon⟩
theorem KA {h:ab} {p:Int} (e:gv h p=false) (hm:h.Meshing=true):p≠h.Job.Plan.Keep/\p≠h.Job.Plan.Move:=by
 unfold gv at e;rw[hm]at e;simpa using e
theorem bm.freeS {h:ab} {E:List Int} {a:Int} {i:Nat} (hi:bm h (a::E)) (li:i<h.Spans.length) (ha:eP (nth h.Spans i) a):bm (freeS h i a) E:=by
 have h1:=hi.give li ha;unfold Ab.freeS;split
 ·rename_i e
  have hn:nth (clrS h i a).Spans i=lK (nth h.Spans i) (dN (nth h.Spans i) a):=by unfold clrS;simp only[cx,true_and];rw[if_pos li]
  obtain⟨o,o1,o2⟩:=bm.giveSpan (h:=clrS h i a) h1 (i:=i) (by unfold clrS;simp only[Z0];exact li) (by rw[hn];exact e.1) (fun hm=>by rw[hn];exact KA e.2 hm);unfold giveP;rw[o1];exact o2
 ·exact h1
theorem bm.freeA {h:ab} {E:List Int} {a:Int} (hi:bm h (a::E)):bm (freeA h a) E:=by
 obtain⟨h1,h2,-⟩:=hi.at (hi.hin a (I1 ..));exact hi.freeS h1 h2
theorem sN {c:aC} (h:bn c=true):c.Lists.length=4:=by
 unfold bn at h;simp only[I0,C0]at h;exact h.1
theorem bm.recyc {h:ab} {E:List Int} {a:Int} {t:Nat} (hi:bm h (a::E)) (ht:t<h.Caches.length):bm (recyc t h a) E:=by
 obtain⟨h1,h2,-⟩:=hi.at (hi.hin a (I1 ..));unfold Ab.recyc;split
 ·rename_i c hc
  unfold cput at hc;split at hc
  ·rename_i e
   cases hc;obtain⟨e1,e2,e3,e4⟩:=e;exact hi.put ht (by rw[sN e1];omega) ⟨_,am h1,h2,.inr (by omega)⟩ e4
  ·cases hc
 ·exact hi.freeA
theorem vL (h:ab) (i:Nat) (a:Int):(freeS h i a).Caches=h.Caches/\(freeS h i a).Objs=h.Objs/\(freeS h i a).Kernel.Calls=h.Kernel.Calls/\(freeS h i a).Mail=h.Mail/\(freeS h i a).Job=h.Job/\(freeS h i a).Clock=h.Clock/\(freeS h i a).Quar=h.Quar/\(freeS h i a).Kernel.Refuse=h.Kernel.Refuse:=by
 unfold freeS;split
 ·obtain⟨-,h2,h3⟩:=lF (clrS h i a).Kernel (nth (clrS h i a).Spans i).Page
  exact⟨rfl,rfl,h2,rfl,rfl,rfl,rfl,h3⟩
 ·exact⟨rfl,rfl,rfl,rfl,rfl,rfl,rfl,rfl⟩
theorem pM (t:Nat) (h:ab) (a:Int):(recyc t h a).Caches.length=h.Caches.length/\(recyc t h a).Objs=h.Objs/\(recyc t h a).Kernel.Calls=h.Kernel.Calls/\(recyc t h a).Mail=h.Mail/\(recyc t h a).Job=h.Job/\(recyc t h a).Clock=h.Clock/\(recyc t h a).Quar=h.Quar/\(recyc t h a).Kernel.Refuse=h.Kernel.Refuse:=by
 unfold recyc;split
 ·exact⟨Z0 ..,rfl,rfl,rfl,rfl,rfl,rfl,rfl⟩
 ·obtain⟨h1,h2⟩:=vL h (vu h a) a
  exact⟨R0 _ h1,h2⟩
def recycs (t:Nat) (h:ab) (az:List Int):ab:=az.foldl (recyc t) h
theorem fN (t:Nat):∀ (az:List Int) (h:ab),(recycs t h az).Caches.length=h.Caches.length/\(recycs t h az).Objs=h.Objs/\(recycs t h az).Kernel.Calls=h.Kernel.Calls/\(recycs t h az).Mail=h.Mail/\(recycs t h az).Job=h.Job/\(recycs t h az).Clock=h.Clock/\(recycs t h az).Quar=h.Quar/\(recycs t h az).Kernel.Refuse=h.Kernel.Refuse
 | [],h=>⟨rfl,rfl,rfl,rfl,rfl,rfl,rfl,rfl⟩
 | a::az,h=>by
  obtain⟨h1,h2,h3,h4,h5,h6,h7,h8⟩:=fN t az (recyc t h a);obtain⟨g1,g2,g3,g4,g5,g6,g7,g8⟩:=pM t h a;exact⟨h1.trans g1,h2.trans g2,h3.trans g3,h4.trans g4,h5.trans g5,h6.trans g6,h7.trans g7,h8.trans g8⟩
theorem bm.recycs {t:Nat} {E:List Int} : ∀ {az:List Int} {h:ab},bm h (az++E)->t<h.Caches.length->bm (recycs t h az) E
 | [],h,hi,_=>hi
 | a::az,h,hi,ht=>bm.recycs (az:=az) (h:=Ab.recyc t h a) (hi.recyc ht) (by rw[(pM t h a).1];exact ht)
def qc (l:List aM):Int:=quarCells l l.length
def mD (room:Int):List aM->Nat
 | []=>0
 | x::xs=>if room<qc (x::xs) then mD room xs+1 else 0
def GN (q:bB) (x:aM):bB:=⟨q.Room,(q.Lst++[x]).drop (mD q.Room (q.Lst++[x]))⟩
def zj (q:bB) (x:aM):List aM:=(q.Lst++[x]).take (mD q.Room (q.Lst++[x]))
theorem D2 (room:Int):∀ l,mD room l<=l.length
 | []=>I2 _
 | x::xs=>by unfold mD;split;(have:=D2 room xs;simp only[List.length_cons];omega);omega
theorem yG {room:Int} (hr:0<=room):∀ l:List aM,qc (l.drop (mD room l))<=room
 | []=>hr
 | x::xs=>by
  unfold mD;split
  ·exact yG hr xs
  ·rename_i h;show qc (x::xs)<=room;omega
theorem yD {room:Int} : ∀ {l:List aM} {k:Nat},k<mD room l->room<qc (l.drop k)
 | [],k,h=>by cases h
 | x::xs,0,h=>by
  unfold mD at h;split at h
  ·assumption
  ·omega
 | x::xs,k+1,h=>by
  unfold mD at h;split at h
  ·exact yD (l:=xs) (by omega)
  ·omega
theorem iM {q:bB} : eN q=true↔(∀ x∈q.Lst,0<=x.Class/\x.Class<=3/\0<=x.Addr/\0<=x.Since)/\(q.Lst.Pairwise fun a b=>a.Since<=b.Since)/\(q.Lst.map (·.Addr)).Nodup/\0<=q.Room/\q.Room<=500/\qc q.Lst<=q.Room:=by
 refine Iff.trans ?_ (and_congr Iff.rfl (and_congr (tU (fun a b:Int=>a<=b) (fun a b c=>X3) (fun s:aM=>s.Since) q.Lst) (and_congr (yh (fun s:aM=>s.Addr) q.Lst) Iff.rfl)));unfold eN qc;simp only[I0,C0,cn,js,Bool.not_eq_true',List.any_eq_false,dJ];constructor
 ·rintro⟨h1,h2⟩
  refine⟨fun x hx=>?_,fun i hi=>(h1 i hi).1.2.2.2.2,fun i hi=>(h1 i hi).2,h2⟩;obtain⟨i,hi,rfl⟩:=bc hx;obtain⟨⟨a1,a2,a3,a4,-⟩,-⟩:=h1 i hi;exact⟨a1,a2,a3,a4⟩
 ·rintro⟨h1,h2,h3,h4⟩
  refine⟨fun i hi=>?_,h4⟩;obtain⟨a1,a2,a3,a4⟩:=h1 _ (am hi);exact⟨⟨a1,a2,a3,a4,h2 i hi⟩,h3 i hi⟩
theorem LX {q:bB} {x:aM} (h:eN q=true) (hx:0<=x.Class/\x.Class<=3/\0<=x.Addr/\0<=x.Since) (hs:∀ y∈q.Lst,y.Since<=x.Since) (hn:∀ y∈q.Lst,y.Addr≠x.Addr):eN (GN q x)=true:=by
 obtain⟨h1,h2,h3,h4,h5,h6⟩:=iM.1 h;have hsub:(GN q x).Lst.Sublist (q.Lst++[x]):=List.drop_sublist ..;refine iM.2 ⟨fun y hy=>?_,List.Pairwise.sublist hsub ?_,List.Nodup.sublist (hsub.map _) ?_,h4,h5,yG h4 _⟩
 ·rcases C2.1 (hsub.subset hy) with hy|hy
  ·exact h1 y hy
  ·rw[X0.1 hy];exact hx
 ·exact List.pairwise_append.2 ⟨h2,List.pairwise_singleton ..,fun a ha b hb=>by rw[X0.1 hb];exact hs a ha⟩
 ·rw[List.map_append]
  refine List.nodup_append.2 ⟨h3,by simp,fun a ha b hb=>?_⟩;obtain⟨y,hy,rfl⟩:=P3.1 ha;simp only[List.map_cons,List.map_nil,X0]at hb;rw[hb];exact hn y hy
def ly (r:List Int) (o:Nat):Nat->List Int
 | 0=>r
 | n+1=>(ly r o n).set (o+n) 0
def fE (k:af) (a:Int):Nat:=(ar k.Machine.Table (a / 16)).Frame.toNat
def fS (k:af) (a:Int) (n:Nat):af:={k with Machine:=⟨⟨k.Machine.Frames.Cells.set (fE k a) (ly (nth k.Machine.Frames.Cells (fE k a)) (a % 16).toNat n),k.Machine.Frames.Used⟩,k.Machine.Table⟩}
theorem od (r:List Int) (o:Nat):∀ n,(ly r o n).length=r.length
 | 0=>rfl
 | n+1=>by unfold ly;rw[Z0,od r o n]
theorem y1 {r:List Int} {o:Nat} : ∀ {n:Nat} {v:Int},v∈ly r o n->v∈r\/v=0
 | 0,v,h=>.inl h
 | n+1,v,h=>by
  rcases List.mem_or_eq_of_mem_set h with h|h
  ·exact y1 h
  ·exact .inr h
theorem BJ {k:af} (h:a8 k=true) (a:Int) (n:Nat):a8 (fS k a n)=true:=by
 obtain⟨h1,h2,h3,h4,h5⟩:=aB.1 h;obtain⟨g1,g2,g3,g4⟩:=aU.1 h2;refine aB.2 ⟨h1,aU.2 ⟨?_,?_,?_,fun j hj=>?_⟩,h3,h4,h5⟩
 ·simp only[fS,Z0];exact g1
 ·simp only[fS,Z0];exact g2
 ·simp only[fS,Z0];exact g3
 ·simp only[fS,Z0]at hj |-
  simp only[cx];split
  ·rename_i e
   have h6:=g4 j hj;unfold gM at h6 |-;simp only[I0,C0,z3]at h6 |-;rw[e.1]at *;refine⟨by rw[od];exact h6.1,fun v hv=>?_⟩;rcases y1 hv with hv|rfl
   ·exact h6.2 v hv
   ·unfold ir;simp
  ·exact g4 j hj
def xv (h:ab) (a:Int):Nat:=(h.Larges.findIdx? fun l=>decide (l.Page*16=a)).getD 0
def freeL (h:ab) (i k:Nat):ab:={h with Kernel:=dL h.Kernel (nth h.Larges k).Page (nth h.Larges k).Pages.toNat,Larges:=dele h.Larges k,Free:=(dn (dG h) h.Free ⟨(nth h.Larges k).Page,(nth h.Larges k).Pages⟩).getD h.Free,Objs:=dele h.Objs i}
def kF (h:ab) (o:bO):aM:=⟨o.Addr,aN o.Size,h.Clock⟩
def inQuar (h:ab) (i:Nat):ab:={h with Kernel:=fS h.Kernel (nth h.Objs i).Addr (csz (aN (nth h.Objs i).Size)).toNat,Objs:=dele h.Objs i,Quar:=GN h.Quar (kF h (nth h.Objs i))}
def KB (h:ab) (t i:Nat):ab:=recycs t (inQuar h i) ((zj h.Quar (kF h (nth h.Objs i))).map (·.Addr))
def freeOb (h:ab) (t i:Nat):ab × Int:=
 if aN (nth h.Objs i).Size<0 then(freeL h i (xv h (nth h.Objs i).Addr),0)
 else if(ar (tbl h) ((nth h.Objs i).Addr / 16)).Mode=1 then(h,5)
 else(KB h t i,0)
theorem Aa {h:ab} {l:aA} (hl:l∈h.Larges) {a:Int} (e:a=16*l.Page):xv h a<h.Larges.length/\a=16*(nth h.Larges (xv h a)).Page/\(∀ j,j<xv h a->(nth h.Larges j).Page*16≠a)/\h.Larges.findIdx? (fun l=>decide (l.Page*16=a))=some (xv h a):=by
 cases h1:h.Larges.findIdx? fun l=>decide (l.Page*16=a) with
 | none=>
  have:=List.findIdx?_eq_none_iff.1 h1 l hl;rw[U3]at this;omega
 | some k=>
  obtain⟨hk,hp,hb⟩:=List.findIdx?_eq_some_iff_getElem.1 h1;have hx:xv h a=k:=by unfold xv;rw[h1];rfl
  rw[hx];rw[<-bq (Q1 hk),C0]at hp;refine⟨hk,by omega,fun j hj=>?_,rfl⟩;have:=hb j hj;rw[<-bq (Q1 (show j<h.Larges.length by omega))]at this;simpa using this
theorem eR {h:ab} {E:List Int} (hi:bm h E) {o:bO} (ho:o∈h.Objs):(aN o.Size<0->NU h.Larges o.Addr o.Size)/\(¬aN o.Size<0->(∃ s∈h.Spans,eP s o.Addr/\s.Class=aN o.Size)/\aN o.Size<=3):=by
 rcases hi.oow o ho with⟨s,hs,h1,h2⟩|⟨l,hl,h1,h2⟩
 ·have hc:=aG (hi.L.sok s hs)
  exact⟨fun e=>by omega,fun _=>⟨⟨s,hs,h1,h2⟩,by omega⟩⟩
 ·have hf:=cw (hi.L.lok l hl)
  refine⟨fun _=>⟨l,hl,h1,h2⟩,fun e=>absurd ?_ e⟩;unfold aN;rw[if_neg (by omega),if_neg (by omega),if_neg (by omega),if_neg (by omega),if_neg (by omega)]
  decide
theorem bm.inQuar {h:ab} {i:Nat} (hi:bm h []) (li:i<h.Objs.length) (hc:¬aN (nth h.Objs i).Size<0):bm (inQuar h i) ((zj h.Quar (kF h (nth h.Objs i))).map (·.Addr)):=by
 obtain⟨⟨s,hs,h1,h2⟩,h3⟩:=(eR hi (am li)).2 hc;have hSl:iU h.Spans (nth h.Objs i).Addr (aN (nth h.Objs i).Size):=⟨s,hs,h1,.inr h2⟩
 have hn:=hi.nums;unfold bU at hn;rw[C0]at hn;have hsc:=aG (hi.L.sok s hs);have g1:=hi.dropO li hSl.any;have g2:=g1.cells (k:=fS h.Kernel (nth h.Objs i).Addr (csz (aN (nth h.Objs i).Size)).toNat) (BJ hi.ker _ _) rfl;have hnq:∀ y∈h.Quar.Lst,y.Addr≠(nth h.Objs i).Addr:=fun y hy e=>by
  have hnd:=g1.nd;rw[List.cons_append,List.nil_append]at hnd;refine(List.nodup_cons.1 hnd).1 ?_;rw[<-e];unfold holders;simp only[C2];exact .inl (.inr (P3.2 ⟨y,hy,rfl⟩))
 have g3:=bm.toQuar (x:=kF h (nth h.Objs i)) (q:=GN h.Quar (kF h (nth h.Objs i))) (out:=zj h.Quar (kF h (nth h.Objs i))) g2 (LX hi.quar ⟨by show 0<=aN _;omega,h3,by show 0<=(nth h.Objs i).Addr;have:=h1.1;omega,hn.2.2.1⟩ (fun y hy=>hi.snc y hy) hnq) (by unfold zj GN;simp only[List.take_append_drop]) (Y3 _) hSl;rw[List.append_nil]at g3;exact g3
theorem bm.freeOb {h:ab} {t i:Nat} (hi:bm h []) (li:i<h.Objs.length) (ht:t<h.Caches.length):bm (freeOb h t i).1 []:=by
 unfold Ab.freeOb;split
 ·rename_i hc
  obtain⟨l,hl,h1,-⟩:=(eR hi (am li)).1 hc;obtain⟨k1,k2,-⟩:=Aa hl h1;obtain⟨o,o1,o2⟩:=hi.dropL li k1 k2;unfold Ab.freeL;rw[o1];exact o2
 ·rename_i hc
  split
  ·exact hi
  ·have h1:=hi.inQuar li hc
   refine bm.recycs (E:=[]) ?_ ht;rw[List.append_nil];exact h1
theorem Fr:∀ {H L:List Int},H.Nodup->(∀ x∈H,x∈L)->H.length<=L.length
 | [],L,_,_=>Q0 _
 | y::H,L,hn,hs=>by
  have hy:y∈L:=hs y (I1 ..);have hn2:=List.nodup_cons.1 hn;have:=Fr (L:=L.erase y) hn2.2 fun z hz=>(List.mem_erase_of_ne (fun e:z=y=>hn2.1 (by rw[<-e];exact hz))).2 (hs z (List.mem_cons_of_mem _ hz))
  rw[List.length_erase_of_mem hy]at this;have h1:=List.length_pos_of_mem hy;simp only[List.length_cons];omega
theorem vZ {H:List Int} {n:Nat} (hn:H.Nodup) (hb:∀ x∈H,0<=x/\x<n):H.length<=n:=by
 have:=Fr (L:=(List.range n).map fun(i:Nat)=>(i:Int)) hn fun x hx=>P3.2 ⟨x.toNat,List.mem_range.2 (by have:=hb x hx;omega),by have:=hb x hx;omega⟩
 simpa using this
theorem gJ {α:Type} {f:α->Int} {xs:List α} (h:xs.Pairwise fun a b=>f a<f b):(xs.map f).Nodup:=by
 unfold List.Nodup;rw[List.pairwise_map];exact h.imp fun h e=>by omega
theorem Kt:∀ (ls:List (List Int)) (k:Nat) (s:List Int),(fC k s ls).isSome=true->∀ l∈ls,l.length<=8
 | [],_,_,_,l,hl=>by cases hl
 | x::ls,k,s,h,l,hl=>by
  simp only[fC]at h;cases e:dO k s x with
  | none=>rw[e]at h;cases h
  | some s'=>
   rw[e]at h;rcases List.mem_cons.1 hl with rfl|hl
   ·unfold dO at e
    split at e
    ·rename_i c;exact c.1
    ·cases e
   ·exact Kt ls (k+1) s' h l hl
theorem dY {c:aC} (h:bn c=true):c.Lists.length=4/\∀ l∈c.Lists,l.length<=8:=by
 have h':=h;unfold bn at h;simp only[I0,C0]at h;exact⟨h.1,Kt _ _ _ h.2⟩
structure LF (h:ab):Prop where
 cells:h.Kernel.Machine.Frames.Cells.length<=32
 row:∀ r∈h.Kernel.Machine.Frames.Cells,r.length=16
 used:h.Kernel.Machine.Frames.Used.length<=32
 ents:h.Kernel.Machine.Table.Entries.length<=32
 ref:h.Kernel.Refuse.length<=40
 free:h.Free.length<=32
 spans:h.Spans.length<=32
 larges:h.Larges.length<=32
 objs:h.Objs.length<=512
 caches:h.Caches.length<=4
 lists:∀ c∈h.Caches,c.Lists.length=4/\∀ l∈c.Lists,l.length<=8
 quar:h.Quar.Lst.length<=512
theorem iU.bd {h:ab} {E:List Int} (hi:bm h E) {a c:Int} (hs:iU h.Spans a c):0<=a/\a<512:=by
 obtain⟨s,hm,⟨h1,h2,-⟩,-⟩:=hs;have hc:=aG (hi.L.sok s hm);omega
theorem bm.lens {h:ab} {E:List Int} (hi:bm h E):LF h:=by
 obtain⟨h1,h2,h3,h4,h5,h6,h7⟩:=aB.1 hi.ker;obtain⟨g1,g2,g3,g4⟩:=aU.1 h2;obtain⟨t1,t2,t3⟩:=bt.1 h3;obtain⟨r1,r2,r3⟩:=eU.1 hi.rng;obtain⟨q1,q2,q3,q4⟩:=iM.1 hi.quar;have hm:=hi.mail;unfold bC at hm;simp only[I0,C0]at hm;have hnc:=hi.nc;refine⟨g2,fun r hr=>?_,by omega,t3,h7,?_,?_,?_,?_,by omega,fun c hc=>dY (hi.cach c hc),?_⟩
 ·obtain⟨j,hj,rfl⟩:=bc hr
  have:=g4 j hj;unfold gM at this;simp only[I0,C0]at this;exact this.1
 ·have:=vZ (H:=h.Free.map (·.At)) (n:=32) (gJ (r1.1.imp_of_mem fun {a b} ha hb h=>by have:=r1.2 a ha;omega)) fun x hx=>by
   obtain⟨r,hr,rfl⟩:=P3.1 hx;have:=r2 r hr;omega
  simpa using this
 ·have:=vZ (H:=h.Spans.map (·.Page)) (n:=32) hi.L.nd fun x hx=>by
   obtain⟨s,hs,rfl⟩:=P3.1 hx;have:=aG (hi.L.sok s hs);omega
  simpa using this
 ·have:=vZ (H:=h.Larges.map (·.Page)) (n:=32) (gJ hi.srl) fun x hx=>by
   obtain⟨l,hl,rfl⟩:=P3.1 hx;have:=aV (hi.L.lok l hl);omega
  simpa using this
 ·have:=vZ (H:=h.Objs.map (·.Addr)) (n:=512) (gJ hi.osr) fun x hx=>by
   obtain⟨o,ho,rfl⟩:=P3.1 hx;rcases hi.oow o ho with⟨s,hs,⟨k1,k2,-⟩,-⟩|⟨l,hl,e,-⟩
   ·have:=aG (hi.L.sok s hs);omega
   ·have:=aV (hi.L.lok l hl);omega
  simpa using this
 ·have:=vZ (H:=h.Quar.Lst.map (·.Addr)) (n:=512) q3 fun x hx=>by
   obtain⟨y,hy,rfl⟩:=P3.1 hx;exact(hi.hqu y hy).bd hi
  simpa using this
theorem LF.sml {h:ab} (hl:LF h) (hk:a8 h.Kernel=true) (hm:aH.sml h.Mail) (hj:co.sml h.Job):ab.sml h:=
 ⟨bp hk,⟨by have:=hl.free;omega,fun _ _=>trivial⟩,⟨by have:=hl.spans;omega,fun _ _=>trivial⟩,⟨by have:=hl.larges;omega,fun _ _=>trivial⟩,⟨by have:=hl.objs;omega,fun _ _=>trivial⟩,⟨by have:=hl.caches;omega,fun c hc=>⟨by have:=(hl.lists c hc).1;omega,fun l h1=>by have:=(hl.lists c hc).2 l h1;show l.length<=1048576;omega⟩⟩,hm,⟨by have:=hl.quar;omega,fun _ _=>trivial⟩,hj⟩
def kH (a:Int) (o:bO):Bool:=decide (o.Addr=a)
def nr (h:ab) (a:Int):Nat:=(dw (kH a) h.Objs).toNat
theorem bm.objAt {h:ab} {E:List Int} (hi:bm h E) {o:bO} (ho:o∈h.Objs):nr h o.Addr<h.Objs.length/\nth h.Objs (nr h o.Addr)=o/\dw (kH o.Addr) h.Objs=(nr h o.Addr:Nat):=by
 obtain⟨i,li,rfl⟩:=bc ho;have hx:dw (kH (nth h.Objs i).Addr) h.Objs=(i:Nat):=dR (ah li) (by unfold kH;simp) fun j z hj hz=>by
  have hzj:=bq hz;have hjl:=(R1.1 hz).1;subst hzj;unfold kH;refine P0 fun e=>?_
  have:=gy (f:=(·.Addr)) (gJ hi.osr) hjl li e;omega
 have hy:nr h (nth h.Objs i).Addr=i:=by unfold nr;rw[hx];rfl
 rw[hy];exact⟨li,rfl,hx⟩
theorem j7 (k:af) (p:Int) (n:Nat):(dL k p n).Calls=k.Calls/\(dL k p n).Refuse=k.Refuse:=(gY k p n).2
open Go.RowKit
set_option maxRecDepth 20000
set_option maxHeartbeats 4000000
theorem HU (y:a7) (ys:List a7):cT [] (y::ys)=cT [y] ys:=by rw[cT];rfl
theorem BW {α:Type} [Inhabited α] {xs:List α} (h:xs≠[]):xs.getLast? = some (nth xs (xs.length - 1)):=by
 have hl:0<xs.length:=List.length_pos_iff.2 h;rw[List.getLast?_eq_getElem?,ah (by omega)]
theorem Kz {α:Type} {xs:List α} (h:xs≠[]) (v:α):xs.dropLast++[v]=xs.set (xs.length - 1) v:=by
 have hl:0<xs.length:=List.length_pos_iff.2 h;refine List.ext_getElem (by simp;omega) fun i h1 h2=>?_
 rw[List.getElem_set];by_cases e:xs.length - 1=i
 ·subst e
  rw[if_pos rfl,List.getElem_append_right (by simp)];simp
 ·rw[if_neg e,List.getElem_append_left (by simp at h1 |-;omega),List.getElem_dropLast]
theorem HS {out:List a7} {y:a7} {ys:List a7} (h:out≠[]) (e:(nth out (out.length - 1)).At+(nth out (out.length - 1)).Len=y.At):cT out (y::ys)=cT (out.set (out.length - 1) ⟨(nth out (out.length - 1)).At,(nth out (out.length - 1)).Len+y.Len⟩) ys:=by
 rw[cT,BW h];simp only;rw[if_pos e,Kz h]
theorem KP {out:List a7} {y:a7} {ys:List a7} (h:out≠[]) (e:¬(nth out (out.length - 1)).At+(nth out (out.length - 1)).Len=y.At):cT out (y::ys)=cT (out++[y]) ys:=by
 rw[cT,BW h];simp only;rw[if_neg e]
theorem qh (xs:List a7) (hl:xs.length<=4194304) (hb:∀ y∈xs,0<=y.At/\1<=y.Len/\y.At+y.Len<=1048576):ao Tryz.prog 404 false [.val none (bD .imm xs)] .one (bD .own (cT [] xs)):=by
 refine fO 63 [(6,21,[15,16,17,18,19,20,21,22,23,24,25,26,27,28,29,30,31,32,33,34,35]),(7,15,[38,39,40,41,42,43,44,45,46,47,48,49,50,51,52])] Tryz.func404 rfl ?_ (.inr (jW _))
 repeat'(first|refine gO ?_|fail)
 (conv=>whnf)
 refine Lp.mk (ι:=Nat × List a7) (fun q=>[(0,.hold .one (bD .imm xs)),(3,.hold .one (bD .own q.2)),(4,.hold .one [I ((q.1:Nat):Int)])]) (fun q=>q.1<=xs.length/\cT q.2 (xs.drop q.1)=cT [] xs/\q.2.length<=q.1/\∀ y∈q.2,0<=y.At/\1<=y.Len/\y.At+y.Len<=1048576) (fun q=>xs.length - q.1) ((0,[])) ?_ (⟨Q0 _,rfl,I2 _,fun y hy=>by cases hy⟩) fun q hq=>?_
 ·exact wB
 obtain⟨i,out⟩:=q;obtain⟨hi,hj,hol,hob⟩:=hq;simp only at hi hj hol hob |-;by_cases li:i<xs.length
 ·have hx:=ah li
  have hy:=hb _ (am li);rw[iG li]at hj;by_cases ho:out=[]
  ·subst ho
   rw[HU]at hj;have h0:([]:List a7).length=0:=rfl
   repeat'(first|refine gD ?_|(conv=>whnf);first|with_reducible refine Ix.nat (aa hx) ?_|refine Ln.mk (show List.length _=0 from rfl) ?_|refine Ap.sm (fun r hr=>by cases hr) rfl (by simp) (by decide) rfl ?_)
   ((conv=>whnf)
    refine Nx.mk (i+1,[nth xs i]) ⟨(by simp only;omega),hj,(by simp),(fun y hm=>by rw[X0.1 hm];exact hy)⟩ (by simp only;omega) ?_
    (repeat'(first|exact trivial|rfl|exact And.intro rfl (And.intro (R0 (C.s d3.own) (by simp[a7.enc])) trivial)|refine And.intro ?_ ?_)))
  ·have hpos:0<out.length:=List.length_pos_iff.2 ho
   have hz:out[((out.length:Int) - 1).toNat]? = some (nth out (out.length - 1)):=by
    rw[show((out.length:Int) - 1).toNat=out.length - 1 by omega];exact ah (by omega)
   have hzb:=hob _ (am (xs:=out) (i:=out.length - 1) (by omega));by_cases e:(nth out (out.length - 1)).At+(nth out (out.length - 1)).Len=(nth xs i).At
   ·rw[HS ho e]at hj
    repeat'(first|refine gA ?_|(conv=>whnf);first|with_reducible refine Ix.nat (aa hx) ?_|refine Ix.mk (by omega) (aa hz) ?_|refine Rw.one rfl (aa hz) rfl ?_|refine Pu.one rfl rfl (aa hz) rfl (W0 rfl) rfl ?_)
    ((conv=>whnf)
     refine Nx.mk (i+1,out.set (out.length - 1) ⟨(nth out (out.length - 1)).At,(nth out (out.length - 1)).Len+(nth xs i).Len⟩) ⟨(by simp only;omega),hj,(by simp only;rw[Z0];omega),(fun y hm=>?_)⟩ (by simp only;omega) ?_)
    ·rcases List.mem_or_eq_of_mem_set hm with hm|rfl
     ·exact hob y hm
     ·simp only;omega
    ·(repeat'(first|exact trivial|rfl|exact And.intro rfl (And.intro (R0 (C.s d3.own) (by rw[show((out.length:Int) - 1).toNat=out.length - 1 by omega,List.map_set];rfl)) trivial)|refine And.intro ?_ ?_))
   ·rw[KP ho e]at hj
    repeat'(first|refine gA ?_|(conv=>whnf);first|with_reducible refine Ix.nat (aa hx) ?_|refine Ix.mk (by omega) (aa hz) ?_|refine Rw.one rfl (aa hz) rfl ?_|refine Ap.sm (aO fun _=>rfl) rfl (by simp;omega) (by decide) rfl ?_)
    ((conv=>whnf)
     refine Nx.mk (i+1,out++[nth xs i]) ⟨(by simp only;omega),hj,(by simp;omega),(fun y hm=>?_)⟩ (by simp only;omega) ?_)
    ·rcases C2.1 hm with hm|hm
     ·exact hob y hm
     ·rw[X0.1 hm];exact hy
    ·(repeat'(first|exact trivial|rfl|exact And.intro rfl (And.intro (R0 (C.s d3.own) (by simp[a7.enc])) trivial)|refine And.intro ?_ ?_))
 ·obtain rfl:i=xs.length:=by omega
  rw[List.drop_length]at hj
  repeat'(first|refine gD ?_|fail)
  rw[<-hj];rfl
theorem y8 (r y:a7) (ys:List a7) (put:Bool):lb r (y::ys) put=if ovl y r then none else if !put&&decide (y.At > r.At) then(lb r ys true).map fun t=>r::y::t else(lb r ys put).map fun t=>y::t:=by rw[lb]
theorem kD (pages:Int) (xs:List a7) (r:a7) (hp:0<=pages/\pages<=1048576) (hs:fT xs):ao Tryz.prog 387 false [.val none [I pages],.val none (bD .imm xs),.val (some 2) (a7.enc .imm r)] (.tup [none,none]) (Ee xs (dn pages xs r)):=by
 have hl:=hs.1;have c1:=kA pages xs hp hs;have c2:=vB pages r hp;cases e1:bx pages xs<;>rw[e1]at c1
 ·rw[show dn pages xs r=none by unfold dn;rw[if_neg (by rw[e1];simp)]]
  refine fO 82 [] Tryz.func387 rfl ?_ (.inr (rZ _ _))
  repeat'(first|refine gO ?_|(conv=>whnf);first|refine Cl.mk (c1) ?_|refine Ap.cp (fun _=>rfl) (fun _=>rfl) hl (by decide) ?_)
  rfl
 cases e2:rangeIn pages r<;>rw[e2]at c2
 ·rw[show dn pages xs r=none by unfold dn;rw[if_neg (by rw[e2];simp)]]
  refine fO 82 [] Tryz.func387 rfl ?_ (.inr (rZ _ _))
  repeat'(first|refine gO ?_|(conv=>whnf);first|refine Cl.mk (c1) ?_|refine Cl.mk (c2) ?_|refine Ap.cp (fun _=>rfl) (fun _=>rfl) hl (by decide) ?_)
  rfl
 obtain⟨hg,hb⟩:=Au e1;have hr:0<=r.At/\1<=r.Len/\r.At+r.Len<=pages:=by
  unfold rangeIn at e2;rw[C0]at e2;omega
 rw[show dn pages xs r=(lb r xs false).map (cT []) by unfold dn;rw[if_pos ⟨e1,e2⟩,yF (pages:=pages) hg hr.2.1 fun z hz=>by simp at hz]];refine fO 82 [] Tryz.func387 rfl ?_ (.inr (rZ _ _))
 repeat'(first|refine gO ?_|(conv=>whnf);first|refine Cl.mk (c1) ?_|refine Cl.mk (c2) ?_|refine Ap.cp (fun _=>rfl) (fun _=>rfl) hl (by decide) ?_)
 (conv=>whnf)
 refine Lp.mk (ι:=Nat × List a7 × Bool) (fun q=>[(1,.hold .one (bD .imm xs)),(5,.hold .box (a7.enc .imm r)),(8,.hold .one (bD .own xs)),(9,.hold .one (bD .own q.2.1)),(10,.hold .one [B (q.2.2)]),(11,.hold .one [I ((q.1:Nat):Int)])]) (fun q=>q.1<=xs.length/\(lb r (xs.drop q.1) q.2.2).map (q.2.1++·)=lb r xs false/\q.2.1.length<=q.1+q.2.2.toNat/\(∀ y∈q.2.1,0<=y.At/\1<=y.Len/\y.At+y.Len<=1048576)) (fun q=>xs.length - q.1) ((0,[],false)) ?_ (⟨Q0 _,by simp,by simp,by simp⟩) fun q hq=>?_
 ·exact wB
 obtain⟨i,out,put⟩:=q;obtain⟨hi,hput,hol,hob⟩:=hq;simp only at hi hput hol hob |-;have hrb:0<=r.At/\1<=r.Len/\r.At+r.Len<=1048576:=by omega
 by_cases li:i<xs.length
 ·have hx:=ah li
  have hy:=hb _ (am li);have hyb:0<=(nth xs i).At/\1<=(nth xs i).Len/\(nth xs i).At+(nth xs i).Len<=1048576:=by omega
  rw[iG li]at hput;by_cases ho:ovl (nth xs i) r=true
  ·rw[<-hput]
   rw[y8,if_pos ho];unfold ovl at ho;rw[C0]at ho
   repeat'(first|refine gD ?_|(conv=>whnf);first|with_reducible (first|refine Ix.nat (aa hx) ?_|refine Bf.D (fun hq=>?_) (fun hq=>?_)))
   rfl
  ·rw[y8,if_neg ho]at hput
   unfold ovl at ho;rw[C0]at ho;cases put with
   | false=>
    have hol:out.length<=i:=by simpa using hol
    by_cases e5:(nth xs i).At > r.At
    ·rw[if_pos (by simp;omega),Option.map_map]at hput
     repeat'(first|refine gD ?_|(conv=>whnf);first|with_reducible (first|refine Ix.nat (aa hx) ?_|refine Bf.D (fun hq=>?_) (fun hq=>?_))|refine Ap.sm (aO fun _=>rfl) rfl (by simp;omega) (by decide) rfl ?_|refine Ap.sm (fun r hr=>by simp at hr;rcases hr with⟨a,_,rfl⟩|rfl<;>rfl) rfl (by simp;omega) (by decide) rfl ?_)
     ((conv=>whnf)
      refine Nx.mk (i+1,out++[r,nth xs i],true) ⟨(by simp only;omega),(by rw[<-hput];congr 1;funext t;simp),(by simp;omega),(fun y hm=>?_)⟩ (by simp only;omega) ?_)
     ·rcases C2.1 hm with hm|hm
      ·exact hob y hm
      ·rcases List.mem_cons.1 hm with rfl|hm
       ·exact hrb
       ·rw[X0.1 hm];exact hyb
     ·(repeat'(first|exact trivial|rfl|exact And.intro rfl (And.intro (R0 (C.s d3.own) (by simp[a7.enc])) trivial)|refine And.intro ?_ ?_))
    ·rw[if_neg (by simp;omega),Option.map_map]at hput
     repeat'(first|refine gD ?_|(conv=>whnf);first|with_reducible (first|refine Ix.nat (aa hx) ?_|refine Bf.D (fun hq=>?_) (fun hq=>?_))|refine Ap.sm (aO fun _=>rfl) rfl (by simp;omega) (by decide) rfl ?_)
     ((conv=>whnf)
      refine Nx.mk (i+1,out++[nth xs i],false) ⟨(by simp only;omega),(by rw[<-hput];congr 1;funext t;simp),(by simp;omega),(fun y hm=>?_)⟩ (by simp only;omega) ?_)
     ·rcases C2.1 hm with hm|hm
      ·exact hob y hm
      ·rw[X0.1 hm];exact hyb
     ·(repeat'(first|exact trivial|rfl|exact And.intro rfl (And.intro (R0 (C.s d3.own) (by simp[a7.enc])) trivial)|refine And.intro ?_ ?_))
   | true=>
    have hol:out.length<=i+1:=hol;rw[if_neg (by simp),Option.map_map]at hput;by_cases e6:(nth xs i).At<r.At+r.Len
    all_goals
     repeat'(first|refine gD ?_|(conv=>whnf);first|with_reducible (first|refine Ix.nat (aa hx) ?_|refine Bf.D (fun hq=>?_) (fun hq=>?_))|refine Ap.sm (aO fun _=>rfl) rfl (by simp;omega) (by decide) rfl ?_)
     ((conv=>whnf)
      refine Nx.mk (i+1,out++[nth xs i],true) ⟨(by simp only;omega),(by rw[<-hput];congr 1;funext t;simp),(by simp;omega),(fun y hm=>?_)⟩ (by simp only;omega) ?_)
     ·rcases C2.1 hm with hm|hm
      ·exact hob y hm
      ·rw[X0.1 hm];exact hyb
     ·(repeat'(first|exact trivial|rfl|exact And.intro rfl (And.intro (R0 (C.s d3.own) (by simp[a7.enc])) trivial)|refine And.intro ?_ ?_))
 ·obtain rfl:i=xs.length:=by omega
  rw[List.drop_length]at hput;cases put with
  | false=>
   have hol:out.length<=xs.length:=by simpa using hol
   rw[<-hput];have c4:=qh (out++[r]) (by simp;omega) (fun y hm=>by
     rcases C2.1 hm with hm|hm
     · exact hob y hm
     · rw[X0.1 hm];exact hrb)
   repeat'(first|refine gD ?_|(conv=>whnf);first|refine Ap.sm (aO fun _=>rfl) rfl (by simp;omega) (by decide) (show(out++[r]).map (a7.enc .own)=_ by simp[a7.enc]) ?_|refine Cl.eq (c4) ⟨⟨rfl,dE _⟩,trivial⟩ ?_)
   rfl
  | true=>
   have hol:out.length<=xs.length+1:=hol;rw[<-hput];have c4:=qh out (by omega) hob
   repeat'(first|refine gD ?_|(conv=>whnf);first|refine Cl.eq (c4) ⟨⟨rfl,dE _⟩,trivial⟩ ?_)
   simp[lb,Ee]
   rfl
theorem shl64 {i:Int} (hi:0<=i/\i<=15):IntKind.i64.wrap (1*2 ^ min i.toNat IntKind.i64.bits)=2 ^ i.toNat/\0<=(2:Int) ^ i.toNat/\(2:Int) ^ i.toNat<=32768:=by
 have h1:min i.toNat IntKind.i64.bits=i.toNat:=Nat.min_eq_left (show i.toNat<=64 by omega);have h2:(0:Int)<=2 ^ i.toNat/\(2:Int) ^ i.toNat<=32768:=by
  have:(2:Nat) ^ i.toNat<=2 ^ 15:=Nat.pow_le_pow_right (by decide) (by omega);have h3:((2 ^ i.toNat:Nat):Int)=(2:Int) ^ i.toNat:=Int.natCast_pow 2 i.toNat;rw[<-h3];exact⟨Int.natCast_nonneg _,Int.ofNat_le.2 this⟩
 rw[h1,Int.one_mul];exact⟨dS (by omega) (by omega),h2⟩
theorem clr64 {b i:Int} (hb:0<=b/\b<=65535):IntKind.i64.wrap ((BitVec.ofInt IntKind.i64.bits b &&& ~~~BitVec.ofInt IntKind.i64.bits (2 ^ i.toNat)).toNat:Nat)=x8 b i:=by
 have:=Al (i:=i) hb;unfold x8 at this |-;exact dS (by omega) (by omega)
theorem rV (b i:Int) (hb:0<=b/\b<=65535) (hi:0<=i/\i<=15):ao Tryz.prog 405 false [.val none [I b],.val none [I i]] .one [I (x8 b i)]:=by
 have c1:=om b i;rw[O0 (by omega)]at c1;have hw:IntKind.u64.wrap i=i:=by unfold IntKind.wrap;simp[IntKind.signed,IntKind.bits];omega
 refine fO 15 [] Tryz.func405 rfl ?_
 repeat'(first|refine gO ?_|(conv=>whnf);first|refine Sm.rf ?_|refine Cl.mk (c1) ?_|refine Cd.mk (by omega) ?_|refine Wr.mk hw ?_|refine Wr.mk (shl64 hi).1 ?_|refine Wr.mk (clr64 hb) ?_)
 rfl
theorem Lh {s:au} {k:Int} (hh:aY s.Bits k=true):0<=k/\k<=15:=by
 have:=(fU _ _).1 hh;omega
theorem wU (s:au) (k:Int) (ho:bf s=true) (hh:aY s.Bits k=true):ao Tryz.prog 391 false [.val (some 3) (au.enc .imm s),.val none [I k]] (.tup [some 3,none]) (au.enc .own (lK s k)++[B true]):=by
 have hb:=eg ho;have hk:=Lh hh;have c1:=fD s;have c2:=hB s.Bits k (by omega);rw[ho]at c1;rw[hh]at c2;refine fO 23 [] Tryz.func391 rfl ?_ (.inr (aK (au.enc_fr _) ⟨trivial,trivial⟩))
 repeat'(first|refine gO ?_|(conv=>whnf);first|refine Sm.rf ?_|refine Cl.mk (c1) ?_|refine Cl.mk (c2) ?_|refine Cl.mk (rV s.Bits k hb hk) ?_)
 rfl
theorem vI (c:aC) (k:Int) (hs:aC.sml c):ao Tryz.prog 340 false [.val (some 1) (aC.enc .imm c),.val none [I k]] .one [B (bn c&&decide (0<=k/\k<=3))]:=by
 have c1:=mq c hs;cases e:bn c<;>rw[e]at c1
 all_goals
  refine fO 11 [] Tryz.func340 rfl ?_
  repeat'(first|refine gO ?_|(conv=>whnf);first|refine Sm.rf ?_|refine Cl.mk (c1) ?_|refine Cl.mk (aD k 0 3) ?_)
  all_goals rfl
theorem sj {c:aC} {k:Nat} (hk:k<c.Lists.length):c.Lists[k]? = some (nth c.Lists k):=ah hk
theorem HA {c:aC} (h:bn c=true) (k:Nat) (a:Int):aC.sml (mt c k a):=by
 obtain⟨h1,h2⟩:=dY h;refine⟨by simp only[mt,Z0];omega,fun l hl=>?_⟩;rcases List.mem_or_eq_of_mem_set hl with hl|rfl
 ·have:=h2 l hl;show l.length<=1048576;omega
 ·show(nth c.Lists k++[a]).length<=1048576
  by_cases hk:k<c.Lists.length
  ·have:=h2 _ (am hk);simp;omega
  ·have:nth c.Lists k=[]:=by unfold nth;rw[V1,U1 (by omega)];rfl
   rw[this];simp
theorem JU (c:aC) (k:Nat) (a:Int):aC.enc .own (mt c k a)=[.s .own ((c.Lists.map (aF .own)).set k (aF .own (nth c.Lists k++[a])))]:=by simp[aC.enc,mt,List.map_set]
theorem fF {α:Type} {f:α->List C} {xs:List α} {k:Nat} {y:α} {r:List C} (h:xs[k]? = some y):((xs.map f).set k r)[k]? = some r:=by
 rw[U2 (by rw[U0];exact(R1.1 h).1)]
theorem hJ {α β:Type} (f:α->β) (xs:List α) (y:α):(xs++[y]).map f=xs.map f++[f y]:=by simp
def Ff (c:aC) (k a:Int):List C:=aC.enc .own ((cput c k a).getD c)++[B (cput c k a).isSome]
theorem JN (c:aC) (k a:Int):gG (Ff c k a):=aK (aC.enc_fr _) ⟨trivial,trivial⟩
theorem xi (c:aC) (k:Nat) (a:Int) (ho:bn c=true) (hk:k<=3):ao Tryz.prog 403 false [.val (some 1) (aC.enc .imm c),.val none [I (k:Nat)],.val none [I a]] (.tup [some 1,none]) (Ff c k a):=by
 obtain⟨h1,h2⟩:=dY ho;have hs:aC.sml c:=⟨by omega,fun l hl=>by have:=h2 l hl;show l.length<=1048576;omega⟩
 have c1:=vI c k hs;rw[ho,O0 (by omega)]at c1;have c2:=ib c hs;have hps:=HA ho k a;have c3:=mq (mt c k a) hps;have c4:=ib (mt c k a) hps;have hx:=sj (c:=c) (k:=k) (by omega);have hxl:=h2 _ (am (xs:=c.Lists) (i:=k) (by omega));have hz:=aC.enc_fz (mt c k a);rw[JU]at hz;have hf:=JN c k a;unfold Ff at hf |-;cases e:bn (mt c k a)<;>rw[e]at c3
 ·have hc:cput c k a=none:=by unfold cput;rw[if_neg fun x=>by have:=x.2.2.2;rw[W1,e]at this;cases this]
  rw[hc]at hf |-;refine fO 35 [(4,267,[16,17,18,19,20,21,22,23,24,25,27,0,1,2,3,4,5,6,7,8,9,10,1000,1001,1002,11,12])] Tryz.func403 rfl ?_ (.inr hf)
  repeat'(first|refine gO ?_|(conv=>whnf);first|with_reducible refine Ix.nat (aa hx) ?_|refine Sm.rf ?_|refine Ix.nat (fF hx) ?_|refine Rw.one rfl (fF hx) rfl ?_|refine Cl.mk (c1) ?_|refine Cl.mk (c2) ?_|refine Lq.one rfl rfl (aa hx) rfl (W0 rfl) rfl rfl ?_|refine Rw.one rfl (aa hx) rfl ?_|refine Pu.one rfl rfl (fF hx) rfl (W0 rfl) (show [C.s d3.own ((c.Lists.map (aF .own)).set k (aF .own (nth c.Lists k++[a])))]=_ from by simp only[List.set_cons_zero,List.set_set,W1];rfl) ?_|refine Ap.sm (aO fun _=>rfl) rfl (by simp;omega) (by decide) (hJ _ _ _) ?_|refine Cl.eq (c3) ⟨⟨rfl,hz⟩,trivial⟩ ?_)
  rfl
 ·have hc:cput c k a=some (mt c k a):=by unfold cput;rw[if_pos ⟨ho,by omega,by omega,by rw[W1];exact e⟩,W1]
  rw[hc]at hf |-;refine fO 35 [(4,267,[16,17,18,19,20,21,22,23,24,25,27,0,1,2,3,4,5,6,7,8,9,10,1000,1001,1002,11,12])] Tryz.func403 rfl ?_ (.inr hf)
  repeat'(first|refine gO ?_|(conv=>whnf);first|with_reducible refine Ix.nat (aa hx) ?_|refine Sm.rf ?_|refine Ix.nat (fF hx) ?_|refine Rw.one rfl (fF hx) rfl ?_|refine Cl.mk (c1) ?_|refine Cl.mk (c2) ?_|refine Lq.one rfl rfl (aa hx) rfl (W0 rfl) rfl rfl ?_|refine Rw.one rfl (aa hx) rfl ?_|refine Pu.one rfl rfl (fF hx) rfl (W0 rfl) (show [C.s d3.own ((c.Lists.map (aF .own)).set k (aF .own (nth c.Lists k++[a])))]=_ from by simp only[List.set_cons_zero,List.set_set,W1];rfl) ?_|refine Ap.sm (aO fun _=>rfl) rfl (by simp;omega) (by decide) (hJ _ _ _) ?_|refine Cl.eq (c3) ⟨⟨rfl,hz⟩,trivial⟩ ?_|refine Cl.eq (c4) ⟨⟨rfl,hz⟩,trivial⟩ ?_)
  rfl
def bu (x:ab):List C:=[.s .own (x.Kernel.Machine.Frames.Cells.map (aF .own)),.s .own (x.Kernel.Machine.Frames.Used.map (rB .own)),.s .own (x.Kernel.Machine.Table.Entries.map (bj.enc .own)),I x.Kernel.Calls,.s .own (x.Kernel.Refuse.map (rI .own)),.s .own (x.Free.map (a7.enc .own)),.s .own (x.Spans.map (au.enc .own)),.s .own (x.Larges.map (aA.enc .own)),.s .own (x.Objs.map (bO.enc .own)),.s .own (x.Caches.map (aC.enc .own)),.s .own (x.Mail.Buffers.map (cA .own)),.s .own (x.Mail.Inbox.map (aF .own)),I x.Quar.Room,.s .own (x.Quar.Lst.map (aM.enc .own)),I x.Seed,I x.Clock,I x.Limit,I x.Next,B x.Meshing,I x.Job.Plan.Keep,I x.Job.Plan.Move,.s .imm (x.Job.Plan.Cells.map (rI .imm)),I x.Job.Phase,I x.Job.Next]
theorem bA (x:ab):d9 (bu x)=ab.enc .imm x:=by simp[d9,bu,ab.enc,aC.enc_fz,bj.enc_fz,aA.enc_fz,bO.enc_fz,a7.enc_fz,au.enc_fz,aM.enc_fz,rB,p6,rI,dZ,<-bW,Function.comp_def]
def vU (x:co):List C:=[I x.Plan.Keep,I x.Plan.Move,.s .imm (x.Plan.Cells.map (rI .imm)),I x.Phase,I x.Next]
theorem Pu.two {bs bs':List C} {off i k j i2 k2 j2:Nat} {cs:List C} {K:List C->Prop} {o o2:d3} {rows rows2:List (List C)} {r r2:List C} (h1:bs[off]? = some (.s o rows)) (ho:o.mine=true) (h2:rows[i]? = some r) (h3:r.length=k) (g1:r[j]? = some (.s o2 rows2)) (go:o2.mine=true) (g2:rows2[i2]? = some r2) (g3:r2.length=k2) (g4:j2+cs.length<=k2)
  (h5:bs'=bs.set off (.s o (rows.set i (r.set j (.s o2 (rows2.set i2 (splice r2 j2 cs))))))) (hK:K bs'):Pu bs off [(i,k,j),(i2,k2,j2)] cs K:=by
 have hoi:o≠.imm:=fun e=>by subst e;cases ho
 have hoi2:o2≠.imm:=fun e=>by subst e;cases go
 refine Pu.mk (r:=r2) (j:=j2) (by simp[bR,h1,h2,h3,g1,g2,g3]) (by simp[jf,h1,h2,hoi,g1,g2,hoi2]) (by omega) (by rw[h5];simp[fh,h1,h2,g1,g2]) hK
theorem Ds (x:List au):fz (.s .own (x.map (au.enc .own)))=.s .imm (x.map (au.enc .imm)):=(List.cons.inj (tX x)).1
theorem xL (x:List aA):fz (.s .own (x.map (aA.enc .own)))=.s .imm (x.map (aA.enc .imm)):=(List.cons.inj (AF x)).1
theorem Am (x:List bO):fz (.s .own (x.map (bO.enc .own)))=.s .imm (x.map (bO.enc .imm)):=(List.cons.inj (Hc x)).1
theorem Ap.dele {α:Type} {e:α->List C} {xs:List α} {i sz by_:Nat} {K:List (List C)->Prop} (h2:∀ y,(e y).length=sz) (h3:∀ y,aW (e y)=true) (hl:xs.length<=1048576) (hb:by_<=1000) (hK:K ((Ab.dele xs i).map e)):Ap true ((xs.take i).map e) ((xs.drop (i+1)).map e) sz by_ K:=by
 have h4:(xs.take i).length+(xs.drop (i+1)).length<=2097152:=by rw[C1,Q2];omega
 refine Ap.mk (aO h2) (aO h2) (fun _ r hr=>by obtain⟨y,-,rfl⟩:=P3.1 hr;exact h3 y) (by rw[U0,U0];omega) (by rw[U0,U0];exact W3 (Nat.mul_le_mul h4 hb) (by decide)) ?_ hK;unfold Ab.dele;rw[List.map_append]
theorem Ge (h:ab) (p:Int) (hs:aE.sml h.Kernel.Machine.Table):ao Tryz.prog 348 false [.ptr (ab.enc .imm h),.val none [I p]] .one [I (ar h.Kernel.Machine.Table p).Mode]:=by
 refine fO 13 [] Tryz.func348 rfl ?_
 repeat'(first|refine gO ?_|(conv=>whnf);first|refine Sm.rf ?_|refine Cl.mk (cP h.Kernel.Machine.Table p hs) ?_)
 rfl
def Mn (h:ab):List C:=(bu h).drop 5
theorem Nq (h:ab) (k:af):bu {h with Kernel:=k} = af.enc .own k++Mn h:=rfl
theorem AH (h:ab):Mn h=[.s .own (h.Free.map (a7.enc .own)),.s .own (h.Spans.map (au.enc .own)),.s .own (h.Larges.map (aA.enc .own)),.s .own (h.Objs.map (bO.enc .own)),.s .own (h.Caches.map (aC.enc .own)),.s .own (h.Mail.Buffers.map (cA .own)),.s .own (h.Mail.Inbox.map (aF .own)),I h.Quar.Room,.s .own (h.Quar.Lst.map (aM.enc .own)),I h.Seed,I h.Clock,I h.Limit,I h.Next,B h.Meshing,I h.Job.Plan.Keep,I h.Job.Plan.Move,.s .imm (h.Job.Plan.Cells.map (rI .imm)),I h.Job.Phase,I h.Job.Next]:=rfl
theorem Gn (h:ab) (f:Int) (hs:aE.sml h.Kernel.Machine.Table) (hf:0<=f/\f<h.Kernel.Machine.Frames.Cells.length/\f<h.Kernel.Machine.Frames.Used.length) :
  aT Tryz.prog 349 false [.ptr (bu h),.val none [I f]] [.ptr (bu {h with Kernel:=gk h.Kernel f}),.val none [I f]] (.tup []) []:=by
 have h1:=ah (xs:=h.Kernel.Machine.Frames.Cells) (i:=f.toNat) (by omega);have h2:=ah (xs:=h.Kernel.Machine.Frames.Used) (i:=f.toNat) (by omega);rw[Nq h (gk h.Kernel f)];by_cases hz:(pagesOn h.Kernel.Machine.Table f).length=0
 ·rw[rP hz,AH]
  refine fM 30 [] [(2,8,[21,22,23,24,25,26,27,28])] [(0,0),(0,0)] Tryz.func349 rfl (fun u q=>?_) (.inr trivial)
  repeat'(first|refine gA ?_|(conv=>whnf);first|with_reducible (first|refine Ix.mk hf.1 (aa h2) ?_|refine Ix.mk hf.1 (aa h1) ?_)|refine Sm.rf ?_|refine Cl.eq (fZ h.Kernel.Machine.Table f hs) ⟨⟨rfl,aE.enc_fz h.Kernel.Machine.Table⟩,⟨rfl,rfl⟩,trivial⟩ ?_|refine Pu.one rfl rfl (aa h1) rfl (W0 rfl) rfl ?_|refine Pu.one rfl rfl (aa h2) rfl (W0 rfl) rfl ?_|refine Mk.mk 16 rfl rfl (by decide) (by decide) rfl ?_)
  refine aR.mk rfl rfl ?_;exact wB
 ·rw[wo hz]
  show aT _ _ _ [.ptr (bu h),_] [.ptr (bu h),_] _ _;refine fM 30 [] [(2,8,[21,22,23,24,25,26,27,28])] [(0,0),(0,0)] Tryz.func349 rfl (fun u q=>?_) (.inr trivial)
  repeat'(first|refine gA ?_|(conv=>whnf);first|refine Sm.rf ?_|refine Cl.eq (fZ h.Kernel.Machine.Table f hs) ⟨⟨rfl,aE.enc_fz h.Kernel.Machine.Table⟩,⟨rfl,rfl⟩,trivial⟩ ?_)
  refine aR.mk rfl rfl ?_;exact wB
theorem lM (h:ab) (p:Int) (hk:a8 h.Kernel=true) :
  aT Tryz.prog 297 false [.ptr (bu h),.val none [I p]] [.ptr (bu {h with Kernel:=bZ h.Kernel p}),.val none [I p]] .one [B (decide ((ar h.Kernel.Machine.Table p).Mode≠0))]:=by
 have hs:=bp hk;have c1:=Ge h p hs.1.2;by_cases hm:(ar h.Kernel.Machine.Table p).Mode=0
 ·rw[show bZ h.Kernel p=h.Kernel by unfold bZ;rw[if_pos hm]]
  refine fM 32 [(349,[2,0])] [] [(0,0),(0,0)] Tryz.func297 rfl (fun u q=>?_)
  repeat'(first|refine gA ?_|(conv=>whnf);first|refine Sm.rf ?_|refine Cl.eq (c1) ⟨bA h,⟨rfl,rfl⟩,trivial⟩ ?_)
  refine aR.mk rfl ?_ ?_
  ·exact R0 (fun z=>[B z]) ((by simp[hm]))
  ·exact wB
 ·obtain⟨h0,h1,he,hf0,hf1⟩:=ce hk hm
  have hlen:=(aU.1 (aB.1 hk).2.1).2.2.1;rw[show bZ h.Kernel p=gk (jM h.Kernel p) (ar h.Kernel.Machine.Table p).Frame by unfold bZ;rw[if_neg hm]];have c2:=Gn {h with Kernel:=jM h.Kernel p} (ar h.Kernel.Machine.Table p).Frame (vG hk) ⟨hf0,by simp only[jM];omega,by simp only[jM];omega⟩;rw[Nq h (jM h.Kernel p),uB,AH]at c2;have hx:=ah (xs:=h.Kernel.Machine.Table.Entries) (i:=p.toNat) (by omega);rw[he]at c1 c2 hm |-;refine fM 32 [(349,[2,0])] [] [(0,0),(0,0)] Tryz.func297 rfl (fun u q=>?_)
  repeat'(first|refine gA ?_|(conv=>whnf);first|with_reducible refine Ix.mk h0 (aa hx) ?_|refine Sm.rf ?_|refine Cl.eq (c1) ⟨bA h,⟨rfl,rfl⟩,trivial⟩ ?_|refine Pu.one rfl rfl (aa hx) rfl (W0 rfl) rfl ?_|refine Rw.one rfl (aa hx) rfl ?_|refine cv.mk (c2) (.inl rfl) ?_)
  refine aR.mk rfl ?_ ?_
  ·exact R0 (fun z=>[B z]) ((by simp[hm]))
  ·exact wB
theorem sw (h:ab) (p:Int):ao Tryz.prog 290 false [.ptr (ab.enc .imm h),.val none [I p]] .one [B (gv h p)]:=by
 cases e:h.Meshing
 all_goals
  have hz:ab.enc .imm h=(ab.enc .imm h).set 18 (B h.Meshing):=rfl;rw[e]at hz;rw[hz];refine fO 29 [] Tryz.func290 rfl ?_
  repeat'(first|refine gO ?_|(conv=>whnf);first|with_reducible (first|refine Bf.D (fun hq=>?_) (fun hq=>?_)|refine Bf.E (fun hq=>?_) (fun hq=>?_)|refine Bf.N (fun hq=>?_) (fun hq=>?_))|refine Sm.rf ?_)
  all_goals exact R0 (fun z=>[B z]) ((by unfold gv;rw[e];first|(simp[*];done)|(simp[*];rw[V3];simp)))
theorem gm (h:ab):ao Tryz.prog 295 false [.ptr (ab.enc .imm h)] .one [I (dG h:Nat)]:=by
 refine fO 11 [] Tryz.func295 rfl ?_
 repeat'(first|refine gO ?_|(conv=>whnf);first|refine Sm.rf ?_)
 rfl
theorem pm (h:ab) (a:Int) (hl:h.Objs.length<=1048576):ao Tryz.prog 53 false [.val (some 24) (ab.enc .imm h),.val none [I a]] .one [I (dw (kH a) h.Objs)]:=by
 refine fO 22 [] Tryz.func53 rfl ?_
 repeat'(first|refine gO ?_|(conv=>whnf);first|refine Sm.rf ?_)
 (conv=>whnf)
 refine Lp.mk (ι:=Nat) (fun i=>[(1,.hold .one [I (a)]),(2,.hold .box (ab.enc .imm h)),(5,.hold .one [I ((i:Nat):Int)])]) (fun i=>i<=h.Objs.length/\∀ (j:Nat) (z:bO),j<i->h.Objs[j]? = some z->kH a z=false) (fun i=>h.Objs.length - i) (0) ?_ (⟨Q0 _,fun j z hj=>by omega⟩) fun i hi=>?_
 ·exact wB
 obtain⟨hi,ha⟩:=hi;by_cases li:i<h.Objs.length
 ·have hx:=ah li
  by_cases e:(nth h.Objs i).Addr=a
  ·repeat'(first|refine gA ?_|(conv=>whnf);first|with_reducible refine Ix.nat (aa hx) ?_|refine Sm.rf ?_)
   exact R0 (fun z=>[I z]) (dR hx (by unfold kH;simp[e]) ha).symm
  ·repeat'(first|refine gA ?_|(conv=>whnf);first|with_reducible refine Ix.nat (aa hx) ?_|refine Sm.rf ?_)
   ((conv=>whnf);refine Nx.mk (i+1) ⟨by omega,dl hx (by unfold kH;simp[e]) ha⟩ (by omega) ?_;(exact wB))
 ·repeat'(first|refine gD ?_|(conv=>whnf);first|refine Sm.rf ?_)
  exact R0 (fun z=>[I z]) (gr (by omega) ha).symm
theorem l8 (h:ab) (i:Nat) (hi:i<h.Objs.length) (hl:h.Objs.length<=1048576):aT Tryz.prog 382 false [.ptr (bu h),.val none [I (i:Nat)]] [.ptr (bu {h with Objs:=dele h.Objs i}),.val none [I (i:Nat)]] (.tup []) []:=by
 refine fM 23 [] [(0,273,[4,5,6,7,8,9,10,11,13,14,15,16,17,18,19,21,22,0,1,2,3,4,5,6,7,9,10,11,12,13,14,15,8,1000,1009,1010,1011,1012,1013,1014,1015,16,1000,17,18,19]),(1048576,0,[8])] [(0,0),(0,0)] Tryz.func382 rfl (fun u q=>?_) (.inr trivial)
 repeat'(first|refine gO ?_|(conv=>whnf);first|refine Sm.rf ?_|refine DL.mk rfl (Am h.Objs) rfl ?_|refine Sl.pre i rfl (by rw[U0];omega) (aO fun _=>rfl) I3 ?_|refine Sl.suf (i+1) rfl (by rw[U0];omega) (aO fun _=>rfl) O3 ?_|refine Fl.cp (fun _=>rfl) (fun _=>rfl) (by rw[C1];omega) (by decide) ?_|refine Ap.dele (fun _=>rfl) (fun _=>rfl) hl (by decide) ?_|refine Ap.cp (fun _=>rfl) (fun _=>rfl) (by rw[C1];omega) (by decide) ?_|refine Sm.rf ?_)
 refine aR.mk rfl rfl ?_;exact wB
theorem zp (h:ab) (E:List Int) (i:Nat) (hi:bm h E) (li:i<h.Spans.length):aT Tryz.prog 392 false [.ptr (bu h),.val none [I (i:Nat)]] [.ptr (bu (giveP h i)),.val none [I (i:Nat)]] (.tup []) []:=by
 have hl:=hi.lens;have hls:=hl.spans;have hx:=ah li;have c1:=lM {h with Spans:=dele h.Spans i} (nth h.Spans i).Page hi.ker;have c2:=gm {h with Kernel:=bZ h.Kernel (nth h.Spans i).Page,Spans:=dele h.Spans i};rw[show dG {h with Kernel:=bZ h.Kernel (nth h.Spans i).Page,Spans:=dele h.Spans i} = dG h from(lF _ _).1]at c2;have hpg:dG h<=32:=hl.ents;have c3:=kD (dG h:Nat) h.Free ⟨(nth h.Spans i).Page,1⟩ ⟨by omega,by omega⟩ ⟨by have:=hl.free;omega,fun _ _=>trivial⟩;refine fM 52 [(297,[2,0])] [(1,273,[13,14,15,16,17,18,19,20,22,23,24,25,26,27,28,30,31,0,1,2,3,4,5,6,7,9,10,11,12,13,14,15,8,1000,1009,1010,1011,1012,1013,1014,1015,16,1000,17,18,19]),(1048577,0,[6]),(3,270,[38,39,40,41,42,43,44,45,47,37,48,49,50,51,0,1,2,3,4,5,6,7,8,1000,1001,1002,1003,1004,1005,1006,9,10,11,12,13,14,15,1012])] [(0,0),(0,0)] Tryz.func392 rfl (fun u q=>?_) (.inr trivial)
 repeat'(first|refine gO ?_|(conv=>whnf);first|with_reducible refine Ix.nat (aa hx) ?_|refine Sm.rf ?_|refine DL.mk rfl (Ds h.Spans) rfl ?_|refine Sl.pre i rfl (by rw[U0];omega) (aO fun _=>rfl) I3 ?_|refine Sl.suf (i+1) rfl (by rw[U0];omega) (aO fun _=>rfl) O3 ?_|refine Fl.cp (fun _=>rfl) (fun _=>rfl) (by rw[C1];omega) (by decide) ?_|refine Ap.dele (fun _=>rfl) (fun _=>rfl) (by omega) (by decide) ?_|refine Ap.cp (fun _=>rfl) (fun _=>rfl) (by rw[C1];omega) (by decide) ?_|refine Rw.one rfl (aa hx) rfl ?_|refine Sm.rf ?_|refine cv.mk (c1) (.inl rfl) ?_|refine Cl.eq (c2) ⟨bA _,trivial⟩ ?_|refine Cl.eq (c3) ⟨⟨rfl,rfl⟩,⟨rfl,dE h.Free⟩,⟨rfl,rfl⟩,trivial⟩ ?_)
 refine aR.mk rfl rfl ?_;exact wB
theorem uf (h:ab) (i:Nat) (a:Int):bu (clrS h i a)=(bu h).set 6 (.s .own ((h.Spans.map (au.enc .own)).set i (au.enc .own (lK (nth h.Spans i) (dN (nth h.Spans i) a))))):=by
 simp[bu,clrS,List.map_set]
theorem q9 {α β:Type} {f:α->β} {xs:List α} {i:Nat} {y:β} (hi:i<xs.length):((xs.map f).set i y)[i]? = some y:=by
 rw[U2 (by rw[U0];exact hi)]
theorem GC {s:au} (hs:bf s=true) {a:Int} (ha:eP s a):gU s a=(dN s a,0):=by
 unfold gU;rw[if_pos ((fI hs).2 ⟨ha.1,ha.2.1⟩),ha.2.2.1];rfl
theorem lS (h:ab) (E:List Int) (a:Int) (hi:bm h (a::E)):aT Tryz.prog 364 false [.ptr (bu h),.val none [I a]] [.ptr (bu (freeA h a)),.val none [I a]] (.tup []) []:=by
 obtain⟨li,hs,hon⟩:=hi.at (hi.hin a (I1 ..));have hbd:=(hi.hin a (I1 ..)).bd hi;have hl:=hi.lens;have hls:=hl.spans;have hso:=hi.L.sok _ (am li);have c1:=iJ h (a / 16) (by omega);rw[hon]at c1;unfold freeA;generalize vu h a=i at li hs c1 hso;have hx:=ah li;have c2:=sO (nth h.Spans i) a ⟨by omega,by omega⟩;rw[GC hso hs]at c2;have c3:=wU (nth h.Spans i) (dN (nth h.Spans i) a) hso hs.2.2.2;have hg:=hi.give li hs;have c4:=sw (clrS h i a) (nth h.Spans i).Page;rw[show gv (clrS h i a) (nth h.Spans i).Page=gv h (nth h.Spans i).Page from rfl]at c4;have c5:=zp (clrS h i a) E i hg (by unfold clrS;simp only[Z0];exact li);have hz:=bA (clrS h i a);rw[uf]at c5 hz;have hy:((h.Spans.map (au.enc .own)).set i (au.enc .own (lK (nth h.Spans i) (dN (nth h.Spans i) a))))[i]? = some (au.enc .own (lK (nth h.Spans i) (dN (nth h.Spans i) a))):=q9 li;unfold freeS;by_cases e1:(lK (nth h.Spans i) (dN (nth h.Spans i) a)).Bits=0
 ·cases e2:gv h (nth h.Spans i).Page<;>rw[e2]at c4
  ·rw[if_pos ⟨e1,rfl⟩]
   refine fM 68 [(392,[2,0])] [(2,274,[26,27,28,29,30,31,32,33,34,35,36,37,38,39,25,40,41,42,0,1,2,3,4,5,6,7,8,9,10,11,12,13,14,15,16,17,18,1016])] [(0,0),(0,0)] Tryz.func364 rfl (fun u q=>?_) (.inr trivial)
   repeat'(first|refine gA ?_|(conv=>whnf);first|with_reducible refine Wr.mk ((R0 _ (tdiv16 hbd.1)).trans (dS (by omega) (by omega))) ?_|refine Sm.rf ?_|refine Cd.mk (by decide) ?_|refine Cl.eq (c1) ⟨⟨rfl,bA h⟩,⟨rfl,rfl⟩,trivial⟩ ?_|refine Ix.nat (aa hx) ?_|refine Ix.nat hy ?_|refine Rw.one rfl (aa hx) rfl ?_|refine Rw.one rfl hy rfl ?_|refine Cl.mk (c2) ?_|refine Cl.mk (c3) ?_|refine Sm.rf ?_|refine Pu.one rfl rfl (aa hx) rfl (W0 rfl) rfl ?_|refine Cl.eq (c4) ⟨hz,⟨rfl,rfl⟩,trivial⟩ ?_|refine cv.mk (c5) (.inl rfl) ?_)
   refine aR.mk rfl rfl ?_;exact wB
  ·rw[if_neg fun x=>by cases x.2]
   rw[uf];refine fM 68 [(392,[2,0])] [(2,274,[26,27,28,29,30,31,32,33,34,35,36,37,38,39,25,40,41,42,0,1,2,3,4,5,6,7,8,9,10,11,12,13,14,15,16,17,18,1016])] [(0,0),(0,0)] Tryz.func364 rfl (fun u q=>?_) (.inr trivial)
   repeat'(first|refine gA ?_|(conv=>whnf);first|with_reducible refine Wr.mk ((R0 _ (tdiv16 hbd.1)).trans (dS (by omega) (by omega))) ?_|refine Sm.rf ?_|refine Cd.mk (by decide) ?_|refine Cl.eq (c1) ⟨⟨rfl,bA h⟩,⟨rfl,rfl⟩,trivial⟩ ?_|refine Ix.nat (aa hx) ?_|refine Ix.nat hy ?_|refine Rw.one rfl (aa hx) rfl ?_|refine Rw.one rfl hy rfl ?_|refine Cl.mk (c2) ?_|refine Cl.mk (c3) ?_|refine Sm.rf ?_|refine Pu.one rfl rfl (aa hx) rfl (W0 rfl) rfl ?_|refine Cl.eq (c4) ⟨hz,⟨rfl,rfl⟩,trivial⟩ ?_|refine cv.mk (c5) (.inl rfl) ?_)
   refine aR.mk rfl rfl ?_;exact wB
 ·rw[if_neg fun x=>e1 x.1]
  rw[uf];refine fM 68 [(392,[2,0])] [(2,274,[26,27,28,29,30,31,32,33,34,35,36,37,38,39,25,40,41,42,0,1,2,3,4,5,6,7,8,9,10,11,12,13,14,15,16,17,18,1016])] [(0,0),(0,0)] Tryz.func364 rfl (fun u q=>?_) (.inr trivial)
  repeat'(first|refine gA ?_|(conv=>whnf);first|with_reducible refine Wr.mk ((R0 _ (tdiv16 hbd.1)).trans (dS (by omega) (by omega))) ?_|refine Sm.rf ?_|refine Cd.mk (by decide) ?_|refine Cl.eq (c1) ⟨⟨rfl,bA h⟩,⟨rfl,rfl⟩,trivial⟩ ?_|refine Ix.nat (aa hx) ?_|refine Ix.nat hy ?_|refine Rw.one rfl (aa hx) rfl ?_|refine Rw.one rfl hy rfl ?_|refine Cl.mk (c2) ?_|refine Cl.mk (c3) ?_|refine Sm.rf ?_|refine Pu.one rfl rfl (aa hx) rfl (W0 rfl) rfl ?_|refine Cl.eq (c4) ⟨hz,⟨rfl,rfl⟩,trivial⟩ ?_|refine cv.mk (c5) (.inl rfl) ?_)
  refine aR.mk rfl rfl ?_;exact wB
theorem J7 (h:ab) (t:Nat) (c:aC):bu {h with Caches:=h.Caches.set t c} = (bu h).set 9 (.s .own ((h.Caches.map (aC.enc .own)).set t (aC.enc .own c))):=by
 simp[bu,List.map_set]
theorem m6 (h:ab) (E:List Int) (t:Nat) (a:Int) (hi:bm h (a::E)) (ht:t<h.Caches.length):aT Tryz.prog 384 false [.ptr (bu h),.val none [I (t:Nat)],.val none [I a]] [.ptr (bu (recyc t h a)),.val none [I (t:Nat)],.val none [I a]] (.tup []) []:=by
 obtain⟨li,hs,hon⟩:=hi.at (hi.hin a (I1 ..));have hbd:=(hi.hin a (I1 ..)).bd hi;have hl:=hi.lens;have hls:=hl.spans;have hso:=aG (hi.L.sok _ (am li));have hco:=hi.cach _ (am ht);have c1:=iJ h (a / 16) (by omega);rw[hon]at c1;have c3:=lS h E a hi;unfold recyc;generalize vu h a=i at li hs c1 hso;have hx:=ah li;have hy:=ah ht;have c2:=xi (nth h.Caches t) (nth h.Spans i).Class.toNat a hco (by omega);rw[Int.toNat_of_nonneg hso.2.2.1]at c2;unfold Ff at c2;cases e:cput (nth h.Caches t) (nth h.Spans i).Class a with
 | none=>
  rw[e]at c2;refine fM 46 [(364,[2,0])] [(1,277,[16,17,18,19,20,21,22,23,24,25,26,27,28,29,30,31,32,15,33,34,7,0,1,2,3,4,5,6,7,8,9,10,11,12,13,14,15,16,17,18,19,20,21,1019,22]),(3,6,[36,37,38,39,40,41])] [(0,0),(0,0),(0,0)] Tryz.func384 rfl (fun u q=>?_) (.inr trivial)
  repeat'(first|refine gO ?_|(conv=>whnf);first|with_reducible refine Wr.mk ((R0 _ (tdiv16 hbd.1)).trans (dS (by omega) (by omega))) ?_|refine Sm.rf ?_|refine Cd.mk (by decide) ?_|refine Cl.eq (c1) ⟨⟨rfl,bA h⟩,⟨rfl,rfl⟩,trivial⟩ ?_|refine Ix.nat (aa hx) ?_|refine Ix.nat (aa hy) ?_|refine Rw.one rfl (aa hx) rfl ?_|refine Rw.one rfl (aa hy) rfl ?_|refine Cl.eq (c2) ⟨⟨rfl,aC.enc_fz _⟩,⟨rfl,rfl⟩,⟨rfl,rfl⟩,trivial⟩ ?_|refine Sm.rf ?_|refine cv.mk (c3) (.inl rfl) ?_)
  refine aR.mk rfl rfl ?_;exact wB
 | some c=>
  rw[e]at c2;simp only;rw[J7];refine fM 46 [(364,[2,0])] [(1,277,[16,17,18,19,20,21,22,23,24,25,26,27,28,29,30,31,32,15,33,34,7,0,1,2,3,4,5,6,7,8,9,10,11,12,13,14,15,16,17,18,19,20,21,1019,22]),(3,6,[36,37,38,39,40,41])] [(0,0),(0,0),(0,0)] Tryz.func384 rfl (fun u q=>?_) (.inr trivial)
  repeat'(first|refine gO ?_|(conv=>whnf);first|with_reducible refine Wr.mk ((R0 _ (tdiv16 hbd.1)).trans (dS (by omega) (by omega))) ?_|refine Sm.rf ?_|refine Cd.mk (by decide) ?_|refine Cl.eq (c1) ⟨⟨rfl,bA h⟩,⟨rfl,rfl⟩,trivial⟩ ?_|refine Ix.nat (aa hx) ?_|refine Ix.nat (aa hy) ?_|refine Rw.one rfl (aa hx) rfl ?_|refine Rw.one rfl (aa hy) rfl ?_|refine Cl.eq (c2) ⟨⟨rfl,aC.enc_fz _⟩,⟨rfl,rfl⟩,⟨rfl,rfl⟩,trivial⟩ ?_|refine Sm.rf ?_|refine Pu.one rfl rfl (aa hy) rfl (W0 rfl) rfl ?_)
  refine aR.mk rfl rfl ?_;exact wB
theorem oY (h:ab) (i:Nat) (hi:bm h []) (li:i<h.Objs.length) (hc:aN (nth h.Objs i).Size<0):aT Tryz.prog 380 false [.ptr (bu h),.val none [I (i:Nat)]] [.ptr (bu (freeL h i (xv h (nth h.Objs i).Addr))),.val none [I (i:Nat)]] (.tup []) []:=by
 obtain⟨l,hl,h1,-⟩:=(eR hi (am li)).1 hc;obtain⟨lk,ea,hbef,-⟩:=Aa hl h1;generalize xv h (nth h.Objs i).Addr=g at lk ea hbef;have hlen:=hi.lens;have hnl:=hlen.larges;have hno:=hlen.objs;have hxo:=ah li;have hf:=aV (hi.L.lok _ (am lk));have hpg:dG h<=32:=hlen.ents;refine fM 89 [(297,[2,0]),(382,[2,0])] [(4,11,[23,24,25,26,27,28,29,30,31,32,33]),(8,7,[41,42,43,44,45,46,47]),(9,273,[50,51,52,53,54,55,56,57,58,59,60,62,49,63,64,65,66,0,1,2,3,4,5,6,7,8,9,10,11,1000,1001,1002,1003,1004,1005,1006,12,13,14,15,16,17,18,1015]),(10,273,[67,68,69,70,71,72,73,74,76,77,78,79,80,81,82,84,85,0,1,2,3,4,5,6,7,9,10,11,12,13,14,15,8,1000,1009,1010,1011,1012,1013,1014,1015,16,1000,17,18,19]),(1048586,0,[7])] [(0,0),(0,0)] Tryz.func380 rfl (fun u q=>?_) (.inr trivial)
 repeat'(first|refine gO ?_|(conv=>whnf);first|refine Sm.rf ?_)
 (conv=>whnf)
 refine Lp.mk (ι:=Nat) (fun k=>[(0,.hold .box (bu h)),(1,.hold .one [I ((i:Nat):Int)]),(4,.hold .one [I ((k:Nat):Int)])]) (fun k=>k<=g) (fun k=>g - k) (0) ?_ (Q0 _) fun k hk=>?_
 ·exact wB
 have hx:=ah (xs:=h.Larges) (i:=k) (by omega);have hfk:=aV (hi.L.lok _ (am (xs:=h.Larges) (i:=k) (by omega)));have hab:0<=(nth h.Objs i).Addr/\(nth h.Objs i).Addr<=512:=by omega
 by_cases e:k=g
 ·subst e
  repeat'(first|refine gA ?_|(conv=>whnf);first|with_reducible refine Ix.nat (aa hx) ?_|refine Sm.rf ?_|refine Rw.one rfl (aa hx) rfl ?_|refine Rw.one rfl (aa hxo) rfl ?_|refine Ix.nat (aa hxo) ?_)
  (conv=>whnf)
  refine Lp.mk (ι:=Nat) (fun n=>[(0,.hold .box (bu {h with Kernel:=dL h.Kernel (nth h.Larges k).Page n})),(1,.hold .one [I ((i:Nat):Int)]),(4,.hold .one [I ((k:Nat):Int)]),(5,.hold .box (aA.enc .own (nth h.Larges k))),(6,.hold .one [I ((n:Nat):Int)])]) (fun n=>n<=(nth h.Larges k).Pages.toNat) (fun n=>(nth h.Larges k).Pages.toNat - n) (0) ?_ (Q0 _) fun n hn=>?_
  ·exact wB
  by_cases ln:n<(nth h.Larges k).Pages.toNat
  ·have c1:=lM {h with Kernel:=dL h.Kernel (nth h.Larges k).Page n} ((nth h.Larges k).Page+n) (jY hi.ker _ _)
   repeat'(first|refine gD ?_|(conv=>whnf);first|refine Sm.rf ?_|refine cv.mk (c1) (.inl rfl) ?_|refine Sm.rf ?_)
   ((conv=>whnf);refine Nx.mk (n+1) (by omega) (by omega) ?_;(exact wB))
  ·obtain rfl:n=(nth h.Larges k).Pages.toNat:=by omega
   have c2:=gm {h with Kernel:=dL h.Kernel (nth h.Larges k).Page (nth h.Larges k).Pages.toNat};rw[show dG {h with Kernel:=dL h.Kernel (nth h.Larges k).Page (nth h.Larges k).Pages.toNat} = dG h from(gY _ _ _).1]at c2;have c3:=kD (dG h:Nat) h.Free ⟨(nth h.Larges k).Page,(nth h.Larges k).Pages⟩ ⟨by omega,by omega⟩ ⟨by have:=hlen.free;omega,fun _ _=>trivial⟩;have c4:=l8 {h with Kernel:=dL h.Kernel (nth h.Larges k).Page (nth h.Larges k).Pages.toNat,Larges:=dele h.Larges k,Free:=(dn (dG h) h.Free ⟨(nth h.Larges k).Page,(nth h.Larges k).Pages⟩).getD h.Free} i li (by show h.Objs.length<=_;omega)
   repeat'(first|refine gD ?_|(conv=>whnf);first|refine Sm.rf ?_|refine DL.mk rfl (xL h.Larges) rfl ?_|refine Sl.pre k rfl (by rw[U0];omega) (aO fun _=>rfl) I3 ?_|refine Sl.suf (k+1) rfl (by rw[U0];omega) (aO fun _=>rfl) O3 ?_|refine Fl.cp (fun _=>rfl) (fun _=>rfl) (by rw[C1];omega) (by decide) ?_|refine Ap.dele (fun _=>rfl) (fun _=>rfl) (by omega) (by decide) ?_|refine Ap.cp (fun _=>rfl) (fun _=>rfl) (by rw[C1];omega) (by decide) ?_|refine Sm.rf ?_|refine Cl.eq (c2) ⟨bA _,trivial⟩ ?_|refine Cl.eq (c3) ⟨⟨rfl,rfl⟩,⟨rfl,dE h.Free⟩,⟨rfl,rfl⟩,trivial⟩ ?_|refine cv.mk (c4) (.inl rfl) ?_)
   refine aR.mk rfl rfl ?_;exact wB
 ·have hne:=hbef k (by omega)
  repeat'(first|refine gA ?_|(conv=>whnf);first|with_reducible refine Ix.nat (aa hx) ?_|refine Sm.rf ?_|refine Rw.one rfl (aa hx) rfl ?_|refine Rw.one rfl (aa hxo) rfl ?_|refine Ix.nat (aa hxo) ?_)
  ((conv=>whnf);refine Nx.mk (k+1) (by omega) (by omega) ?_;(exact wB))
def MN (q:bB) (x:aM):List C:=bB.enc .own (GN q x)++cC .own (zj q x)
theorem KT (q:bB) (x:aM):gG (MN q x):=aK (bB.enc_fr _) (sR _)
theorem zB (q:bB) (x0:aM) (hl:q.Lst.length<=4096) (hq:eN q=true) (hx:0<=x0.Class/\x0.Class<=3/\0<=x0.Addr/\0<=x0.Since) (hs:∀ y∈q.Lst,y.Since<=x0.Since) (hn:∀ y∈q.Lst,y.Addr≠x0.Addr) :
  ao Tryz.prog 383 false [.val (some 2) (bB.enc .imm q),.val (some 3) (aM.enc .imm x0)] (.tup [some 2,none]) (MN q x0):=by
 have hsm:bB.sml q:=⟨by omega,fun _ _=>trivial⟩
 have c1:=q7 q hsm;have c2:=mT q hsm;rw[hq]at c2;have c3:=yf x0;rw[O0 hx]at c3;have c4:=qL q x0.Addr hsm;rw[show q.Lst.any (dJ x0.Addr)=false by rw[List.any_eq_false];intro y hy;unfold dJ;simpa using hn y hy]at c4;have hr:=(iM.1 hq).2.2.2;have hfr:=KT q x0;have hz:(aM.mk x0.Addr x0.Class x0.Since)=x0:=rfl;have hcut:=D2 q.Room (q.Lst++[x0]);simp only[P2,List.length_singleton]at hcut;by_cases hne:q.Lst.length=0
 all_goals
  try have hlast:(nth q.Lst (q.Lst.length - 1)).Since<=x0.Since:=hs _ (am (by omega))
  try have hxl:=ah (xs:=q.Lst) (i:=q.Lst.length - 1) (by omega)
  try have hxl':q.Lst[((q.Lst.length:Int) - 1).toNat]? = some (nth q.Lst (q.Lst.length - 1)):=by rw[show((q.Lst.length:Int) - 1).toNat=q.Lst.length - 1 by omega];exact hxl
  refine fO 74 [(3,27,[15,16,17,18,19,20,21,22,23,24,25,26,27,28,29,30,31,32,33,34,35,36,37,38,39,40,41]),(7,6,[52,53,54,55,56,57]),(9,268,[61,62,63,64,65,66,67,69,70,71,72,73,0,1,2,3,4,5,6,8,9,10,11,12,7,1008,1009,1010,1011,1012,13,14])] Tryz.func383 rfl ?_ (.inr hfr)
  repeat'(first|refine gD ?_|(conv=>whnf);first|with_reducible refine Bf.D (fun hq=>?_) (fun hq=>?_)|refine Sm.rf ?_|refine Cl.mk (c1) ?_|refine Cl.mk (c2) ?_|refine Cl.mk (c3) ?_|refine Cl.mk (c4) ?_|refine Ix.mk (by omega) (aa hxl') ?_|refine Ap.sm (aO fun _=>rfl) rfl (by simp;omega) (by decide) (hJ (aM.enc .own) q.Lst x0) ?_)
  (conv=>whnf)
  refine Lp.fz 8 (ι:=Nat) (fun k=>[(2,.hold .box (bB.enc .imm q)),(4,.hold .box [I 0,.z]),(8,.hold .one (cC .imm (q.Lst++[x0]))),(9,.hold .one [I (k:Nat)])]) (fun k=>k<=mD q.Room (q.Lst++[x0])) (fun k=>mD q.Room (q.Lst++[x0]) - k) 0 ?_ (Q0 _) fun k hk=>?_
  ·(repeat'(first|exact trivial|rfl|exact And.intro rfl (show JQ (d9 (cC .own (q.Lst++[x0]))) (cC .imm (q.Lst++[x0])) by rw[A4];exact kU _)|refine And.intro ?_ ?_))
  have hL:(q.Lst++[x0]).length=q.Lst.length+1:=by simp
  have hdl:((q.Lst++[x0]).drop k).length<=5000:=by rw[Q2];omega
  have htl:((q.Lst++[x0]).take k).length<=5000:=by rw[C1];omega
  have c5:=sB ((q.Lst++[x0]).drop k) ⟨by omega,fun _ _=>trivial⟩;by_cases lk:k<mD q.Room (q.Lst++[x0])
  ·have h1:q.Room<quarCells ((q.Lst++[x0]).drop k) ((q.Lst++[x0]).drop k).length:=yD lk
   repeat'(first|refine gD ?_|(conv=>whnf);first|refine Sm.rf ?_|refine Sl.suf k rfl (by rw[U0];omega) (aO fun _=>rfl) O3 ?_|refine Cl.mk (c5) ?_|refine Sm.rf ?_)
   ((conv=>whnf);refine Nx.mk (k+1) (by omega) (by omega) ?_;(exact wB))
  ·obtain rfl:k=mD q.Room (q.Lst++[x0]):=by omega
   have h1:quarCells ((q.Lst++[x0]).drop (mD q.Room (q.Lst++[x0]))) ((q.Lst++[x0]).drop (mD q.Room (q.Lst++[x0]))).length<=q.Room:=yG hr.1 _
   repeat'(first|refine gD ?_|(conv=>whnf);first|refine Sm.rf ?_|refine Sl.suf (mD q.Room (q.Lst++[x0])) rfl (by rw[U0];omega) (aO fun _=>rfl) O3 ?_|refine Sl.pre (mD q.Room (q.Lst++[x0])) rfl (by rw[U0];omega) (aO fun _=>rfl) I3 ?_|refine Cl.mk (c5) ?_|refine Sm.rf ?_|refine Fl.cp (fun _=>rfl) (fun _=>rfl) (by omega) (by decide) ?_|refine Ap.cp (fun _=>rfl) (fun _=>rfl) (by omega) (by decide) ?_)
   rfl
theorem oK {z:Int} (h:0<=z/\z<512):IntKind.i64.wrap (z.tdiv 16)=z / 16:=(R0 _ (tdiv16 h.1)).trans (dS (by omega) (by omega))
theorem rY {h:ab} {E:List Int} (hi:bm h E) {o:bO} (ho:o∈h.Objs):0<=o.Addr/\o.Addr<512:=by
 rcases hi.oow o ho with⟨s,hs,⟨k1,k2,-⟩,-⟩|⟨l,hl,e,-⟩
 ·have:=aG (hi.L.sok s hs);omega
 ·have:=aV (hi.L.lok l hl);omega
theorem JY {k:Int} (h:0<=k/\k<=3):1<=csz k/\csz k<=8:=by
 rcases cj h with e|e|e|e<;>rw[e]<;>decide
structure N9 (h:ab) (o:bO):Prop where
 cl:0<=aN o.Size/\aN o.Size<=3
 fr:0<=(ar h.Kernel.Machine.Table (o.Addr / 16)).Frame/\(ar h.Kernel.Machine.Table (o.Addr / 16)).Frame<h.Kernel.Machine.Frames.Cells.length
 fit:o.Addr % 16+csz (aN o.Size)<=16
 row:(nth h.Kernel.Machine.Frames.Cells (fE h.Kernel o.Addr)).length=16
theorem N9.of {h:ab} {E:List Int} (hi:bm h E) {o:bO} (ho:o∈h.Objs) (hc:¬aN o.Size<0):N9 h o:=by
 obtain⟨⟨s,hs,h1,h2⟩,h3⟩:=(eR hi ho).2 hc;have hsc:=aG (hi.L.sok s hs);have hbd:=rY hi ho;have hp:s.Page=o.Addr / 16:=by have a1:=h1.1;have a2:=h1.2.1;omega
 have hpn:(o.Addr / 16).toNat<(tbl h).Entries.length:=by have:=hi.pg.bnd _ (du (la:=h.Larges) hs);omega
 have hcast:(((o.Addr / 16).toNat:Nat):Int)=o.Addr / 16:=by omega
 have hm:=(hi.pg.own _ hpn).2 (by rw[hcast,<-hp];exact du hs);have hm2:(ar h.Kernel.Machine.Table (o.Addr / 16)).Mode≠0:=by rw[<-hcast];unfold tbl at hm hpn;rw[kO hpn];exact hm
 obtain⟨-,-,-,hf0,hf1⟩:=ce hi.ker hm2;have hul:=(aU.1 (aB.1 hi.ker).2.1).2.2.1;have hfr:fE h.Kernel o.Addr<h.Kernel.Machine.Frames.Cells.length:=by unfold fE;omega
 refine⟨by omega,⟨hf0,by omega⟩,?_,hi.lens.row _ (am hfr)⟩;have hz:=h1.2.2.1;rw[hp,<-h2]at *;rcases cj (k:=s.Class) ⟨by omega,by omega⟩ with e|e|e|e<;>rw[e]at hz |-<;>omega
theorem Fc (h:ab) (a:Int) (hf:fE h.Kernel a<h.Kernel.Machine.Frames.Cells.length):({h with Kernel:=fS h.Kernel a 0} : ab)=h:=by
 have e:h.Kernel.Machine.Frames.Cells.set (fE h.Kernel a) (nth h.Kernel.Machine.Frames.Cells (fE h.Kernel a))=h.Kernel.Machine.Frames.Cells:=by
  refine List.ext_getElem? fun i=>?_
  rw[Z2];split
  ·rename_i e
   subst e;exact(ah hf).symm
  ·rfl
 unfold fS ly;rw[e]
theorem Db (h:ab) (a:Int) (k:Nat) (v:Int) (_:0<=a):bu {h with Kernel:=fS h.Kernel a (k+1)} = (bu {h with Kernel:=fS h.Kernel a k}).set 0 (.s .own (((fS h.Kernel a k).Machine.Frames.Cells.map (aF .own)).set (ar h.Kernel.Machine.Table (a / 16)).Frame.toNat ((aF .own (ly (nth h.Kernel.Machine.Frames.Cells (fE h.Kernel a)) (a % 16).toNat k)).set 0 (.s .own (((ly (nth h.Kernel.Machine.Frames.Cells (fE h.Kernel a)) (a % 16).toNat k).map (rI .own)).set (a % 16+k).toNat (splice (rI .own v) 0 [I 0])))))):=by
 have e:(a % 16+k).toNat=(a % 16).toNat+k:=by omega
 rw[e];simp[bu,fS,List.map_set,ly,aF,splice,fE]
 rfl
theorem BX (t:Nat) (h:ab) (xs:List aM) (k:Nat) (hk:k<xs.length):recycs t h ((xs.take (k+1)).map (·.Addr))=recyc t (recycs t h ((xs.take k).map (·.Addr))) (nth xs k).Addr:=by
 unfold recycs;rw[List.take_add_one,ah hk];simp
theorem DW (h:ab) (o:bO) (t:Nat) (hi:bm h []) (ho:o∈h.Objs) (ht:o.Thread=t) (hlc:h.Caches.length<=4):aT Tryz.prog 354 false [.ptr (bu h),.val none [I (t:Nat)],.val none [I o.Addr]] [.ptr (bu (freeOb h t (nr h o.Addr)).1),.val none [I (t:Nat)],.val none [I o.Addr]] .one [I (freeOb h t (nr h o.Addr)).2]:=by
 obtain⟨li,hob,hfst⟩:=hi.objAt ho;have hbd:=rY hi ho;have hon:=hi.onu o ho;have hlen:=hi.lens;have hno:=hlen.objs;have htn:t<h.Caches.length:=by omega
 have c0:=aD (t:Nat) 0 (h.Caches.length - 1:Int);rw[O0 (by omega)]at c0;have c1:=pm h o.Addr (by omega);rw[hfst]at c1;generalize nr h o.Addr=i at li hob c1;subst hob;have hx:=ah li;have c2:=ju (nth h.Objs i).Size;unfold freeOb;have hks:=bp hi.ker;have c4:=cP h.Kernel.Machine.Table ((nth h.Objs i).Addr / 16) hks.1.2;by_cases hc:aN (nth h.Objs i).Size<0
 ·rw[if_pos hc]
  have c3:=oY h i hi li hc;refine fM 148 [(380,[2,0]),(382,[2,0]),(384,[2,0,0]),(379,[2,0])] [(15,269,[68,69,70,71,72,73,74,75,77,67,78,79,11,0,1,2,3,4,5,6,7,13,8,1000,1001,1002,1003,1004,1013,9,10,11,12,14,1012,15]),(22,15,[92,93,94,95,96,97,98,99,100,101,102,103,104,105,106]),(25,271,[116,117,118,119,120,121,122,123,124,125,127,115,128,129,14,0,1,2,3,4,5,6,7,8,9,15,10,1000,1001,1002,1003,1015,11,12,13,14,16,1014,17])] [(0,0),(0,0),(0,0)] Tryz.func354 rfl (fun u q=>?_)
  repeat'(first|refine gD ?_|(conv=>whnf);first|with_reducible refine Bf.D (fun hq=>?_) (fun hq=>?_)|refine Sm.rf ?_|refine Cl.mk (c0) ?_|refine Cl.eq (c1) ⟨⟨rfl,bA h⟩,⟨rfl,rfl⟩,trivial⟩ ?_|refine Ix.nat (aa hx) ?_|refine Rw.one rfl (aa hx) rfl ?_|refine Cl.mk (c2) ?_|refine cv.mk (c3) (.inl rfl) ?_)
  refine aR.mk rfl rfl ?_;exact wB
 rw[if_neg hc];obtain⟨s1,s2,s3,s4⟩:=N9.of hi (am li) hc;by_cases hm:(ar (tbl h) ((nth h.Objs i).Addr / 16)).Mode=1
 ·rw[if_pos hm]
  unfold tbl at hm;refine fM 148 [(380,[2,0]),(382,[2,0]),(384,[2,0,0]),(379,[2,0])] [(15,269,[68,69,70,71,72,73,74,75,77,67,78,79,11,0,1,2,3,4,5,6,7,13,8,1000,1001,1002,1003,1004,1013,9,10,11,12,14,1012,15]),(22,15,[92,93,94,95,96,97,98,99,100,101,102,103,104,105,106]),(25,271,[116,117,118,119,120,121,122,123,124,125,127,115,128,129,14,0,1,2,3,4,5,6,7,8,9,15,10,1000,1001,1002,1003,1015,11,12,13,14,16,1014,17])] [(0,0),(0,0),(0,0)] Tryz.func354 rfl (fun u q=>?_)
  repeat'(first|refine gA ?_|(conv=>whnf);first|with_reducible refine Bf.D (fun hq=>?_) (fun hq=>?_)|refine Sm.rf ?_|refine Cd.mk (by decide) ?_|refine Wr.mk (oK hbd) ?_|refine Cl.mk (c0) ?_|refine Cl.eq (c1) ⟨⟨rfl,bA h⟩,⟨rfl,rfl⟩,trivial⟩ ?_|refine Ix.nat (aa hx) ?_|refine Rw.one rfl (aa hx) rfl ?_|refine Cl.mk (c2) ?_|refine Cl.eq (c4) ⟨⟨rfl,aE.enc_fz _⟩,⟨rfl,rfl⟩,trivial⟩ ?_)
  refine aR.mk rfl rfl ?_;exact wB
 rw[if_neg hm];unfold tbl at hm;have hfr:fE h.Kernel (nth h.Objs i).Addr<h.Kernel.Machine.Frames.Cells.length:=by unfold fE;omega
 have hcz:=JY s1;have hquar:=hi.inQuar li hc;have hcs:=dv (aN (nth h.Objs i).Size);refine fM 148 [(380,[2,0]),(382,[2,0]),(384,[2,0,0]),(379,[2,0])] [(15,269,[68,69,70,71,72,73,74,75,77,67,78,79,11,0,1,2,3,4,5,6,7,13,8,1000,1001,1002,1003,1004,1013,9,10,11,12,14,1012,15]),(22,15,[92,93,94,95,96,97,98,99,100,101,102,103,104,105,106]),(25,271,[116,117,118,119,120,121,122,123,124,125,127,115,128,129,14,0,1,2,3,4,5,6,7,8,9,15,10,1000,1001,1002,1003,1015,11,12,13,14,16,1014,17])] [(0,0),(0,0),(0,0)] Tryz.func354 rfl (fun u q=>?_)
 repeat'(first|refine gA ?_|(conv=>whnf);first|with_reducible refine Bf.D (fun hq=>?_) (fun hq=>?_)|refine Sm.rf ?_|refine Cd.mk (by decide) ?_|refine Wr.mk (oK hbd) ?_|refine Cl.mk (c0) ?_|refine Cl.eq (c1) ⟨⟨rfl,bA h⟩,⟨rfl,rfl⟩,trivial⟩ ?_|refine Ix.nat (aa hx) ?_|refine Rw.one rfl (aa hx) rfl ?_|refine Cl.mk (c2) ?_|refine Cl.eq (c4) ⟨⟨rfl,aE.enc_fz _⟩,⟨rfl,rfl⟩,trivial⟩ ?_)
 rw[show bu h=bu {h with Kernel:=fS h.Kernel (nth h.Objs i).Addr 0} by rw[Fc h _ hfr]]
 (conv=>whnf)
 refine Lp.mk (ι:=Nat) (fun k=>[(0,.hold .box (bu {h with Kernel:=fS h.Kernel (nth h.Objs i).Addr k})),(1,.hold .one [I ((t:Nat):Int)]),(2,.hold .one [I ((nth h.Objs i).Addr)]),(7,.hold .one [I ((i:Nat):Int)]),(8,.hold .box (bO.enc .own (nth h.Objs i))),(9,.hold .one [I (aN (nth h.Objs i).Size)]),(10,.hold .box (bj.enc .own (ar h.Kernel.Machine.Table ((nth h.Objs i).Addr / 16)))),(13,.hold .one [I ((k:Nat):Int)])]) (fun k=>k<=(csz (aN (nth h.Objs i).Size)).toNat) (fun k=>(csz (aN (nth h.Objs i).Size)).toNat - k) (0) ?_ (Q0 _) fun k hk=>?_
 ·exact wB
 have hmod:IntKind.i64.wrap 0=0:=rfl;have htm:(nth h.Objs i).Addr.tmod 16=(nth h.Objs i).Addr % 16:=fH hbd.1;have hck:(fS h.Kernel (nth h.Objs i).Addr k).Machine.Frames.Cells[(ar h.Kernel.Machine.Table ((nth h.Objs i).Addr / 16)).Frame.toNat]? = some (ly (nth h.Kernel.Machine.Frames.Cells (fE h.Kernel (nth h.Objs i).Addr)) ((nth h.Objs i).Addr % 16).toNat k):=U2 hfr;by_cases lk:k<(csz (aN (nth h.Objs i).Size)).toNat
 ·have hzk:=ah (xs:=ly (nth h.Kernel.Machine.Frames.Cells (fE h.Kernel (nth h.Objs i).Addr)) ((nth h.Objs i).Addr % 16).toNat k) (i:=((nth h.Objs i).Addr % 16+k).toNat) (by rw[od,s4];omega)
  repeat'(first|refine gD ?_|(conv=>whnf);first|refine Sm.rf ?_|refine Cd.mk (by decide) ?_|refine Ev.mk htm ?_|refine Cl.mk (hcs) ?_|refine Ix.mk s2.1 (aa hck) ?_|refine Rw.one rfl (aa hck) rfl ?_|refine Ix.mk (by omega) (aa hzk) ?_|refine Pu.two rfl rfl (aa hck) rfl rfl rfl (aa hzk) rfl (I2 _) (Db h _ k _ hbd.1) ?_)
  ((conv=>whnf);refine Nx.mk (k+1) (by omega) (by omega) ?_;(exact wB))
 ·obtain rfl:k=(csz (aN (nth h.Objs i).Size)).toNat:=by omega
  have c5:=l8 {h with Kernel:=fS h.Kernel (nth h.Objs i).Addr (csz (aN (nth h.Objs i).Size)).toNat} i li (by show h.Objs.length<=_;omega);have hnum:=hi.nums;unfold bU at hnum;rw[C0]at hnum;have hnd:=(hi.dropO li (iU.any (c:=aN (nth h.Objs i).Size) (by obtain⟨⟨s,hs,k1,k2⟩,-⟩:=(eR hi (am li)).2 hc;exact⟨s,hs,k1,.inr k2⟩))).nd;rw[List.cons_append,List.nil_append]at hnd;have c6:=zB h.Quar (kF h (nth h.Objs i)) (by have:=hlen.quar;omega) hi.quar ⟨s1.1,s1.2,hbd.1,hnum.2.2.1⟩ (fun y hy=>hi.snc y hy) (fun y hy e=>(List.nodup_cons.1 hnd).1 (by rw[show(nth h.Objs i).Addr=y.Addr from e.symm];unfold holders;simp only[C2];exact .inl (.inr (P3.2 ⟨y,hy,rfl⟩))));unfold MN at c6;have hol:(zj h.Quar (kF h (nth h.Objs i))).length<=513:=by have:=hlen.quar;unfold zj;rw[C1,P2];simp only[List.length_singleton];omega
  repeat'(first|refine gA ?_|(conv=>whnf);first|with_reducible refine Bf.D (fun hq=>?_) (fun hq=>?_)|refine Sm.rf ?_|refine Cl.mk (hcs) ?_|refine cv.mk (c5) (.inl rfl) ?_|refine Cl.eq (c6) ⟨⟨rfl,bB.enc_fz h.Quar⟩,⟨rfl,rfl⟩,trivial⟩ ?_|refine Sm.rf ?_)
  have hfq:KB h t i=recycs t (inQuar h i) ((zj h.Quar (kF h (nth h.Objs i))).map (·.Addr)):=rfl;simp only;rw[hfq];have hqn:(inQuar h i).Caches.length=h.Caches.length:=rfl;generalize zj h.Quar (kF h (nth h.Objs i))=out at hquar hol
  (conv=>whnf)
  refine Lp.mk (ι:=Nat) (fun k=>[(0,.hold .box (bu (recycs t (inQuar h i) ((out.take k).map (·.Addr))))),(1,.hold .one [I ((t:Nat):Int)]),(15,.hold .one (cC .own out)),(16,.hold .one [I ((k:Nat):Int)])]) (fun k=>k<=out.length) (fun k=>out.length - k) (0) ?_ (Q0 _) fun k hk=>?_
  ·exact wB
  by_cases lk:k<out.length
  ·have hxo:=ah lk
   have hsp:out.map (·.Addr)=(out.take k).map (·.Addr)++(nth out k).Addr::(out.drop (k+1)).map (·.Addr):=by
    conv=>lhs;rw[<-List.take_append_drop k out,iG lk]
    simp
   have hik:bm (recycs t (inQuar h i) ((out.take k).map (·.Addr))) ((nth out k).Addr::(out.drop (k+1)).map (·.Addr)):=bm.recycs (by rw[<-hsp];exact hquar) htn;have c7:=m6 _ _ t _ hik (by rw[(fN t _ _).1];exact htn)
   repeat'(first|refine gD ?_|(conv=>whnf);first|refine Sm.rf ?_|refine Ix.nat (aa hxo) ?_|refine Rw.one rfl (aa hxo) rfl ?_|refine cv.mk (c7) (.inl rfl) ?_)
   ((conv=>whnf);refine Nx.mk (k+1) (by omega) (by omega) ?_)
   rw[BX t _ out k lk];exact wB
  ·obtain rfl:k=out.length:=by omega
   rw[List.take_length]
   repeat'(first|refine gD ?_|(conv=>whnf);first|refine Sm.rf ?_)
   refine aR.mk rfl rfl ?_;exact wB
set_option maxRecDepth 100000
theorem dK (c:C):LO c c:=(kU [c]).1
theorem nN {c c':C} (h:c'=c):LO c c':=by subst h;exact dK _
def Gj (c:aC) (k:Nat):aC:=⟨c.Lists.set k []⟩
theorem LQ (c:aC) (k:Nat):aC.enc .own (Gj c k)=[.s .own ((c.Lists.map (aF .own)).set k (aF .own []))]:=by simp[aC.enc,Gj,List.map_set]
theorem Jx (xs:List Int):([]:List Int).map (rI .imm)=(xs.map (rI .imm)).drop xs.length:=by rw[List.drop_eq_nil_of_le (by rw[U0];omega)];rfl
theorem J3 (xs:List Int):xs.map (rI .imm)=(xs.map (rI .imm)).take xs.length:=by rw[List.take_of_length_le (by rw[U0];omega)]
def NI (c:aC) (k:Nat):List C:=aC.enc .own (Gj c k)++aF .own (nth c.Lists k)
theorem MO (c:aC) (k:Nat):gG (NI c k):=aK (aC.enc_fr _) (bK _)
theorem tq (c:aC) (k:Nat) (ho:bn c=true) (hk:k<=3):ao Tryz.prog 390 false [.val (some 1) (aC.enc .imm c),.val none [I (k:Nat)],.val none [I 8]] (.tup [some 1,none]) (NI c k):=by
 obtain⟨h1,h2⟩:=dY ho;have hs:aC.sml c:=⟨by omega,fun l hl=>by have:=h2 l hl;show l.length<=1048576;omega⟩
 have c1:=vI c k hs;rw[ho,O0 (by omega)]at c1;have c2:=ib c hs;have hx:=sj (c:=c) (k:=k) (by omega);have hxl:=h2 _ (am (xs:=c.Lists) (i:=k) (by omega));have hf:=MO c k;unfold NI at hf |-;rw[LQ]at hf |-;refine fO 52 [(5,268,[29,30,31,32,33,34,35,36,37,38,39,41,0,1,2,3,4,5,6,7,8,9,10,11,1000,1001,1002,12,13]),(6,265,[42,43,44,45,46,47,48,49,50,0,1,2,3,4,5,6,7,8,9,1000,10,11])] Tryz.func390 rfl ?_ (.inr hf)
 repeat'(first|refine gO ?_|(conv=>whnf);first|with_reducible refine Ix.nat (aa hx) ?_|refine Sm.rf ?_|refine Rw.one rfl (aa hx) rfl ?_|refine Cl.mk (c1) ?_|refine Cl.mk (c2) ?_|refine Ev.mk (z:=((nth c.Lists k).length:Int)) (by simp;omega) ?_|refine Sl.suf (nth c.Lists k).length rfl (by rw[U0];omega) (aO fun _=>rfl) (Jx _) ?_|refine Sl.pre (nth c.Lists k).length rfl (by rw[U0];omega) (aO fun _=>rfl) (J3 _) ?_|refine Sm.rf ?_|refine Fl.cp (fun _=>rfl) (fun _=>rfl) (by simp) (by decide) ?_|refine Ap.cp (fun _=>rfl) (fun _=>rfl) (by simp) (by decide) ?_|refine Fl.cp (fun _=>rfl) (fun _=>rfl) (by omega) (by decide) ?_|refine Ap.cp (fun _=>rfl) (fun _=>rfl) (by omega) (by decide) ?_|refine Pu.one rfl rfl (aa hx) rfl (W0 rfl) rfl ?_)
 rfl
theorem nj {k:Int} : ∀ {l s s2 s':List Int},(∀ x∈s2,x∈s)->pP k s l=some s'->(∀ x∈s,x∈s')/\∃ s2',pP k s2 l=some s2'/\∀ x∈s2',x∈s'
 | [],s,s2,s',h,e=>by
  simp only[pP,T0]at e |-;subst e;exact⟨fun _ h=>h,s2,rfl,h⟩
 | a::l,s,s2,s',h,e=>by
  simp only[pP]at e |-;split at e
  ·rename_i g
   rw[if_pos (show good k s2 a from⟨g.1,g.2.1,g.2.2.1,fun x=>g.2.2.2 (h a x)⟩)];obtain⟨h1,h2⟩:=nj (l:=l) (s:=s++[a]) (s2:=s2++[a]) (fun x hx=>by
     rcases C2.1 hx with hx|hx
     · exact C2.2 (.inl (h x hx))
     · exact C2.2 (.inr hx)) e
   exact⟨fun x hx=>h1 x (C2.2 (.inl hx)),h2⟩
  ·cases e
theorem rn:∀ {ls:List (List Int)} {k:Nat} {s s2:List Int},(∀ x∈s2,x∈s)->(fC k s ls).isSome=true->(fC k s2 ls).isSome=true
 | [],_,_,_,_,_=>rfl
 | l::ls,k,s,s2,h,e=>by
  simp only[fC,dO]at e |-;split at e
  ·rename_i g
   rw[if_pos g];cases e1:pP k s l with
   | none=>rw[e1]at e;cases e
   | some s'=>
    rw[e1]at e;obtain⟨-,s2',e2,h2⟩:=nj h e1;rw[e2];exact rn h2 e
  ·cases e
theorem Dd:∀ {ls:List (List Int)} {k:Nat} {s s2:List Int} (i:Nat),(∀ x∈s2,x∈s)->(fC k s ls).isSome=true->(fC k s2 (ls.set i [])).isSome=true
 | [],_,_,_,_,_,_=>rfl
 | l::ls,k,s,s2,i,h,e=>by
  simp only[fC,dO]at e;split at e
  ·rename_i g
   cases e1:pP k s l with
   | none=>rw[e1]at e;cases e
   | some s'=>
    rw[e1]at e;obtain⟨h1,s2',e2,h2⟩:=nj h e1;cases i with
    | zero=>
     simp only[List.set_cons_zero,fC,dO];rw[if_pos ⟨by simp,g.2⟩];exact rn (fun x hx=>h1 x (h x hx)) e
    | succ i=>
     simp only[List.set_cons_succ,fC,dO];rw[if_pos g,e2];exact Dd i h2 e
  ·cases e
theorem My {c:aC} (h:bn c=true) (k:Nat):bn (Gj c k)=true:=by
 unfold bn at h |-;simp only[I0,C0]at h |-;exact⟨by simp only[Gj,Z0];exact h.1,Dd k (fun _ h=>h) h.2⟩
def spilt (h:ab) (t k:Nat):ab:={h with Caches:=h.Caches.set t (Gj (nth h.Caches t) k)}
theorem bm.spilt {h:ab} {E:List Int} {t k:Nat} (hi:bm h E) (ht:t<h.Caches.length) (hk:k<(nth h.Caches t).Lists.length):bm (spilt h t k) (nth (nth h.Caches t).Lists k++E):=by
 have hp:(E++holders h).Perm (nth (nth h.Caches t).Lists k++E++holders (Ab.spilt h t k)):=by
  refine List.perm_iff_count.2 fun b=>?_
  have h1:=ic (fun c:aC=>c.Lists.flatten) b h.Caches t (Gj (nth h.Caches t) k) ht;have h2:=ic (fun x:List Int=>x) b (nth h.Caches t).Lists k [] hk;rw[<-jD,<-jD]at h2;simp only[List.count_nil]at h2;simp only[Gj]at h1;simp only[holders,ch,Ab.spilt,Gj,List.count_append];omega
 have hsub:∀ c∈(Ab.spilt h t k).Caches,c∈h.Caches\/c=Gj (nth h.Caches t) k:=fun c hc=>List.mem_or_eq_of_mem_set hc
 exact {hi with
   nc:=by show(h.Caches.set ..).length=_;rw[Z0];exact hi.nc
   cach:=fun c hcm=>by
     rcases hsub c hcm with hcm|rfl
     · exact hi.cach c hcm
     · exact My (hi.cach _ (am ht)) k
   onu:=by show ∀ o∈h.Objs,1<=o.Id/\o.Id<=h.Next - 1/\0<=o.Thread/\o.Thread<=(h.Caches.set t _).length - 1;rw[Z0];exact hi.onu
   hca:=fun c hcm j hj b hb=>by
     rcases hsub c hcm with hcm|rfl
     · exact hi.hca c hcm j hj b hb
     · simp only[Gj,Z0]at hj
       simp only[Gj,cx]at hb;by_cases e:k=j
       · subst e
         rw[if_pos ⟨rfl,hj⟩]at hb;cases hb
       · rw[if_neg fun x=>e x.1]at hb
         exact hi.hca _ (am ht) _ hj b hb
   hin:=fun b hb=>by
     rcases C2.1 hb with hb|hb
     · exact(hi.hca _ (am ht) k hk b hb).any
     · exact hi.hin b hb
   nd:=hp.nodup_iff.1 hi.nd
   mem:=fun b=>by rw[<-hp.mem_iff];exact hi.mem b}
def freeAs (h:ab) (az:List Int):ab:=az.foldl freeA h
theorem gI:∀ (az:List Int) (h:ab),(freeAs h az).Caches=h.Caches/\(freeAs h az).Objs=h.Objs/\(freeAs h az).Kernel.Calls=h.Kernel.Calls/\(freeAs h az).Mail=h.Mail/\(freeAs h az).Job=h.Job/\(freeAs h az).Clock=h.Clock/\(freeAs h az).Quar=h.Quar/\(freeAs h az).Kernel.Refuse=h.Kernel.Refuse
 | [],h=>⟨rfl,rfl,rfl,rfl,rfl,rfl,rfl,rfl⟩
 | a::az,h=>by
  obtain⟨h1,h2,h3,h4,h5,h6,h7,h8⟩:=gI az (freeA h a);obtain⟨g1,g2,g3,g4,g5,g6,g7,g8⟩:=vL h (vu h a) a;exact⟨h1.trans g1,h2.trans g2,h3.trans g3,h4.trans g4,h5.trans g5,h6.trans g6,h7.trans g7,h8.trans g8⟩
theorem bm.freeAs {E:List Int} : ∀ {az:List Int} {h:ab},bm h (az++E)->bm (freeAs h az) E
 | [],_,hi=>hi
 | a::az,h,hi=>bm.freeAs (az:=az) (h:=Ab.freeA h a) hi.freeA
theorem sQ (h:ab) (az:List Int) (k:Nat) (hk:k<az.length):freeAs h (az.take (k+1))=freeA (freeAs h (az.take k)) (nth az k):=by
 rw[List.take_add_one,ah hk];simp[freeAs]
def flushN (t:Nat) (h:ab):Nat->ab × Nat
 | 0=>(h,0)
 | k+1=>(freeAs (spilt (flushN t h k).1 t k) (nth (nth (flushN t h k).1.Caches t).Lists k),(flushN t h k).2+(nth (nth (flushN t h k).1.Caches t).Lists k).length)
theorem jG {t:Nat} {h:ab} (hi:bm h []) (ht:t<h.Caches.length):∀ {k:Nat},k<=4->bm (flushN t h k).1 []/\(flushN t h k).1.Caches.length=h.Caches.length/\(flushN t h k).1.Kernel.Calls=h.Kernel.Calls/\(flushN t h k).1.Objs=h.Objs/\(flushN t h k).1.Mail=h.Mail/\(flushN t h k).1.Job=h.Job/\(flushN t h k).2<=8*k
 | 0,_=>⟨hi,rfl,rfl,rfl,rfl,rfl,Q0 _⟩
 | k+1,hk=>by
  obtain⟨h1,h2,h3,h4,h5,h6,h7⟩:=jG hi ht (k:=k) (by omega);have ht':t<(flushN t h k).1.Caches.length:=by omega
  obtain⟨c1,c2⟩:=dY (h1.cach _ (am ht'));have hk':k<(nth (flushN t h k).1.Caches t).Lists.length:=by omega
  have hs:=h1.spilt ht' hk';have hl:=c2 _ (am hk');obtain⟨g1,g2,g3,g4,g5,-⟩:=gI (nth (nth (flushN t h k).1.Caches t).Lists k) (Ab.spilt (flushN t h k).1 t k);refine⟨bm.freeAs hs,?_,g3.trans h3,g2.trans h4,g4.trans h5,g5.trans h6,?_⟩
  ·show(Ab.freeAs _ _).Caches.length=_
   rw[g1];simp only[Ab.spilt,Z0];exact h2
  ·simp only[flushN];omega
theorem Dh {h:ab} {t k:Nat} (hi:bm h []) (ht:t<h.Caches.length) (hk:k<4):t<(flushN t h k).1.Caches.length/\bn (nth (flushN t h k).1.Caches t)=true/\k<(nth (flushN t h k).1.Caches t).Lists.length/\(nth (nth (flushN t h k).1.Caches t).Lists k).length<=8/\(flushN t h k).2<=8*k:=by
 obtain⟨h1,h2,-,-,-,-,h7⟩:=jG hi ht (k:=k) (by omega);have ht':t<(flushN t h k).1.Caches.length:=by omega
 have hc:=h1.cach _ (am ht');obtain⟨c1,c2⟩:=dY hc;have hk':k<(nth (flushN t h k).1.Caches t).Lists.length:=by omega
 exact⟨ht',hc,hk',c2 _ (am hk'),h7⟩
theorem JE {h:ab} {t k j:Nat} (hi:bm h []) (ht:t<h.Caches.length) (hk:k<4) (hj:j<(nth (nth (flushN t h k).1.Caches t).Lists k).length):bm (freeAs (spilt (flushN t h k).1 t k) ((nth (nth (flushN t h k).1.Caches t).Lists k).take j)) (nth (nth (nth (flushN t h k).1.Caches t).Lists k) j::(nth (nth (flushN t h k).1.Caches t).Lists k).drop (j+1)):=by
 obtain⟨h1,h2⟩:=Dh hi ht hk;have hs:=((jG hi ht (k:=k) (by omega)).1).spilt h1 h2.2.1;rw[List.append_nil]at hs;refine bm.freeAs ?_;rw[<-iG hj,List.take_append_drop];exact hs
theorem xG (h:ab) (t:Nat) (hi:bm h []) (ht:t<h.Caches.length):aT Tryz.prog 362 false [.ptr (bu h),.val none [I (t:Nat)]] [.ptr (bu (flushN t h 4).1),.val none [I (t:Nat)]] .one [I ((flushN t h 4).2:Nat)]:=by
 refine fM 48 [(364,[2,0])] [(6,6,[26,27,28,29,30,31])] [(0,0),(0,0)] Tryz.func362 rfl (fun u q=>?_)
 repeat'(first|refine gO ?_|fail)
 (conv=>whnf)
 refine Lp.mk (ι:=Nat) (fun k=>[(0,.hold .box (bu (flushN t h k).1)),(1,.hold .one [I ((t:Nat):Int)]),(5,.hold .one [I (((flushN t h k).2:Nat):Int)]),(6,.hold .one [I ((k:Nat):Int)])]) (fun k=>k<=4) (fun k=>4 - k) (0) ?_ (Q0 _) fun k hk=>?_
 ·repeat'(first|exact trivial|rfl |exact nN hoo|exact dK _|refine And.intro ?_ ?_|(exact Br (by first|omega|(simp only;omega)|(simp;omega))))
 by_cases lk:k<4
 ·obtain⟨g1,g2,g3,g4,g5⟩:=Dh hi ht lk
  have c1:=tq (nth (flushN t h k).1.Caches t) k g2 (by omega);have hin:=fun j=>JE hi ht lk (j:=j)
  have hy:=ah g1;have hd:(flushN t h (k+1)).1=freeAs (spilt (flushN t h k).1 t k) (nth (nth (flushN t h k).1.Caches t).Lists k):=rfl;have hn:(flushN t h (k+1)).2=(flushN t h k).2+(nth (nth (flushN t h k).1.Caches t).Lists k).length:=rfl;have hoo:C.s d3.own ((spilt (flushN t h k).1 t k).Caches.map (aC.enc .own))=C.s d3.own (((flushN t h k).1.Caches.map (aC.enc .own)).set t (aC.enc .own (Gj (nth (flushN t h k).1.Caches t) k))):=by simp[spilt,List.map_set]
  repeat'(first|refine gD ?_|(conv=>whnf);first|refine Ix.nat (aa hy) ?_|refine Rw.one rfl (aa hy) rfl ?_|refine Cl.eq (c1) ⟨⟨rfl,aC.enc_fz _⟩,⟨rfl,rfl⟩,⟨rfl,rfl⟩,trivial⟩ ?_|refine Sm.rf ?_|refine Pu.one rfl rfl (aa hy) rfl (W0 rfl) rfl ?_)
  generalize (flushN t h k).1=d at *;generalize (flushN t h k).2=m at *
  (conv=>whnf)
  refine Lp.mk (ι:=Nat) (fun j=>[(0,.hold .box (bu (freeAs (spilt d t k) ((nth (nth d.Caches t).Lists k).take j)))),(1,.hold .one [I ((t:Nat):Int)]),(5,.hold .one [I (((m+j):Nat):Int)]),(6,.hold .one [I ((k:Nat):Int)]),(8,.hold .one (aF .own (nth (nth d.Caches t).Lists k))),(9,.hold .one [I ((j:Nat):Int)])]) (fun j=>j<=(nth (nth d.Caches t).Lists k).length) (fun j=>(nth (nth d.Caches t).Lists k).length - j) (0) ?_ (Q0 _) fun j hj=>?_
  ·repeat'(first|exact trivial|rfl |exact nN hoo|exact dK _|refine And.intro ?_ ?_|(exact Br (by first|omega|(simp only;omega)|(simp;omega))))
  by_cases lj:j<(nth (nth d.Caches t).Lists k).length
  ·have hxa:=ah lj
   have c2:=lS _ _ _ (hin j lj)
   repeat'(first|refine gD ?_|(conv=>whnf);first|refine Ix.nat (aa hxa) ?_|refine Rw.one rfl (aa hxa) rfl ?_|refine cv.mk (c2) (.inl rfl) ?_)
   ((conv=>whnf);refine Nx.mk (j+1) (by omega) (by omega) ?_)
   rw[sQ _ _ _ lj];exact wC
  ·obtain rfl:j=(nth (nth d.Caches t).Lists k).length:=by omega
   rw[List.take_length]
   repeat'(first|refine gD ?_|fail)
   ((conv=>whnf);refine Nx.mk (k+1) (by omega) (by omega) ?_)
   rw[hd,hn];exact wC
 ·obtain rfl:k=4:=by omega
  repeat'(first|refine gD ?_|fail)
  refine aR.mk rfl rfl ?_;exact wC
def FN (s:Int):Int:=(1103515245*s+12345) % 1073741824
theorem DZ (s:Int):0<=FN s/\FN s<=1073741823:=by unfold FN;omega
theorem xB (s:Int) (hs:0<=s/\s<=1073741823):ao Tryz.prog 377 false [.val none [I s]] .one [I (FN s)]:=by
 have c1:=aD s 0 1073741823;rw[O0 hs]at c1;refine fO 10 [] Tryz.func377 rfl ?_
 repeat'(first|refine gO ?_|(conv=>whnf);first|refine Sm.rf ?_|refine Ev.mk (z:=FN s) (fH (by omega)) ?_|refine Cl.mk (c1) ?_|refine Cd.mk (by decide) ?_)
 rfl
def J1 (s n:Int):Int:=FN s / 1024 % n
theorem vi (s:Int) {n:Int} (h:1<=n):0<=J1 s n/\J1 s n<n:=⟨Int.emod_nonneg _ (by omega),Int.emod_lt_of_pos _ (by omega)⟩
theorem te (s n:Int) (hs:0<=s/\s<=1073741823) (hn:1<=n/\n<=1000):ao Tryz.prog 343 false [.val none [I s],.val none [I n]] (.tup [none,none]) [I (J1 s n),I (FN s)]:=by
 have c1:=aD s 0 1073741823;have c2:=aD n 1 1000;rw[O0 hs]at c1;rw[O0 hn]at c2;have hb:=DZ s;have hc:=vi s hn.1;have e1:(FN s).tdiv 1024=FN s / 1024:=Int.tdiv_eq_ediv_of_nonneg hb.1;have e2:((FN s).tdiv 1024).tmod n=J1 s n:=by rw[e1];exact fH (by omega)
 refine fO 23 [] Tryz.func343 rfl ?_ (.inr ⟨trivial,trivial,trivial⟩)
 repeat'(first|refine gO ?_|(conv=>whnf);first|refine Sm.rf ?_|refine Cl.mk (c1) ?_|refine Cl.mk (c2) ?_|refine Cl.mk (xB s hs) ?_|refine Cd.mk (by decide) ?_|refine Cd.mk (by omega) ?_|refine Ev.mk e2 ?_|refine Wr.mk (dS (by rw[e1];omega) (by rw[e1];omega)) ?_)
 rfl
def q8 (n:Nat):List Int:=(List.range n).map fun(i:Nat)=>(i:Int)
theorem Ep (n:Nat):q8 (n+1)=q8 n++[(n:Int)]:=by unfold q8;rw[List.range_succ,List.map_append];rfl
theorem yp (n:Nat):(q8 n).length=n:=by simp[q8]
def vp (xs:List Int) (i k:Nat):List Int:=(xs.set i (nth xs k)).set k (nth xs i)
theorem Gl (xs:List Int) (i k:Nat):(vp xs i k).length=xs.length:=by simp[vp]
def gu (n:Nat) (s:Int):Nat->List Int × Int
 | 0=>(q8 n,s)
 | j+1=>(vp (gu n s j).1 (n - 1 - j) (J1 (gu n s j).2 ((n - 1 - j:Nat)+1:Int)).toNat,FN (gu n s j).2)
theorem lg (n:Nat) {s:Int} (hs:0<=s/\s<=1073741823):∀ j,(gu n s j).1.length=n/\0<=(gu n s j).2/\(gu n s j).2<=1073741823
 | 0=>⟨yp n,hs⟩
 | j+1=>⟨by simp only[gu,Gl];exact(lg n hs j).1,DZ _⟩
def shuf (n:Nat) (s:Int):List Int × Int:=gu n s (n - 1)
theorem Jo (xs:List Int) (i k:Nat):(vp xs i k).map (rI .own)=((xs.map (rI .own)).set i (rI .own (nth xs k))).set k (rI .own (nth xs i)):=by simp[vp,List.map_set]
theorem Gu {xs:List Int} {i k:Nat} (v:Int) (hk:k<xs.length):((xs.map (rI .own)).set i (rI .own v))[k]? = some (rI .own (nth (xs.set i v) k)):=by
 rw[<-List.map_set];exact aa (ah (by rw[Z0];exact hk))
theorem xA (n:Nat) (s:Int) (hs:0<=s/\s<=1073741823) (hn:n<=64):ao Tryz.prog 393 false [.val none [I s],.val none [I (n:Nat)]] (.tup [none,none]) (aF .own (shuf n s).1++[I (shuf n s).2]):=by
 have c1:=aD s 0 1073741823;have c2:=aD (n:Nat) 0 64;rw[O0 hs]at c1;rw[O0 (by omega)]at c2;refine fO 63 [] Tryz.func393 rfl ?_ (.inr (aK (bK _) ⟨trivial,trivial⟩))
 repeat'(first|refine gO ?_|(conv=>whnf);first|refine Sm.rf ?_|refine Cl.mk (c1) ?_|refine Cl.mk (c2) ?_)
 (conv=>whnf)
 refine Lp.mk (ι:=Nat) (fun k=>[(0,.hold .one [I (s)]),(1,.hold .one [I ((n:Nat):Int)]),(6,.hold .one (aF .own (q8 k))),(7,.hold .one [I ((k:Nat):Int)])]) (fun k=>k<=n) (fun k=>n - k) (0) ?_ (Q0 _) fun k hk=>?_
 ·exact wB
 have hkl:=yp k;by_cases lk:k<n
 ·repeat'(first|refine gD ?_|(conv=>whnf);first|refine Sm.rf ?_|refine Ap.sm (aO fun _=>rfl) rfl (by simp;omega) (by decide) (hJ (rI .own) (q8 k) (k:Int)) ?_)
  ((conv=>whnf);refine Nx.mk (k+1) (by omega) (by omega) ?_)
  rw[Ep];exact wB
 ·obtain rfl:k=n:=by omega
  repeat'(first|refine gD ?_|(conv=>whnf);first|refine Sm.rf ?_)
  (conv=>whnf)
  refine Lp.mk (ι:=Nat) (fun j=>[(0,.hold .one [I ((gu k s j).2)]),(6,.hold .one (aF .own (gu k s j).1)),(8,.hold .one [I (((k:Int) - 1 - j))])]) (fun j=>(j<=k - 1/\j<=k)) (fun j=>k - j) (0) ?_ (⟨Q0 _,Q0 _⟩) fun j hj=>?_
  ·exact wB
  obtain⟨b1,b2,b3⟩:=lg k hs j;by_cases lj:j<k - 1
  ·have hi:(k:Int) - 1 - j=((k - 1 - j:Nat):Int):=by omega
   have hch:=vi (gu k s j).2 (n:=((k - 1 - j:Nat)+1:Int)) (by omega);have c3:=te (gu k s j).2 ((k - 1 - j:Nat)+1:Int) ⟨b2,b3⟩ (by omega);have hd:gu k s (j+1)=(vp (gu k s j).1 (k - 1 - j) (J1 (gu k s j).2 ((k - 1 - j:Nat)+1:Int)).toNat,FN (gu k s j).2):=rfl;rw[hi];generalize gu k s j=p at *;obtain⟨xs,z⟩:=p;simp only at *;generalize k - 1 - j=i at *;have hx1:=ah (xs:=xs) (i:=i) (by omega);have hx2:=ah (xs:=xs) (i:=(J1 z (i+1)).toNat) (by omega);have hy1:=Gu (xs:=xs) (i:=i) (k:=(J1 z (i+1)).toNat) (nth xs (J1 z (i+1)).toNat) (by omega)
   repeat'(first|refine gD ?_|(conv=>whnf);first|refine Sm.rf ?_|refine Cl.mk (c3) ?_|refine Ix.mk (by omega) (aa hx2) ?_|refine Ix.nat (aa hx1) ?_|refine Rw.one rfl (aa hx1) rfl ?_|refine Rw.one rfl (aa hx2) rfl ?_|refine Pu.one rfl rfl (aa hx1) rfl (W0 rfl) rfl ?_|refine Ix.mk (by omega) hy1 ?_|refine Pu.one rfl rfl hy1 rfl (W0 rfl) rfl ?_)
   ((conv=>whnf);refine Nx.mk (j+1) (by omega) (by omega) ?_)
   rw[hd];simp only[aF,Jo];exact wB
  ·obtain rfl:j=k - 1:=by omega
   repeat'(first|refine gD ?_|(conv=>whnf);first|refine Sm.rf ?_)
   rfl
def zJ (b:Int):Nat->Nat
 | 0=>0
 | n+1=>zJ b n+(if aY b (n:Nat)=true then 1 else 0)
theorem zd (b:Int):∀ n,zJ b n<=n
 | 0=>I2 _
 | n+1=>by have:=zd b n;simp only[zJ];split<;>omega
theorem th (b:Int) (hb:b<=9223372036854775807):ao Tryz.prog 112 false [.val none [I b]] .one [I (zJ b 16:Nat)]:=by
 refine fO 15 [] Tryz.func112 rfl ?_
 repeat'(first|refine gO ?_|fail)
 (conv=>whnf)
 refine Lp.mk (ι:=Nat) (fun k=>[(0,.hold .one [I (b)]),(3,.hold .one [I ((zJ b k:Nat):Int)]),(4,.hold .one [I ((k:Nat):Int)])]) (fun k=>k<=16) (fun k=>16 - k) (0) ?_ (Q0 _) fun k hk=>?_
 ·exact wB
 have hc:=zd b k;by_cases lk:k<16
 ·have c1:=hB b (k:Nat) hb
  have hn:zJ b (k+1)=zJ b k+(if aY b (k:Nat)=true then 1 else 0):=rfl;cases e:aY b (k:Nat)<;>rw[e]at c1 hn
  all_goals
   repeat'(first|refine gD ?_|(conv=>whnf);first|refine Cl.mk (c1) ?_)
   ((conv=>whnf);refine Nx.mk (k+1) (by omega) (by omega) ?_)
   rw[hn];exact wB
 ·obtain rfl:k=16:=by omega
  repeat'(first|refine gD ?_|fail)
  rfl
def yk (h:ab) (s:au):Bool:=decide (0<zJ s.Bits 16)&&decide ((aS h s.Page).length=1)
def kr (h:ab):Nat->List au
 | 0=>[]
 | n+1=>if yk h (nth h.Spans n)=true then kr h n++[nth h.Spans n] else kr h n
def lD (h:ab):List au:=kr h h.Spans.length
theorem ue (h:ab):∀ n,(kr h n).length<=n
 | 0=>I2 _
 | n+1=>by have:=ue h n;simp only[kr];split<;>simp<;>omega
theorem o7 (h:ab):∀ {n:Nat},n<=h.Spans.length->∀ s∈kr h n,s∈h.Spans
 | 0,_,s,hs=>by cases hs
 | n+1,hn,s,hs=>by
  simp only[kr]at hs;split at hs
  ·rcases C2.1 hs with hs|hs
   ·exact o7 h (by omega) s hs
   ·rw[X0.1 hs];exact am (by omega)
  ·exact o7 h (by omega) s hs
theorem vV (h:ab) (hs:wY h) (hl:h.Spans.length<=1000) (hp:dG h<=1000) (hb:∀ s∈h.Spans,s.Bits<=9223372036854775807):ao Tryz.prog 38 false [.val (some 24) (ab.enc .imm h)] .one (ci .own (lD h)):=by
 refine fO 42 [(5,16,[13,14,15,16,17,18,19,20,21,22,23,24,25,26,27,28])] Tryz.func38 rfl ?_ (.inr (EQ _))
 repeat'(first|refine gO ?_|fail)
 (conv=>whnf)
 refine Lp.mk (ι:=Nat) (fun k=>[(1,.hold .box (ab.enc .imm h)),(3,.hold .one (ci .own (kr h k))),(4,.hold .one [I ((k:Nat):Int)])]) (fun k=>k<=h.Spans.length) (fun k=>h.Spans.length - k) (0) ?_ (Q0 _) fun k hk=>?_
 ·exact wB
 have hml:=ue h k;by_cases lk:k<h.Spans.length
 ·have hx:=ah lk
  have c1:=th (nth h.Spans k).Bits (hb _ (am lk));have c2:=g9 h (nth h.Spans k).Page hs;have hfl:=gn h (nth h.Spans k).Page;have hcl:=zd (nth h.Spans k).Bits 16;have hn:kr h (k+1)=if yk h (nth h.Spans k)=true then kr h k++[nth h.Spans k] else kr h k:=rfl
  by_cases e1:0<zJ (nth h.Spans k).Bits 16
  ·by_cases e2:(aS h (nth h.Spans k).Page).length=1
   ·rw[if_pos (by unfold yk;simp[e1,e2])]at hn
    repeat'(first|refine gA ?_|(conv=>whnf);first|refine Ix.nat (aa hx) ?_|refine Cl.mk (c1) ?_|refine Cl.eq (c2) ⟨⟨rfl,rfl⟩,⟨rfl,rfl⟩,trivial⟩ ?_|refine Cl.mk (c2) ?_|refine Sm.rf ?_|refine Ap.sm (aO fun _=>rfl) rfl (by simp;omega) (by decide) (hJ (au.enc .own) (kr h k) (nth h.Spans k)) ?_)
    ((conv=>whnf);refine Nx.mk (k+1) (by omega) (by omega) ?_)
    rw[hn];exact wB
   ·rw[if_neg (by unfold yk;simp[e2])]at hn
    repeat'(first|refine gA ?_|(conv=>whnf);first|refine Ix.nat (aa hx) ?_|refine Cl.mk (c1) ?_|refine Cl.mk (c2) ?_|refine Sm.rf ?_)
    ((conv=>whnf);refine Nx.mk (k+1) (by omega) (by omega) ?_)
    rw[hn];exact wB
  ·rw[if_neg (by unfold yk;simp[e1])]at hn
   repeat'(first|refine gD ?_|(conv=>whnf);first|refine Ix.nat (aa hx) ?_|refine Cl.mk (c1) ?_|refine Cl.mk (c2) ?_|refine Sm.rf ?_)
   ((conv=>whnf);refine Nx.mk (k+1) (by omega) (by omega) ?_)
   rw[hn];exact wB
 ·obtain rfl:k=h.Spans.length:=by omega
  repeat'(first|refine gD ?_|fail)
  rfl
def Ai (s:au) (c:Nat):Bool:=aY s.Bits (((c:Nat):Int) / csz s.Class)
def tT (s:au) (n:Nat):List Int:=((List.range n).filter (Ai s)).map fun(i:Nat)=>(i:Int)
theorem KS {s:au} {n:Nat} (h:Ai s n=true):tT s (n+1)=tT s n++[(n:Int)]:=by
 unfold tT;rw[List.range_succ,List.filter_append,List.map_append];simp[h]
theorem MG {s:au} {n:Nat} (h:Ai s n=false):tT s (n+1)=tT s n:=by
 unfold tT;rw[List.range_succ,List.filter_append,List.map_append];simp[h]
theorem qB (s:au) (n:Nat):(tT s n).length<=n:=by
 unfold tT;rw[U0];exact W3 (List.length_filter_le _ _) (by simp)
theorem Mb {s:au} (hs:bf s=true) {c:Nat} (hc:c<16):0<=((c:Nat):Int) / csz s.Class/\((c:Nat):Int) / csz s.Class<=15:=by
 have h1:=aG hs;have h2:csz s.Class=1\/csz s.Class=2\/csz s.Class=4\/csz s.Class=8:=cj (by omega);rcases h2 with e|e|e|e<;>rw[e]<;>omega
theorem nh (s:au) (hs:bf s=true):ao Tryz.prog 394 false [.val (some 3) (au.enc .imm s)] .one (aF .own (tT s 16)):=by
 have hk:=fD s;rw[hs]at hk;have hc:=aG hs;have hz:=cj hc.2.2;refine fO 27 [(5,7,[14,15,16,17,18,19,20])] Tryz.func394 rfl ?_ (.inr (bK _))
 repeat'(first|refine gO ?_|fail)
 (conv=>whnf)
 refine Lp.mk (ι:=Nat) (fun i=>[(1,.hold .box (au.enc .imm s)),(3,.hold .one (aF .own (tT s i))),(4,.hold .one [I ((i:Nat):Int)])]) (fun i=>i<=16) (fun i=>16 - i) (0) ?_ (Q0 _) fun i hi=>?_
 ·exact wB
 have hle:=qB s i;by_cases li:i<16
 ·have hsl:=Mb hs li
  have q1:IntKind.i64.wrap (((i:Nat):Int).tdiv (csz s.Class))=((i:Nat):Int) / csz s.Class:=by rw[kT (by omega)];exact dS (by omega) (by omega)
  have h2:=hB s.Bits (((i:Nat):Int) / csz s.Class) (eH hs).2;cases e:Ai s i
  ·rw[show aY s.Bits (((i:Nat):Int) / csz s.Class)=false from e]at h2
   repeat'(first|refine gD ?_|(conv=>whnf);first|refine Cl.mk (hk) ?_|refine Cl.mk (dv _) ?_|refine Cd.mk (by omega) ?_|refine Wr.mk q1 ?_|refine Cl.mk (h2) ?_)
   ((conv=>whnf);refine Nx.mk (i+1) (by omega) (by omega) ?_)
   rw[MG e];exact wB
  ·rw[show aY s.Bits (((i:Nat):Int) / csz s.Class)=true from e]at h2
   repeat'(first|refine gD ?_|(conv=>whnf);first|refine Cl.mk (hk) ?_|refine Cl.mk (dv _) ?_|refine Cd.mk (by omega) ?_|refine Wr.mk q1 ?_|refine Cl.mk (h2) ?_|refine Ap.mk cE (fun r hr=>by rw[X0.1 hr];rfl) (by simp[aW,d5]) (by simp;omega) (by simp only[U0];exact wK (by simp;omega) (by decide)) rfl ?_)
   ((conv=>whnf);refine Nx.mk (i+1) (by omega) (by omega) ?_)
   rw[KS e]
   (repeat'(first|exact trivial|rfl|exact And.intro rfl (And.intro (R0 (C.s d3.own) (by simp[rI])) trivial)|refine And.intro ?_ ?_))
 ·obtain rfl:i=16:=by omega
  repeat'(first|refine gD ?_|(conv=>whnf);first|refine Cl.mk (hk) ?_)
  rfl
structure fy where
 A:Int
 B:Int
deriving DecidableEq,Inhabited
def fy.enc (_:d3) (x:fy):List C:=[I x.A,I x.B]
def iD (o:d3) (x:List fy):List C:=[.s o (x.map (fy.enc o))]
theorem DQ (x:List fy):gG (iD .own x):=⟨⟨.inl fun h=>(by cases h),aZ _ _ fun _ _=>⟨trivial,trivial,trivial⟩⟩,trivial⟩
def Ma (i:Int) (p:fy):Bool:=decide (p.A=i) || decide (p.B=i)
def d2 (a b:au):cg:=if(tT a 16).length<(tT b 16).length then⟨b.Page,a.Page,tT a 16⟩ else⟨a.Page,b.Page,tT b 16⟩
theorem xl (a b:au) (hm:meshable a b=true) (ha:bf a=true) (hb:bf b=true):ao Tryz.prog 366 false [.val (some 3) (au.enc .imm a),.val (some 3) (au.enc .imm b)] (.tup [some 3,none]) (cg.enc .own (d2 a b)++[B true]):=by
 have c1:=kE a b;rw[hm]at c1;have c2:=nh a ha;have c3:=nh b hb;have h1:=qB a 16;have h2:=qB b 16;unfold d2;split
 ·refine fO 27 [(3,6,[11,12,13,14,15,16]),(5,6,[20,21,22,23,24,25])] Tryz.func366 rfl ?_ (.inr (aK (cg.enc_fr _) ⟨trivial,trivial⟩))
  repeat'(first|refine gD ?_|(conv=>whnf);first|refine Cl.mk (c1) ?_|refine Cl.mk (c2) ?_|refine Cl.mk (c3) ?_|refine Sm.rf ?_)
  rfl
 ·refine fO 27 [(3,6,[11,12,13,14,15,16]),(5,6,[20,21,22,23,24,25])] Tryz.func366 rfl ?_ (.inr (aK (cg.enc_fr _) ⟨trivial,trivial⟩))
  repeat'(first|refine gD ?_|(conv=>whnf);first|refine Cl.mk (c1) ?_|refine Cl.mk (c2) ?_|refine Cl.mk (c3) ?_|refine Sm.rf ?_)
  rfl
def vm (p:cg):co:=⟨p,0,0⟩
theorem BQ (p:cg) (hp:ew p=true) (hs:cg.sml p):ao Tryz.prog 367 false [.val (some 3) (cg.enc .imm p)] (.tup [some 5,none]) (co.enc .own (vm p)++[B true]):=by
 have c1:=sG p hs;rw[hp]at c1;have c2:=qa (vm p) hs;refine fO 11 [] Tryz.func367 rfl ?_ (.inr (aK (co.enc_fr _) ⟨trivial,trivial⟩))
 repeat'(first|refine gO ?_|(conv=>whnf);first|refine Cl.mk (c1) ?_|refine Cl.mk (c2) ?_)
 rfl
theorem rK (n:Nat) {s:Int} (hs:0<=s/\s<=1073741823):∀ {j:Nat},j<=n - 1->∀ x∈(gu n s j).1,0<=x/\x<n
 | 0,_,x,hx=>by
  simp only[gu,q8,P3,List.mem_range]at hx;obtain⟨i,hi,rfl⟩:=hx;omega
 | j+1,hj,x,hx=>by
  have hl:=(lg n hs j).1;have ih:=rK n hs (j:=j) (by omega);have hc:=vi (gu n s j).2 (n:=((n - 1 - j:Nat)+1:Int)) (by omega);simp only[gu,vp]at hx;rcases List.mem_or_eq_of_mem_set hx with hx|rfl
  ·rcases List.mem_or_eq_of_mem_set hx with hx|rfl
   ·exact ih x hx
   ·exact ih _ (am (by omega))
  ·exact ih _ (am (by omega))
def tkn (out:List fy) (a:Int):Bool:=out.any (Ma a)
def stp (ls:List au) (p:List Int) (t i:Nat) (out:List fy):List fy:=
 if tkn out (nth p i)=false/\tkn out (nth p (p.length / 2+(i+t) % (p.length - p.length / 2)))=false/\meshable (nth ls (nth p i).toNat) (nth ls (nth p (p.length / 2+(i+t) % (p.length - p.length / 2))).toNat)=true then out++[⟨nth p i,nth p (p.length / 2+(i+t) % (p.length - p.length / 2))⟩] else out
def tl (ls:List au) (p:List Int) (t:Nat) (out:List fy):Nat->List fy
 | 0=>out
 | i+1=>stp ls p t i (tl ls p t out i)
def pe (ls:List au) (p:List Int):Nat->List fy
 | 0=>[]
 | t+1=>tl ls p t (pe ls p t) (p.length / 2)
theorem Lz (ls:List au) (p:List Int) (t i:Nat) (out:List fy):(stp ls p t i out).length<=out.length+1:=by unfold stp;split<;>simp
theorem wg (ls:List au) (p:List Int) (t:Nat) (out:List fy):∀ i,(tl ls p t out i).length<=out.length+i
 | 0=>I2 _
 | i+1=>by have h1:=wg ls p t out i;have h2:=Lz ls p t i (tl ls p t out i);simp only[tl];omega
theorem B6 (ls:List au) (p:List Int):∀ t,(pe ls p t).length<=t*(p.length / 2)
 | 0=>Q0 _
 | t+1=>by have h1:=B6 ls p t;have h2:=wg ls p t (pe ls p t) (p.length / 2);simp only[pe];rw[Nat.add_mul];omega
def lP (ls:List au) (s:Int):List fy:=pe ls (shuf ls.length s).1 3
def m9 (n:Nat) (out:List fy):List Bool:=(List.range n).map fun(i:Nat)=>tkn out (i:Nat)
theorem FR {n:Nat} {out:List fy} {a:Int} (h:0<=a/\a<n):(m9 n out)[a.toNat]? = some (tkn out a):=by
 unfold m9;rw[O2,List.getElem?_range (by omega)];show some (tkn out ((a.toNat:Nat):Int))=_;rw[Int.toNat_of_nonneg h.1]
theorem Jr {n:Nat} {out:List fy} {a b:Int} (ha:0<=a/\a<n) (hb:0<=b/\b<n):m9 n (out++[⟨a,b⟩])=((m9 n out).set a.toNat true).set b.toNat true:=by
 unfold m9;apply List.ext_getElem?;intro i;by_cases hi:i<n
 ·rw[O2,List.getElem?_range hi]
  by_cases e2:b.toNat=i
  ·subst e2
   rw[U2 (by simp;omega)];simp only[Option.map_some,tkn,List.any_append,List.any_cons,List.any_nil,Ma];rw[Int.toNat_of_nonneg hb.1];simp
  ·rw[List.getElem?_set_ne e2]
   by_cases e1:a.toNat=i
   ·subst e1
    rw[U2 (by simp;omega)];simp only[Option.map_some,tkn,List.any_append,List.any_cons,List.any_nil,Ma];rw[Int.toNat_of_nonneg ha.1];simp
   ·rw[List.getElem?_set_ne e1,O2,List.getElem?_range hi]
    simp only[Option.map_some,tkn,List.any_append,List.any_cons,List.any_nil,Ma];rw[P0 (by omega),P0 (by omega)];simp
 ·rw[U1 (by simp;omega),U1 (by simp;omega)]
theorem L8 (n:Nat):(m9 n []).map (rB .own)=List.replicate n [B false]:=by
 unfold m9;rw[List.map_map];apply List.ext_getElem?;intro i;rw[O2];by_cases hi:i<n
 ·rw[List.getElem?_range hi,List.getElem?_replicate];simp[hi];rfl
 ·rw[U1 (by simp;omega),List.getElem?_replicate];simp[hi]
theorem Hv {xs:List Bool} {i k:Nat} (v:Bool) (hk:k<xs.length):((xs.map (rB .own)).set i (rB .own v))[k]? = some (rB .own (nth (xs.set i v) k)):=by
 rw[<-List.map_set];exact aa (ah (by rw[Z0];exact hk))
theorem tE (ls:List au) (s:Int) (hs:0<=s/\s<=1073741823) (hn:ls.length<=16):ao Tryz.prog 365 false [.val none (ci .imm ls),.val none [I s],.val none [I 3]] (.tup [none,none]) (iD .own (lP ls s)++[I (shuf ls.length s).2]):=by
 have c1:=aD s 0 1073741823;rw[O0 hs]at c1;have c2:=aD 3 0 16;rw[O0 (by omega)]at c2;have c3:=xA ls.length s hs (by omega);have hpl:=(lg ls.length hs (ls.length - 1)).1;have hpm:=rK ls.length hs (I2 _);unfold lP;change (shuf ls.length s).1.length=_ at hpl;change ∀ x∈(shuf ls.length s).1,_ at hpm
 have hfr:gG (iD .own (pe ls (shuf ls.length s).1 3)++[I (shuf ls.length s).2]):=aK (DQ _) ⟨trivial,trivial⟩;generalize shuf ls.length s=q at *;obtain⟨p,z⟩:=q;simp only at *;have htd:((p.length:Nat):Int).tdiv 2=((p.length / 2:Nat):Int):=by rw[Int.tdiv_eq_ediv_of_nonneg (by omega)];omega
 have hoo:C.s d3.own ((m9 ls.length []).map (rB .own))=C.s d3.own (List.replicate ls.length [B false]):=by rw[L8]
 have hpi:∀ i:Nat,i<p.length->0<=nth p i/\nth p i<ls.length:=fun i hi=>hpm _ (am hi)
 refine fO 110 [(15,21,[73,74,75,76,77,78,79,80,81,82,83,84,85,86,87,88,89,90,91,92,93])] Tryz.func365 rfl ?_ (.inr hfr)
 repeat'(first|refine gD ?_|(conv=>whnf);first|with_reducible refine Wr.mk ((R0 _ htd).trans (dS (by omega) (by omega))) ?_|refine Cl.mk (c1) ?_|refine Cl.mk (c2) ?_|refine Cl.mk (c3) ?_|refine Cd.mk (by decide) ?_|refine Mk.mk ls.length rfl rfl (by omega) (wK (by omega) (by decide)) rfl ?_)
 (conv=>whnf)
 refine Lp.mk (ι:=Nat) (fun t=>[(0,.hold .one (ci .imm ls)),(2,.hold .one [I (3)]),(8,.hold .one (iD .own (pe ls p t))),(9,.hold .one (aF .own p)),(10,.hold .one [I (z)]),(11,.hold .one [I (((p.length / 2):Nat):Int)]),(12,.hold .one (w6 .own (m9 ls.length (pe ls p t)))),(13,.hold .one [I ((t:Nat):Int)])]) (fun t=>t<=3) (fun t=>3 - t) (0) ?_ (Q0 _) fun t ht=>?_
 ·repeat'(first|exact trivial|rfl |exact nN hoo|refine And.intro ?_ ?_|(exact Br (by first|omega|(simp only;omega)|(simp;omega))))
 have ol:=B6 ls p t;have ol2:t*(p.length / 2)<=3*8:=Nat.mul_le_mul ht (by omega);by_cases lt:t<3
 ·repeat'(first|refine gD ?_|fail)
  (conv=>whnf)
  refine Lp.mk (ι:=Nat) (fun j=>[(0,.hold .one (ci .imm ls)),(2,.hold .one [I (3)]),(8,.hold .one (iD .own (tl ls p t (pe ls p t) j))),(9,.hold .one (aF .own p)),(10,.hold .one [I (z)]),(11,.hold .one [I (((p.length / 2):Nat):Int)]),(12,.hold .one (w6 .own (m9 ls.length (tl ls p t (pe ls p t) j)))),(13,.hold .one [I ((t:Nat):Int)]),(14,.hold .one [I ((j:Nat):Int)])]) (fun j=>j<=p.length / 2) (fun j=>p.length / 2 - j) (0) ?_ (Q0 _) fun j hj=>?_
  ·repeat'(first|exact trivial|rfl |exact nN hoo|refine And.intro ?_ ?_|(exact Br (by first|omega|(simp only;omega)|(simp;omega))))
  have rl:=wg ls p t (pe ls p t) j;by_cases lj:j<p.length / 2
  ·have hmod:(j+t) % (p.length - p.length / 2)<p.length - p.length / 2:=Nat.mod_lt _ (by omega)
   have hev:((j:Int)+t).tmod ((p.length:Int) - (p.length / 2:Nat))=(((j+t) % (p.length - p.length / 2):Nat):Int):=by
    rw[fH (by omega),Int.natCast_emod];congr 1;omega
   have hn2:tl ls p t (pe ls p t) (j+1)=stp ls p t j (tl ls p t (pe ls p t) j):=rfl;unfold stp at hn2;generalize tl ls p t (pe ls p t) j=out at *;have hk2:p.length / 2+(j+t) % (p.length - p.length / 2)<p.length:=by omega
   generalize hk:(j+t) % (p.length - p.length / 2)=k at *;have hxa:=ah (xs:=p) (i:=j) (by omega);have hxb:=ah (xs:=p) (i:=p.length / 2+k) hk2;have ba:=hpi j (by omega);have bb:=hpi _ hk2;generalize nth p j=a at *;generalize nth p (p.length / 2+k)=b at *;have ua:=FR (out:=out) ba;have ub:=FR (out:=out) bb;have sa:=ah (xs:=ls) (i:=a.toNat) (by omega);have sb:=ah (xs:=ls) (i:=b.toNat) (by omega);have c5:=kE (nth ls a.toNat) (nth ls b.toNat);have ub2:=Hv (xs:=m9 ls.length out) (i:=a.toNat) (k:=b.toNat) true (by simp[m9];omega);cases e1:tkn out a<;>cases e2:tkn out b<;>cases e3:meshable (nth ls a.toNat) (nth ls b.toNat)
   all_goals
    rw[e1]at ua;rw[e2]at ub;rw[e3]at c5;rw[e1,e2,e3]at hn2;simp only[and_true,true_and,if_true,Bool.false_eq_true,Bool.true_eq_false,and_false,false_and,if_false]at hn2
    repeat'(first|refine gD ?_|(conv=>whnf);first|refine Ev.mk hev ?_|refine Cd.mk (by omega) ?_|refine Ix.nat (aa hxa) ?_|refine Ix.mk (by omega) (aa hxb) ?_|refine Ix.mk ba.1 (aa ua) ?_|refine Ix.mk bb.1 (aa ub) ?_|refine Ix.mk ba.1 (aa sa) ?_|refine Ix.mk bb.1 (aa sb) ?_|refine Rw.one rfl (aa hxa) rfl ?_|refine Rw.one rfl (aa hxb) rfl ?_|refine Rw.one rfl (aa ua) rfl ?_|refine Rw.one rfl (aa ub) rfl ?_|refine Cl.mk (c5) ?_|refine Sm.rf ?_|refine Pu.one rfl rfl (aa ua) rfl (W0 rfl) rfl ?_|refine Ix.mk bb.1 ub2 ?_|refine Pu.one rfl rfl ub2 rfl (W0 rfl) rfl ?_|refine Ap.sm (aO fun _=>rfl) rfl (by simp;omega) (by decide) (hJ (fy.enc .own) out ⟨a,b⟩) ?_)
    ((conv=>whnf);refine Nx.mk (j+1) (by omega) (by omega) ?_)
    rw[hn2]
    first|(rw[Jr ba bb];simp only[w6,List.map_set])|skip
    exact wB
  ·obtain rfl:j=p.length / 2:=by omega
   repeat'(first|refine gD ?_|fail)
   ((conv=>whnf);refine Nx.mk (t+1) (by omega) (by omega) ?_;(exact wB))
 ·obtain rfl:t=3:=by omega
  repeat'(first|refine gD ?_|fail)
  rfl
theorem EG (x:List fy):d9 (iD .own x)=iD .imm x:=by simp[d9,iD,fy.enc,<-bW,Function.comp_def]
theorem ao.fzR {P:Program} {f:Nat} {sh:Bool} {A:List RA} {k:Kd} {rcs:List C} (h:ao P f sh A k rcs):ao P f sh A k (d9 rcs):=by
 obtain⟨h1,h2⟩:=h;refine⟨h1,fun w S vs hS hA=>(h2 w S vs hS hA).mono fun e w1 hv=>?_⟩;obtain⟨v,he,hk,X,S1,a1,a2,a3,a4,a5⟩:=hv;refine⟨v,he,hk,NO,fun b o=>S1 b o\/X b o,fun _ _ h=>h.elim,fun b o hb=>?_,fun _ _ h=>h.elim,by rw[bW,U0];exact a4,a5.freeze⟩;rcases hb with hb|hb
 ·exact a2 b o hb
 ·exact .inr (a1 b o hb)
structure Lr (ls:List au) (q:fy):Prop where
 a:0<=q.A/\q.A<ls.length
 b:0<=q.B/\q.B<ls.length
 m:meshable (nth ls q.A.toNat) (nth ls q.B.toNat)=true
theorem F6 {ls:List au} {p:List Int} (hp:∀ x∈p,0<=x/\x<ls.length) (t:Nat) {out:List fy} (ho:∀ q∈out,Lr ls q):∀ {i:Nat},i<=p.length / 2->∀ q∈tl ls p t out i,Lr ls q
 | 0,_=>ho
 | i+1,hi=>fun q hq=>by
  have ih:=F6 hp t ho (i:=i) (by omega);simp only[tl,stp]at hq;split at hq
  ·rename_i hc
   rcases C2.1 hq with hq|hq
   ·exact ih q hq
   ·obtain rfl:=X0.1 hq
    have hmod:(i+t) % (p.length - p.length / 2)<p.length - p.length / 2:=Nat.mod_lt _ (by omega);exact⟨hp _ (am (by omega)),hp _ (am (by omega)),hc.2.2⟩
  ·exact ih q hq
theorem FG {ls:List au} {p:List Int} (hp:∀ x∈p,0<=x/\x<ls.length):∀ t,∀ q∈pe ls p t,Lr ls q
 | 0=>fun q hq=>by cases hq
 | t+1=>F6 hp t (FG hp t) (I2 _)
theorem pD (ls:List au) {s:Int} (hs:0<=s/\s<=1073741823):∀ q∈lP ls s,Lr ls q:=FG (rK ls.length hs (I2 _)) 3
theorem LU (s:au) (n:Nat):(tT s n).Pairwise (· < ·):=by
 unfold tT;rw[List.pairwise_map];exact(List.pairwise_lt_range.sublist List.filter_sublist).imp fun h=>by omega
theorem M9 {s:au} {n:Nat} : ∀ z∈tT s n,0<=z/\z<n:=fun z hz=>by
 unfold tT at hz;simp only[P3,Q3,List.mem_range]at hz;obtain⟨c,⟨h1,-⟩,rfl⟩:=hz;omega
theorem uh (s:au):cH (tT s 16).length (lY (tT s 16))=true:=by
 refine cn.2 fun j hj=>?_
 have h1:=M9 _ (am hj);unfold lY;refine O0 ⟨by omega,by omega,?_⟩;by_cases e:j=0
 ·exact .inl e
 ·refine .inr ?_
  have hp:=List.pairwise_iff_getElem.1 (LU s 16) (j - 1) j (by omega) hj (by omega);rw[show nth (tT s 16) (j - 1)=(tT s 16)[j - 1] from bq (Q1 (by omega)),show nth (tT s 16) j=(tT s 16)[j] from bq (Q1 hj)];exact hp
theorem rQ {a b:au} (hm:meshable a b=true):ew (d2 a b)=true/\bf a=true/\bf b=true:=by
 unfold meshable at hm;simp only[I0,C0]at hm;have h1:=aG hm.1.1;have h2:=aG hm.1.2;refine⟨?_,hm.1⟩;unfold d2 ew;split
 ·simp only[I0,C0];exact⟨uh a,by omega⟩
 ·simp only[I0,C0];exact⟨uh b,by omega⟩
theorem DX (a b:au):cg.sml (d2 a b):=by
 have h1:=qB a 16;have h2:=qB b 16;unfold d2 cg.sml qT;split<;>simp only<;>omega
def bL (h:ab):List au:=(lD h).take 16
def started (h:ab):ab × Bool:=match lP (bL h) h.Seed with
 | []=>({h with Seed:=(shuf (bL h).length h.Seed).2},false)
 | q::_=>({h with Seed:=(shuf (bL h).length h.Seed).2,Meshing:=true,Job:=vm (d2 (nth (bL h) q.A.toNat) (nth (bL h) q.B.toNat))},true)
theorem Jk {h:ab} {E:List Int} (hi:bm h E):h.Spans.length<=32/\dG h<=32/\wY h/\∀ s∈h.Spans,s.Bits<=9223372036854775807:=by
 have hl:=hi.lens;refine⟨hl.spans,hl.ents,?_,fun s hs=>by have:=eg (hi.L.sok s hs);omega⟩;have:=(bp hi.ker).1.2;exact this
theorem EO (h:ab):(bL h).length<=16:=by unfold bL;rw[C1];omega
theorem MQ (x:List fy) (z:Int):d9 (iD .own x++[I z])=iD .imm x++[I z]:=by
 have h:=EG x;rw[bW]at h |-;rw[List.map_append,h];simp[fz]
theorem MW (h:ab):(bL h).map (au.enc .imm)=((lD h).map (au.enc .imm)).take 16:=I3
theorem ED (p:cg) (hp:ew p=true) (hs:cg.sml p):ao Tryz.prog 367 false [.val (some 3) (cg.enc .imm p)] (.tup [some 5,none]) (vU (vm p)++[B true]):=by
 have h:=(BQ p hp hs).fzR;have e:d9 (co.enc .own (vm p)++[B true])=vU (vm p)++[B true]:=by
  have e1:=co.enc_fz (vm p);rw[bW]at e1 |-;rw[List.map_append,e1];simp[fz,co.enc,vU]
 rwa [e]at h
theorem xh (h:ab) (hi:bm h []):aT Tryz.prog 307 false [.ptr (bu h)] [.ptr (bu (started h).1)] .one [B (started h).2]:=by
 obtain⟨w1,w2,w3,w4⟩:=Jk hi;have hnum:=hi.nums;unfold bU at hnum;rw[C0]at hnum;have c1:=(vV h w3 (by omega) (by omega) w4).fzR;rw[tX]at c1;have hll:=EO h;have c2:=(tE (bL h) h.Seed ⟨hnum.1,hnum.2.1⟩ hll).fzR;rw[MQ]at c2;have hpo:=pD (bL h) ⟨hnum.1,hnum.2.1⟩;have hml:=ue h h.Spans.length;have hmle:(lD h).length<=32:=by unfold lD;omega
 have hse:=MW h;unfold started;cases hp:lP (bL h) h.Seed with
 | nil=>
  rw[hp]at c2;by_cases hl:16<(lD h).length
  ·refine fM 62 [] [(8,275,[34,35,36,37,38,39,40,41,42,43,44,45,46,47,48,33,49,50,6,0,1,2,3,4,5,6,7,8,9,10,11,12,13,14,15,16,17,18,19,1017,20])] [(0,0)] Tryz.func307 rfl (fun u q=>?_)
   repeat'(first|refine gD ?_|(conv=>whnf);first|refine Sm.rf ?_|refine Cl.eq (c1) ⟨⟨rfl,bA h⟩,trivial⟩ ?_|refine Cl.mk (c2) ?_|refine Sl.pre 16 rfl (by rw[U0];omega) (aO fun _=>rfl) hse ?_)
   refine aR.mk rfl rfl ?_;exact wC
  ·have he:bL h=lD h:=by unfold bL;exact List.take_of_length_le (by omega)
   rw[he]at c2;refine fM 62 [] [(8,275,[34,35,36,37,38,39,40,41,42,43,44,45,46,47,48,33,49,50,6,0,1,2,3,4,5,6,7,8,9,10,11,12,13,14,15,16,17,18,19,1017,20])] [(0,0)] Tryz.func307 rfl (fun u q=>?_);rw[he]
   repeat'(first|refine gD ?_|(conv=>whnf);first|refine Sm.rf ?_|refine Cl.eq (c1) ⟨⟨rfl,bA h⟩,trivial⟩ ?_|refine Cl.mk (c2) ?_)
   refine aR.mk rfl rfl ?_;exact wC
 | cons q qs=>
  rw[hp]at c2 hpo;obtain⟨k1,k2,k3⟩:=hpo q (I1 ..);obtain⟨p1,p2,p3⟩:=rQ k3;have c3:=xl _ _ k3 p2 p3;have c4:=ED _ p1 (DX _ _);have hxa:=ah (xs:=bL h) (i:=q.A.toNat) (by omega);have hxb:=ah (xs:=bL h) (i:=q.B.toNat) (by omega);have hq0:(q::qs)[0]? = some q:=rfl;by_cases hl:16<(lD h).length
  ·refine fM 62 [] [(8,275,[34,35,36,37,38,39,40,41,42,43,44,45,46,47,48,33,49,50,6,0,1,2,3,4,5,6,7,8,9,10,11,12,13,14,15,16,17,18,19,1017,20])] [(0,0)] Tryz.func307 rfl (fun u r=>?_)
   repeat'(first|refine gD ?_|(conv=>whnf);first|with_reducible refine Bf.D (fun hq=>absurd hq (by simp)) (fun hq=>?_)|refine Sm.rf ?_|refine Cl.eq (c1) ⟨⟨rfl,bA h⟩,trivial⟩ ?_|refine Cl.mk (c2) ?_|refine Sl.pre 16 rfl (by rw[U0];omega) (aO fun _=>rfl) hse ?_|refine Ix.mk (by decide) (aa hq0) ?_|refine Ix.mk k1.1 (aa hxa) ?_|refine Ix.mk k2.1 (aa hxb) ?_|refine Cl.mk (c3) ?_|refine Cl.eq (c4) ⟨⟨rfl,cg.enc_fz _⟩,trivial⟩ ?_|refine Sm.rf ?_)
   refine aR.mk rfl rfl ?_;exact wC
  ·have he:bL h=lD h:=by unfold bL;exact List.take_of_length_le (by omega)
   rw[he]at c2 c3 c4 hxa hxb;refine fM 62 [] [(8,275,[34,35,36,37,38,39,40,41,42,43,44,45,46,47,48,33,49,50,6,0,1,2,3,4,5,6,7,8,9,10,11,12,13,14,15,16,17,18,19,1017,20])] [(0,0)] Tryz.func307 rfl (fun u r=>?_);rw[he]
   repeat'(first|refine gD ?_|(conv=>whnf);first|with_reducible refine Bf.D (fun hq=>absurd hq (by simp)) (fun hq=>?_)|refine Sm.rf ?_|refine Cl.eq (c1) ⟨⟨rfl,bA h⟩,trivial⟩ ?_|refine Cl.mk (c2) ?_|refine Ix.mk (by decide) (aa hq0) ?_|refine Ix.mk k1.1 (aa hxa) ?_|refine Ix.mk k2.1 (aa hxb) ?_|refine Cl.mk (c3) ?_|refine Cl.eq (c4) ⟨⟨rfl,cg.enc_fz _⟩,trivial⟩ ?_|refine Sm.rf ?_)
   refine aR.mk rfl rfl ?_;exact wC
def dh (k:af):af:={k with Calls:=k.Calls+1}
def refd (k:af):Bool:=decide (k.Calls∈k.Refuse)
def uV (k:af) (p:Int) (m:Int):af:={k with Machine:=⟨k.Machine.Frames,⟨k.Machine.Table.Entries.set p.toNat {nth k.Machine.Table.Entries p.toNat with Mode:=m}⟩⟩}
def jB (k:af) (p m:Int):af × Bool:=if refd k=true then(dh k,false) else(uV (dh k) p m,true)
theorem Hh (k:af) (p m:Int):af.enc .own (uV k p m)=(af.enc .own k).set 2 (.s .own ((k.Machine.Table.Entries.map (bj.enc .own)).set p.toNat (bj.enc .own {nth k.Machine.Table.Entries p.toNat with Mode:=m}))):=by
 simp[af.enc,uV,List.map_set]
theorem row16 {k:af} (hk:a8 k=true) {f:Nat} (hf:f<k.Machine.Frames.Cells.length):(nth k.Machine.Frames.Cells f).length=16:=by
 have:=(aU.1 (aB.1 hk).2.1).2.2.2 f hf;unfold gM at this;simp only[I0,C0]at this;omega
def setCell (k:af) (f:Nat) (c v:Int):af:={k with Machine:=⟨⟨k.Machine.Frames.Cells.set f ((nth k.Machine.Frames.Cells f).set c.toNat v),k.Machine.Frames.Used⟩,k.Machine.Table⟩}
theorem AR (k:af) (f:Nat) (c v:Int):af.enc .own (setCell k f c v)=(af.enc .own k).set 0 (.s .own ((k.Machine.Frames.Cells.map (aF .own)).set f [.s .own (((nth k.Machine.Frames.Cells f).map (rI .own)).set c.toNat [I v])])):=by
 simp[af.enc,setCell,List.map_set,aF,rI]
def mg (k:af) (p:Int):Nat:=(ar k.Machine.Table p).Frame.toNat
def xM (k:af) (a b c:Int):af:=setCell k (mg k b) c (nth (nth k.Machine.Frames.Cells (mg k a)) c.toNat)
def Mi (k:af) (a b c:Int):Nat->af
 | 0=>k
 | _+1=>xM k a b c
def vA (k:af) (p:Nat) (e:bj):af:={k with Machine:=⟨k.Machine.Frames,⟨k.Machine.Table.Entries.set p e⟩⟩}
theorem Kj (k:af) (p:Nat) (e:bj):af.enc .own (vA k p e)=(af.enc .own k).set 2 (.s .own ((k.Machine.Table.Entries.map (bj.enc .own)).set p (bj.enc .own e))):=by
 simp[af.enc,vA,List.map_set]
theorem Kv {k:af} (p:Nat) (e:bj) (h:aE.sml k.Machine.Table):aE.sml (vA k p e).Machine.Table:=by
 refine⟨?_,fun x _=>trivial⟩;show(k.Machine.Table.Entries.set p e).length<=_;rw[Z0];exact h.1
def zo (k:af) (p o:Int):af × Bool:=if refd k=true then(dh k,false) else(gk (vA (dh k) p.toNat ⟨2,(nth k.Machine.Table.Entries o.toNat).Frame⟩) (nth k.Machine.Table.Entries p.toNat).Frame,true)
def kL (m:aP) (a v:Int):aP × Int:=
 if(ar m.Table (a / 16)).Mode=0 then(m,1) else if(ar m.Table (a / 16)).Mode=1 then(m,2) else
 (⟨⟨m.Frames.Cells.set (ar m.Table (a / 16)).Frame.toNat ((nth m.Frames.Cells (ar m.Table (a / 16)).Frame.toNat).set (a % 16).toNat v),m.Frames.Used⟩,m.Table⟩,0)
theorem En (m:aP) (f:Nat) (c v:Int):aP.enc .own ⟨⟨m.Frames.Cells.set f ((nth m.Frames.Cells f).set c.toNat v),m.Frames.Used⟩,m.Table⟩ = (aP.enc .own m).set 0 (.s .own ((m.Frames.Cells.map (aF .own)).set f [.s .own (((nth m.Frames.Cells f).map (rI .own)).set c.toNat [I v])])):=by
 simp[aP.enc,List.map_set,aF,rI]
def jmay (k:af) (j:co):Bool:=(a8 k&&decide (k.Calls≠100000))&&(iR j&&decide ((ar k.Machine.Table j.Plan.Keep).Mode≠0/\(ar k.Machine.Table j.Plan.Move).Mode≠0/\(ar k.Machine.Table j.Plan.Keep).Frame≠(ar k.Machine.Table j.Plan.Move).Frame))
def jstep (k:af) (j:co):af × co:=
 if j.Phase=0 then((jB k j.Plan.Move 1).1,{j with Phase:=if(jB k j.Plan.Move 1).2=true then 1 else 5})
 else if j.Phase=1 then(if j.Next=j.Plan.Cells.length then(k,{j with Phase:=2}) else(xM k j.Plan.Move j.Plan.Keep (nth j.Plan.Cells j.Next.toNat),{j with Next:=j.Next+1}))
 else if j.Phase=2 then((zo k j.Plan.Move j.Plan.Keep).1,{j with Phase:=if(zo k j.Plan.Move j.Plan.Keep).2=true then 4 else 3})
 else if j.Phase=3 then(if 0<j.Next then({k with Machine:=(kL k.Machine (j.Plan.Keep*16+nth j.Plan.Cells (j.Next - 1).toNat) 0).1},{j with Next:=j.Next - 1}) else((jB k j.Plan.Move 2).1,{j with Phase:=if(jB k j.Plan.Move 2).2=true then 5 else 3}))
 else(k,j)
theorem J5 {k:af} {f:Int} (h1:∀ j,j<k.Refuse.length->0<=nth k.Refuse j) (h2:cq k.Machine.Frames=true) (h3:f7 k.Machine.Table k.Machine.Frames.Used.length=true)
  (h4:∀ j:Nat,j<k.Machine.Frames.Used.length->(j:Int)≠f->nth k.Machine.Frames.Used j=decide (0<(pagesOn k.Machine.Table (j:Int)).length)) (h5:0<=f/\f<k.Machine.Frames.Used.length) (h6:nth k.Machine.Frames.Used f.toNat=true) (h7:0<=k.Calls/\k.Calls<=100000/\k.Refuse.length<=40):a8 (gk k f)=true:=by
 obtain⟨g1,g2,g3,g4⟩:=aU.1 h2;unfold gk;split
 ·rename_i hz
  rw[aB];simp only[Z0];refine⟨h1,?_,h3,fun j hj=>?_,h7⟩
  ·rw[aU]
   simp only[Z0,cx];refine⟨g1,g2,g3,fun j hj=>?_⟩;by_cases hjf:f.toNat=j
   ·rw[if_pos ⟨hjf,hj⟩,if_pos ⟨hjf,by omega⟩];decide
   ·rw[if_neg (fun e=>hjf e.1),if_neg (fun e=>hjf e.1)];exact g4 j hj
  ·rw[cx]
   by_cases hjf:f.toNat=j
   ·rw[if_pos ⟨hjf,hj⟩]
    have:(j:Int)=f:=by omega
    rw[this];exact(P0 fun hh=>absurd hz (Nat.ne_of_gt hh)).symm
   ·rw[if_neg (fun e=>hjf e.1)];exact h4 j hj (by omega)
 ·rename_i hz
  rw[aB];refine⟨h1,h2,h3,fun j hj=>?_,h7⟩;by_cases hjf:(j:Int)=f
  ·rw[hjf,show j=f.toNat by omega,h6]
   exact(O0 (Nat.pos_of_ne_zero hz)).symm
  ·exact h4 j hj hjf
def tEq (t t':aE):Prop:=t'.Entries.length=t.Entries.length/\∀ q:Nat,((nth t'.Entries q).Mode≠0↔(nth t.Entries q).Mode≠0)/\(nth t'.Entries q).Frame=(nth t.Entries q).Frame
theorem tEq.refl (t:aE):tEq t t:=⟨rfl,fun _=>⟨Iff.rfl,rfl⟩⟩
theorem tEq.of {t t':aE} (h:t'=t):tEq t t':=by rw[h];exact tEq.refl t
theorem tEq.pagesOn {t t':aE} (h:tEq t t') (f:Int):Ab.pagesOn t' f=Ab.pagesOn t f:=by
 unfold Ab.pagesOn im;rw[h.1]
 congr 1
 refine List.filter_congr fun q _=>?_
 obtain⟨h1,h2⟩:=h.2 q;unfold GR;rw[h2];exact decide_eq_decide.2 (and_congr h1 Iff.rfl)
theorem zm {k:af} (h:a8 k=true) {t':aE} (he:tEq k.Machine.Table t') (hm:∀ q,q<t'.Entries.length->0<=(nth t'.Entries q).Mode/\(nth t'.Entries q).Mode<=2):a8 {k with Machine:=⟨k.Machine.Frames,t'⟩} = true:=by
 obtain⟨h1,h2,h3,h4,h5⟩:=aB.1 h;obtain⟨t1,t2,t3⟩:=bt.1 h3;rw[aB];refine⟨h1,h2,bt.2 ⟨fun j hj=>?_,?_,?_⟩,fun j hj=>?_,h5⟩
 ·replace hj:j<t'.Entries.length:=hj
  have h6:=t1 j (by rw[<-he.1];exact hj);have hmm:=hm j hj;obtain⟨e1,e2⟩:=he.2 j;show jQ _ (nth t'.Entries j)=true;unfold jQ at h6 |-;rw[C0]at h6 |-;rw[e2];refine⟨hmm.1,hmm.2,fun hz=>h6.2.2.1 (Classical.byContradiction fun hn=>(e1.2 hn) hz),fun hz=>h6.2.2.2 (e1.1 hz)⟩
 ·show 1<=t'.Entries.length;rw[he.1];exact t2
 ·show t'.Entries.length<=32;rw[he.1];exact t3
 ·show nth k.Machine.Frames.Used j=decide (0<(Ab.pagesOn t' (j:Int)).length)
  rw[he.pagesOn];exact h4 j hj
theorem kR {k:af} (h:a8 k=true) (hc:k.Calls≠100000):a8 (dh k)=true:=by
 obtain⟨h1,h2,h3,h4,h5,h6,h7⟩:=aB.1 h;rw[aB];exact⟨h1,h2,h3,h4,by show 0<=k.Calls+1;omega,by show k.Calls+1<=100000;omega,h7⟩
theorem rq {k:af} {p m:Int} (hm:(nth k.Machine.Table.Entries p.toNat).Mode≠0) (h12:m=1\/m=2):tEq k.Machine.Table (uV k p m).Machine.Table:=by
 refine⟨by simp[uV],fun q=>?_⟩;simp only[uV,cx];split
 ·rename_i e
  rw[<-e.1];exact⟨⟨fun _=>hm,fun _=>by show m≠0;omega⟩,rfl⟩
 ·exact⟨Iff.rfl,rfl⟩
theorem J9 {k:af} (h:a8 k=true) {p m:Int} (hm:(nth k.Machine.Table.Entries p.toNat).Mode≠0) (h12:m=1\/m=2):a8 (uV k p m)=true:=by
 refine zm h (rq hm h12) fun q hq=>?_
 obtain⟨h1,h2,h3,h4,h5⟩:=aB.1 h;obtain⟨t1,t2,t3⟩:=bt.1 h3;have hq':q<k.Machine.Table.Entries.length:=by rw[<-(rq hm h12).1];exact hq
 have h6:=t1 q hq';unfold jQ at h6;rw[C0]at h6;simp only[cx];split
 ·show 0<=m/\m<=2;omega
 ·exact⟨h6.1,h6.2.1⟩
theorem AU {k:af} {p m:Int} (h:a8 k=true) (hc:k.Calls≠100000) (hp:(ar k.Machine.Table p).Mode≠0) (h12:m=1\/m=2):a8 (jB k p m).1=true/\tEq k.Machine.Table (jB k p m).1.Machine.Table:=by
 obtain⟨m1,m2,m3,-⟩:=ce h hp;rw[m3]at hp;unfold jB;split
 ·exact⟨kR h hc,tEq.refl _⟩
 ·exact⟨J9 (kR h hc) hp h12,rq (k:=dh k) hp h12⟩
theorem iA {k:af} (h:a8 k=true) {p:Int} (hp:(ar k.Machine.Table p).Mode≠0):mg k p<k.Machine.Frames.Cells.length/\nth k.Machine.Frames.Used (mg k p)=true/\((mg k p:Nat):Int)=(nth k.Machine.Table.Entries p.toNat).Frame:=by
 obtain⟨m1,m2,m3,m4,m5⟩:=ce h hp;obtain⟨h1,h2,h3,h4,h5⟩:=aB.1 h;obtain⟨g1,g2,g3,g4⟩:=aU.1 h2;have hf:((mg k p:Nat):Int)=(ar k.Machine.Table p).Frame:=by unfold mg;omega
 refine⟨by omega,?_,by rw[hf,m3]⟩;rw[h4 _ (by omega),hf];refine O0 (ed.2 ⟨p.toNat,by omega,?_,?_⟩)
 ·rw[<-m3];exact hp
 ·rw[<-m3]
theorem JO {k:af} (h:a8 k=true) {f:Nat} {r':List Int} (hl:r'.length=16) (hr:∀ v∈r',0<=v/\v<=999) (hu:nth k.Machine.Frames.Used f=true):a8 {k with Machine:=⟨⟨k.Machine.Frames.Cells.set f r',k.Machine.Frames.Used⟩,k.Machine.Table⟩} = true:=by
 obtain⟨h1,h2,h3,h4,h5⟩:=aB.1 h;obtain⟨g1,g2,g3,g4⟩:=aU.1 h2;refine aB.2 ⟨h1,aU.2 ⟨?_,?_,?_,fun j hj=>?_⟩,h3,h4,h5⟩
 ·simp only[Z0];exact g1
 ·simp only[Z0];exact g2
 ·simp only[Z0];exact g3
 ·simp only[Z0]at hj |-
  simp only[cx];split
  ·rename_i e
   obtain⟨rfl,-⟩:=e;unfold gM;simp only[I0,C0,z3];refine⟨hl,fun v hv=>?_⟩;have:=hr v hv;unfold ir;simp[hu,this]
  ·exact g4 j hj
theorem zX {k:af} (h:a8 k=true) {f:Nat} (hf:f<k.Machine.Frames.Cells.length):(nth k.Machine.Frames.Cells f).length=16/\∀ v∈nth k.Machine.Frames.Cells f,0<=v/\v<=999:=by
 obtain⟨h1,h2,h3,h4,h5⟩:=aB.1 h;obtain⟨g1,g2,g3,g4⟩:=aU.1 h2;have h6:=g4 f hf;unfold gM at h6;simp only[I0,C0,z3]at h6;refine⟨h6.1,fun v hv=>?_⟩;have:=h6.2 v hv;unfold ir at this;simp only[I0,C0]at this;exact this.1
theorem p9 {k:af} (h:a8 k=true) {f:Nat} (hf:f<k.Machine.Frames.Cells.length) (hu:nth k.Machine.Frames.Used f=true) {c v:Int} (hv:0<=v/\v<=999):a8 (setCell k f c v)=true:=by
 obtain⟨r1,r2⟩:=zX h hf;refine JO h (by rw[Z0];exact r1) (fun z hz=>?_) hu;rcases List.mem_or_eq_of_mem_set hz with hz|rfl
 ·exact r2 z hz
 ·exact hv
theorem H5 {k:af} (h:a8 k=true) {a b c:Int} (ha:(ar k.Machine.Table a).Mode≠0) (hb:(ar k.Machine.Table b).Mode≠0) (hc:0<=c/\c<=15):a8 (xM k a b c)=true:=by
 obtain⟨a1,a2,-⟩:=iA h ha;obtain⟨b1,b2,-⟩:=iA h hb;obtain⟨r1,r2⟩:=zX h a1;exact p9 h b1 b2 (r2 _ (am (by omega)))
theorem M0 {k:af} {p o:Int} (h:a8 k=true) (hc:k.Calls≠100000) (hp:(ar k.Machine.Table p).Mode≠0) (ho:(ar k.Machine.Table o).Mode≠0) (hpo:p≠o):a8 (zo k p o).1=true:=by
 unfold zo;split
 ·exact kR h hc
 obtain⟨p1,p2,p3⟩:=iA h hp;obtain⟨o1,o2,o3⟩:=iA h ho;obtain⟨m1,m2,m3,m4,m5⟩:=ce h hp;obtain⟨n1,n2,n3,n4,n5⟩:=ce h ho;obtain⟨h1,h2,h3,h4,h5,h6,h7⟩:=aB.1 h;obtain⟨t1,t2,t3⟩:=bt.1 h3;rw[n3]at n4 n5 ho;rw[m3]at m4 m5 hp;have hent:∀ q,nth (k.Machine.Table.Entries.set p.toNat ⟨2,(nth k.Machine.Table.Entries o.toNat).Frame⟩) q=if p.toNat=q then⟨2,(nth k.Machine.Table.Entries o.toNat).Frame⟩ else nth k.Machine.Table.Entries q:=fun q=>by
  rw[cx];by_cases hq:p.toNat=q
  ·rw[if_pos ⟨hq,by omega⟩,if_pos hq]
  ·rw[if_neg (fun e=>hq e.1),if_neg hq]
 refine J5 h1 h2 (bt.2 ⟨fun j hj=>?_,?_,?_⟩) (fun j hj hjf=>?_) ⟨m4,m5⟩ (by rw[<-p3];exact p2) ⟨by show 0<=k.Calls+1;omega,by show k.Calls+1<=100000;omega,h7⟩
 ·simp only[vA,dh,Z0]at hj |-
  rw[hent];split
  ·unfold jQ;rw[C0];simp only;omega
  ·exact t1 j hj
 ·simp only[vA,dh,Z0];exact t2
 ·simp only[vA,dh,Z0];exact t3
 ·replace hj:j<k.Machine.Frames.Used.length:=hj
  show nth k.Machine.Frames.Used j=_;rw[h4 j hj];refine decide_eq_decide.2 ?_;rw[ed,ed];simp only[vA,dh,Z0,hent];constructor
  ·rintro⟨q,q1,q2,q3⟩
   refine⟨q,q1,?_⟩;rw[if_neg (fun e=>hjf (by rw[<-q3,<-e]))];exact⟨q2,q3⟩
  ·rintro⟨q,q1,q2,q3⟩
   by_cases e:p.toNat=q
   ·rw[if_pos e]at q3
    exact⟨o.toNat,by omega,ho,q3⟩
   ·rw[if_neg e]at q2 q3
    exact⟨q,q1,q2,q3⟩
theorem L0 {k:af} {p o:Int} (h:a8 k=true) (hp:(ar k.Machine.Table p).Mode≠0) (hr:(zo k p o).2=true) (q:Nat):(zo k p o).1.Machine.Table.Entries.length=k.Machine.Table.Entries.length/\nth (zo k p o).1.Machine.Table.Entries q=if(q:Int)=p then⟨2,(nth k.Machine.Table.Entries o.toNat).Frame⟩ else nth k.Machine.Table.Entries q:=by
 obtain⟨m1,m2,-⟩:=ce h hp;unfold zo at hr |-;split at hr
 ·cases hr
 rename_i hn;rw[if_neg hn];simp only[(oe _ _).1];simp only[vA,dh,Z0,cx];refine⟨trivial,?_⟩;by_cases e:(q:Int)=p
 ·rw[if_pos ⟨by omega,by omega⟩,if_pos e]
 ·rw[if_neg fun z=>e (by omega),if_neg e]
theorem MC {k:af} {p o:Int} (hr:(zo k p o).2=false):(zo k p o).1=dh k:=by
 unfold zo at hr |-;split
 ·rfl
 ·rename_i hn;rw[if_neg hn]at hr;cases hr
theorem G1 {k:af} {a v:Int} (h:a8 k=true) (ha:0<=a) (hv:0<=v/\v<=999):a8 {k with Machine:=(kL k.Machine a v).1} = true/\(kL k.Machine a v).1.Table=k.Machine.Table:=by
 unfold kL;split
 ·exact⟨h,rfl⟩
 rename_i hm;split
 ·exact⟨h,rfl⟩
 ·obtain⟨b1,b2,-⟩:=iA h hm
  exact⟨p9 h b1 b2 (c:=a % 16) hv,rfl⟩
def ny (t:aE) (p:Int):Prop:=∀ q:Nat,(nth t.Entries q).Mode≠0->(nth t.Entries q).Frame=(nth t.Entries p.toNat).Frame->(q:Int)=p
structure JI (h:ab):Prop where
 ph:h.Meshing=true->0<=h.Job.Phase/\h.Job.Phase<=3
 sp:h.Meshing=true->∃ a∈h.Spans,∃ b∈h.Spans,a.Page=h.Job.Plan.Keep/\b.Page=h.Job.Plan.Move/\meshable a b=true
 sk:h.Meshing=true->ny (tbl h) h.Job.Plan.Keep
 sm:h.Meshing=true->ny (tbl h) h.Job.Plan.Move
theorem ny.tEq {t t':aE} {p:Int} (h:ny t p) (he:tEq t t'):ny t' p:=fun q h1 h2=>by
 obtain⟨e1,e2⟩:=he.2 q;exact h q (e1.1 h1) (by rw[<-e2,<-(he.2 p.toNat).2];exact h2)
theorem Pg.tEq {t t':aE} {fr:List a7} {sp:List au} {la:List aA} (h:Pg t fr sp la) (he:tEq t t'):Pg t' fr sp la where
 one l hl p hp q hq h1 h2:=h.one l hl p hp q (by rw[<-he.1];exact hq) ((he.2 q).1.1 h1) (by rw[<-(he.2 q).2,<-(he.2 p).2];exact h2)
 bnd p hp:=by rw[he.1];exact h.bnd p hp
 own p hp:=(he.2 p).1.trans (h.own p (by rw[<-he.1];exact hp))
 fre p hp:=(he.2 p).1.trans (h.fre p (by rw[<-he.1];exact hp))
 mesh s hs u hu hne hf:=h.mesh s hs u hu hne (by rw[<-(he.2 _).2,<-(he.2 u.Page.toNat).2];exact hf)
theorem bm.step {h:ab} {E:List Int} (hi:bm h E) {k:af} (hk:a8 k=true) (hl:k.Machine.Table.Entries.length=(tbl h).Entries.length) (hg:Pg k.Machine.Table h.Free h.Spans h.Larges) {j:co} {m:Bool}
  (h1:m=true->iR j=true/\(∃ s∈h.Spans,s.Page=j.Plan.Keep)/\∃ s∈h.Spans,s.Page=j.Plan.Move) (h2:m=false->qw j=true):bm {h with Kernel:=k,Meshing:=m,Job:=j} E:=
 {hi with
   ker:=hk
   rng:=by show bx ((k.Machine.Table.Entries.length:Nat):Int) h.Free=true;rw[hl];exact hi.rng
   pg:=hg
   job:=h1
   noj:=h2}
theorem qY.apart {sp:List au} {la:List aA} (hL:qY sp la) {s:au} (hs:s∈sp) {l:aA} (hl:l∈la) {p:Int} (hp:p∈lpgs l l.Pages.toNat):s.Page≠p:=by
 unfold lpgs at hp;simp only[P3,List.mem_range]at hp;obtain⟨k,hk,rfl⟩:=hp;exact hL.dis s hs l hl k hk
theorem Pg.on {t t':aE} {fr:List a7} {sp:List au} {la:List aA} (hg:Pg t fr sp la) (hL:qY sp la) {a b:au} (ha:a∈sp) (hb:b∈sp) (hm:meshable a b=true) (hsa:ny t a.Page)
  (hma:(nth t.Entries a.Page.toNat).Mode≠0) (hmb:(nth t.Entries b.Page.toNat).Mode≠0) (hb0:0<=b.Page) (hl:t'.Entries.length=t.Entries.length)
  (he:∀ q:Nat,nth t'.Entries q=if(q:Int)=b.Page then⟨2,(nth t.Entries a.Page.toNat).Frame⟩ else nth t.Entries q):Pg t' fr sp la:=by
 have hmode:∀ q:Nat,(nth t'.Entries q).Mode≠0↔(nth t.Entries q).Mode≠0:=fun q=>by
  rw[he];split
  ·rename_i e
   rw[show q=b.Page.toNat by omega];exact⟨fun _=>hmb,fun _=>by show(2:Int)≠0;omega⟩
  ·rfl
 have ha0:0<=a.Page:=by have:=hL.sok a ha;unfold bf at this;rw[C0]at this;omega
 refine⟨fun l hl' p hp q hq h1 h2=>?_,fun p hp=>by rw[hl];exact hg.bnd p hp,fun p hp=>(hmode p).trans (hg.own p (by rw[<-hl];exact hp)),fun p hp=>(hmode p).trans (hg.fre p (by rw[<-hl];exact hp)),fun s hs u hu hne hf=>?_⟩
 ·have hpb:¬(p:Int)=b.Page:=fun e=>hL.apart hb hl' hp e.symm
  rw[he p,if_neg hpb,he q]at h2;rw[hmode]at h1;by_cases e:(q:Int)=b.Page
  ·rw[if_pos e]at h2
   have h3:=hg.one l hl' p hp a.Page.toNat (by have:=hg.bnd _ (du (la:=la) ha);omega) hma h2;exact absurd (show a.Page=(p:Int) by omega) (hL.apart ha hl' hp)
  ·rw[if_neg e]at h2
   exact hg.one l hl' p hp q (by rw[<-hl];exact hq) h1 h2
 ·have hs0:0<=s.Page:=by have:=hL.sok s hs;unfold bf at this;rw[C0]at this;omega
  have hu0:0<=u.Page:=by have:=hL.sok u hu;unfold bf at this;rw[C0]at this;omega
  have hinj:∀ x∈sp,∀ y∈sp,x.Page=y.Page->x=y:=fun x hx y hy e=>by
   obtain⟨i,hi,rfl⟩:=bc hx;obtain⟨j,hj,rfl⟩:=bc hy;rw[gy (f:=(·.Page)) hL.nd hi hj e]
  have hmap:∀ x∈sp,(nth t.Entries x.Page.toNat).Mode≠0:=fun x hx=>by
   have hx0:0<=x.Page:=by have:=hL.sok x hx;unfold bf at this;rw[C0]at this;omega
   refine(hg.own x.Page.toNat (by have:=hg.bnd _ (du (la:=la) hx);omega)).2 ?_;rw[show((x.Page.toNat:Nat):Int)=x.Page by omega];exact du hx
  rw[he,he]at hf;simp only[show((s.Page.toNat:Nat):Int)=s.Page by omega,show((u.Page.toNat:Nat):Int)=u.Page by omega]at hf;by_cases es:s.Page=b.Page
  ·rw[if_pos es,if_neg (fun e=>hne (es.trans e.symm))]at hf
   have h3:=hsa u.Page.toNat (hmap u hu) hf.symm;rw[hinj s hs b hb es,hinj u hu a ha (by omega),iv];exact hm
  ·rw[if_neg es]at hf
   by_cases eu:u.Page=b.Page
   ·rw[if_pos eu]at hf
    have h3:=hsa s.Page.toNat (hmap s hs) hf;rw[hinj u hu b hb eu,hinj s hs a ha (by omega)];exact hm
   ·rw[if_neg eu]at hf
    exact hg.mesh s hs u hu hne hf
def over (j:co):Bool:=decide (j.Phase=4\/j.Phase=5)
def iI (k:af) (j:co):af × co:=if jmay k j=true then jstep k j else(k,j)
def mStep (h:ab):ab:={h with Kernel:=(iI h.Kernel h.Job).1,Meshing:=if over (iI h.Kernel h.Job).2=true then false else h.Meshing,Job:=if over (iI h.Kernel h.Job).2=true then⟨⟨0,0,[]⟩,0,0⟩ else(iI h.Kernel h.Job).2}
def D3 (h:ab):Bool:=decide ((iI h.Kernel h.Job).2.Phase=4)
theorem fj {j:co} : iR j=true↔ew j.Plan=true/\0<=j.Phase/\j.Phase<=5/\0<=j.Next/\j.Next<=j.Plan.Cells.length:=by
 unfold iR;simp only[I0,C0]
theorem kQ {p:cg} (h:ew p=true) {i:Nat} (hi:i<p.Cells.length):0<=nth p.Cells i/\nth p.Cells i<=15:=by
 unfold ew at h;simp only[I0]at h;have:=dB h.1 hi;unfold lY at this;rw[C0]at this;exact⟨this.1,this.2.1⟩
structure JS (h:ab) (k:af) (j:co):Prop where
 ker:a8 k=true
 len:k.Machine.Table.Entries.length=(tbl h).Entries.length
 pg:j.Phase≠4\/JI h->Pg k.Machine.Table h.Free h.Spans h.Larges
 ph:0<=j.Phase/\j.Phase<=5
 plan:j.Plan=h.Job.Plan
 nxt:0<=j.Next/\j.Next<=j.Plan.Cells.length
 eq:j.Phase≠4->tEq (tbl h) k.Machine.Table
 calls:h.Kernel.Calls<=k.Calls/\k.Calls<=h.Kernel.Calls+1/\k.Refuse=h.Kernel.Refuse
theorem vQ (k:af) (p m:Int):(jB k p m).1.Calls=k.Calls+1/\(jB k p m).1.Refuse=k.Refuse:=by
 unfold jB;split<;>exact⟨rfl,rfl⟩
theorem HJ (k:af) (p o:Int):(zo k p o).1.Calls=k.Calls+1/\(zo k p o).1.Refuse=k.Refuse:=by
 unfold zo;split
 ·exact⟨rfl,rfl⟩
 ·obtain⟨-,h1,h2,-⟩:=oe (vA (dh k) p.toNat ⟨2,(nth k.Machine.Table.Entries o.toNat).Frame⟩) (nth k.Machine.Table.Entries p.toNat).Frame
  simp only[h1,h2];exact⟨rfl,rfl⟩
theorem JS.of {h:ab} {E:List Int} (hi:bm h E) (hm:h.Meshing=true):JS h (iI h.Kernel h.Job).1 (iI h.Kernel h.Job).2:=by
 obtain⟨j1,-,-⟩:=hi.job hm;obtain⟨j2,j3,j4,j5,j6⟩:=fj.1 j1;unfold iI;split
 case isFalse=>exact⟨hi.ker,rfl,fun _=>hi.pg,⟨j3,j4⟩,rfl,⟨j5,j6⟩,fun _=>tEq.refl _,Y3 _,by show h.Kernel.Calls<=h.Kernel.Calls+1;omega,rfl⟩
 rename_i hmay;unfold jmay at hmay;simp only[I0,C0]at hmay;obtain⟨⟨-,hc⟩,-,hk,hv,hne⟩:=hmay;have fin:∀ (k:af) (j:co),a8 k=true->tEq (tbl h) k.Machine.Table->0<=j.Phase/\j.Phase<=5->j.Plan=h.Job.Plan->0<=j.Next/\j.Next<=j.Plan.Cells.length->h.Kernel.Calls<=k.Calls/\k.Calls<=h.Kernel.Calls+1/\k.Refuse=h.Kernel.Refuse->JS h k j:=
  fun k j h1 h2 h3 h4 h5 h6=>⟨h1,h2.1,fun _=>hi.pg.tEq h2,h3,h4,h5,fun _=>h2,h6⟩
 have hcal:=(aB.1 hi.ker).2.2.2.2;unfold jstep;split
 ·obtain⟨q1,q2⟩:=AU hi.ker hc hv (m:=1) (.inl rfl)
  obtain⟨q3,q4⟩:=vQ h.Kernel h.Job.Plan.Move 1;refine fin _ _ q1 q2 ?_ rfl ⟨j5,j6⟩ ⟨by rw[q3];omega,by rw[q3];omega,q4⟩;show 0<=(if _ then _ else _:Int)/\(if _ then _ else _:Int)<=5;split<;>omega
 split
 ·split
  ·exact fin _ _ hi.ker (tEq.refl _) ⟨by show(0:Int)<=2;omega,by show(2:Int)<=5;omega⟩ rfl ⟨j5,j6⟩ ⟨Y3 _,by show h.Kernel.Calls<=h.Kernel.Calls+1;omega,rfl⟩
  ·have hc15:=kQ j2 (i:=h.Job.Next.toNat) (by omega)
   refine fin _ _ (H5 hi.ker hv hk hc15) (tEq.refl _) ⟨j3,j4⟩ rfl ⟨by show 0<=h.Job.Next+1;omega,by show h.Job.Next+1<=h.Job.Plan.Cells.length;omega⟩ ⟨Y3 _,by show h.Kernel.Calls<=h.Kernel.Calls+1;omega,rfl⟩
 split
 ·have hpo:h.Job.Plan.Move≠h.Job.Plan.Keep:=fun e=>hne (by rw[e])
  have q1:=M0 hi.ker hc hv hk hpo;obtain⟨q3,q4⟩:=HJ h.Kernel h.Job.Plan.Move h.Job.Plan.Keep;cases e:(zo h.Kernel h.Job.Plan.Move h.Job.Plan.Keep).2 with
  | false=>
   rw[if_neg (by simp)];refine fin _ _ q1 (tEq.of ?_) ⟨by show(0:Int)<=3;omega,by show(3:Int)<=5;omega⟩ rfl ⟨j5,j6⟩ ⟨by rw[q3];omega,by rw[q3];omega,q4⟩;rw[MC e];rfl
  | true=>
   rw[if_pos rfl];obtain⟨m1,m2,m3,-⟩:=ce hi.ker hv;obtain⟨n1,n2,n3,-⟩:=ce hi.ker hk;have hent:=L0 hi.ker hv e;refine⟨q1,(hent 0).1,fun hor=>?_,⟨by show(0:Int)<=4;omega,by show(4:Int)<=5;omega⟩,rfl,⟨j5,j6⟩,fun hn=>absurd rfl hn,by rw[q3];omega,by rw[q3];omega,q4⟩;have hj:JI h:=hor.elim (fun hn=>absurd rfl hn) id;obtain⟨a,ha,b,hb,ea,eb,hab⟩:=hj.sp hm;refine hi.pg.on hi.L ha hb hab (by rw[ea];exact hj.sk hm) (by rw[ea];show(nth h.Kernel.Machine.Table.Entries _).Mode≠0;rw[<-n3];exact hk) (by rw[eb];show(nth h.Kernel.Machine.Table.Entries _).Mode≠0;rw[<-m3];exact hv) (by rw[eb];exact m1) (hent 0).1 fun q=>?_
   rw[(hent q).2,eb,ea];rfl
 split
 ·split
  ·rename_i hn0
   have hc15:=kQ j2 (i:=(h.Job.Next - 1).toNat) (by omega);have hk0:=(ce hi.ker hk).1;obtain⟨q1,q2⟩:=G1 hi.ker (a:=h.Job.Plan.Keep*16+nth h.Job.Plan.Cells (h.Job.Next - 1).toNat) (v:=0) (by omega) ⟨by omega,by omega⟩;exact fin _ _ q1 (tEq.of q2) ⟨j3,j4⟩ rfl ⟨by show 0<=h.Job.Next - 1;omega,by show h.Job.Next - 1<=h.Job.Plan.Cells.length;omega⟩ ⟨Y3 _,by show h.Kernel.Calls<=h.Kernel.Calls+1;omega,rfl⟩
  ·obtain⟨q1,q2⟩:=AU hi.ker hc hv (m:=2) (.inr rfl)
   obtain⟨q3,q4⟩:=vQ h.Kernel h.Job.Plan.Move 2;refine fin _ _ q1 q2 ?_ rfl ⟨j5,j6⟩ ⟨by rw[q3];omega,by rw[q3];omega,q4⟩;show 0<=(if _ then _ else _:Int)/\(if _ then _ else _:Int)<=5;split<;>omega
 ·exact fin _ _ hi.ker (tEq.refl _) ⟨j3,j4⟩ rfl ⟨j5,j6⟩ ⟨Y3 _,by show h.Kernel.Calls<=h.Kernel.Calls+1;omega,rfl⟩
theorem bm.mStep {h:ab} {E:List Int} (hi:bm h E) (hj:JI h) (hm:h.Meshing=true):bm (mStep h) E/\JI (mStep h):=by
 have s:=JS.of hi hm;unfold Ab.mStep;generalize (iI h.Kernel h.Job).1=k at s |-;generalize (iI h.Kernel h.Job).2=j at s |-;cases e:over j with
 | true=>
  refine⟨hi.step s.ker s.len (s.pg (.inr hj)) (fun h=>by simp at h) (fun _=>by simp[qw]),?_⟩;exact⟨fun h=>by simp at h,fun h=>by simp at h,fun h=>by simp at h,fun h=>by simp at h⟩
 | false=>
  simp only[Bool.false_eq_true,if_false];unfold over at e;simp only[U3,not_or]at e;have he:=s.eq e.1;have hph:=s.ph;refine⟨hi.step s.ker s.len (s.pg (.inr hj)) (fun _=>⟨fj.2 ⟨by rw[s.plan];exact(fj.1 (hi.job hm).1).1,s.ph.1,s.ph.2,s.nxt⟩,by rw[s.plan];exact(hi.job hm).2⟩) (fun h=>by rw[hm]at h;cases h),?_⟩;refine⟨fun _=>⟨s.ph.1,by show j.Phase<=3;omega⟩,fun _=>?_,fun _=>?_,fun _=>?_⟩
  ·show ∃ a∈h.Spans,∃ b∈h.Spans,a.Page=j.Plan.Keep/\b.Page=j.Plan.Move/\meshable a b=true
   rw[s.plan];exact hj.sp hm
  ·show ny k.Machine.Table j.Plan.Keep
   rw[s.plan];exact(hj.sk hm).tEq he
  ·show ny k.Machine.Table j.Plan.Move
   rw[s.plan];exact(hj.sm hm).tEq he
def MH (k:af) (a:Int):Int:=nth (nth k.Machine.Frames.Cells (ar k.Machine.Table (a / 16)).Frame.toNat) (a % 16).toNat
def cellsOf (k:af) (a:Int) (n:Nat):List Int:=(List.range n).map fun(i:Nat)=>MH k (a+i)
theorem pb {n:Int} (h:0<=aN n):1<=n/\n<=8:=by
 unfold aN at h;split at h
 ·omega
 ·split at h
  ·omega
  ·split at h
   ·omega
   ·split at h
    ·omega
    ·split at h<;>omega
def NN {α:Type} [Inhabited α] (f:α->Int) (xs:List α):Nat->Int
 | 0=>0
 | i+1=>NN f xs i+f (nth xs i)
def bor (n m:Int):Int:=((n.toNat ||| m.toNat:Nat):Int)
def qt (sp:List au) (p:Int) (b:Int):Nat->Int
 | 0=>b
 | j+1=>if(nth sp j).Page=p then bor (qt sp p b j) (nth sp j).Bits else qt sp p b j
def je (sp:List au) (ps:List Int) (b:Int):Nat->Int
 | 0=>b
 | k+1=>qt sp (nth ps k) (je sp ps b k) sp.length
def gq (h:ab) (i:Nat):Int:=je h.Spans (aS h (nth h.Spans i).Page) (nth h.Spans i).Bits (aS h (nth h.Spans i).Page).length
theorem Ji {n m:Int} (h1:0<=n/\n<=65535) (h2:0<=m/\m<=65535):0<=bor n m/\bor n m<=65535:=by
 have h3:n.toNat ||| m.toNat<2 ^ 16:=Nat.or_lt_two_pow (by omega) (by omega)
 unfold bor;omega
theorem tM {sp:List au} (h:∀ s∈sp,bf s=true) {j:Nat} (hj:j<sp.length):0<=(nth sp j).Bits/\(nth sp j).Bits<=65535:=by
 have h1:=h _ (am hj);have h2:=Eb (nth sp j).Class;unfold bf at h1;rw[C0]at h1;omega
theorem tS {sp:List au} (h:∀ s∈sp,bf s=true) {p b:Int} (hb:0<=b/\b<=65535):∀ j,j<=sp.length->0<=qt sp p b j/\qt sp p b j<=65535
 | 0,_=>hb
 | j+1,hj=>by
  have h1:=tS h (p:=p) hb j (by omega);simp only[qt];split
  ·exact Ji h1 (tM h (by omega))
  ·exact h1
theorem pX {sp:List au} (h:∀ s∈sp,bf s=true) {ps:List Int} {b:Int} (hb:0<=b/\b<=65535):∀ k,0<=je sp ps b k/\je sp ps b k<=65535
 | 0=>hb
 | k+1=>by simp only[je];exact tS h (pX h hb k) _ (I2 _)
theorem lN {b i:Int} (hb:0<=b) (hi:0<=i/\i<=15):aY b i=b.toNat.testBit i.toNat:=by
 unfold aY;rw[Nat.testBit_eq_decide_div_mod_eq];refine decide_eq_decide.2 ?_;obtain⟨n,rfl⟩ : ∃ n:Nat,b=n:=⟨b.toNat,by omega⟩
 rw[W1];have h1:((n / 2 ^ i.toNat:Nat):Int)=(n:Int) / 2 ^ i.toNat:=by simp
 omega
theorem Eh {n m i:Int} (hn:0<=n) (hm:0<=m) (hi:0<=i/\i<=15):aY (bor n m) i=(aY n i || aY m i):=by
 rw[lN (by unfold bor;omega) hi,lN hn hi,lN hm hi];unfold bor;rw[W1,Nat.testBit_or]
theorem B9 {sp:List au} (h:∀ s∈sp,bf s=true) {p b i:Int} (hb:0<=b/\b<=65535) (hi:0<=i/\i<=15):∀ j,j<=sp.length->(aY (qt sp p b j) i=true↔aY b i=true\/∃ q,q<j/\(nth sp q).Page=p/\aY (nth sp q).Bits i=true)
 | 0,_=>by simp[qt]
 | j+1,hj=>by
  have h1:=B9 h (p:=p) hb hi j (by omega);have h2:=tS h (p:=p) hb j (by omega);have h3:=tM h (j:=j) (by omega);simp only[qt];split
  ·rename_i hp
   rw[Eh h2.1 h3.1 hi,Bool.or_eq_true,h1];constructor
   ·rintro((e|⟨q,e1,e2⟩)|e)
    ·exact .inl e
    ·exact .inr ⟨q,by omega,e2⟩
    ·exact .inr ⟨j,by omega,hp,e⟩
   ·rintro(e|⟨q,e1,e2,e3⟩)
    ·exact .inl (.inl e)
    ·by_cases hq:q=j
     ·subst hq;exact .inr e3
     ·exact .inl (.inr ⟨q,by omega,e2,e3⟩)
  ·rename_i hp
   rw[h1];constructor
   ·rintro(e|⟨q,e1,e2⟩)
    ·exact .inl e
    ·exact .inr ⟨q,by omega,e2⟩
   ·rintro(e|⟨q,e1,e2,e3⟩)
    ·exact .inl e
    ·by_cases hq:q=j
     ·subst hq;exact absurd e2 hp
     ·exact .inr ⟨q,by omega,e2,e3⟩
theorem xQ {sp:List au} (h:∀ s∈sp,bf s=true) {ps:List Int} {b i:Int} (hb:0<=b/\b<=65535) (hi:0<=i/\i<=15):∀ k,(aY (je sp ps b k) i=true↔aY b i=true\/∃ u,u<k/\∃ q,q<sp.length/\(nth sp q).Page=nth ps u/\aY (nth sp q).Bits i=true)
 | 0=>by simp[je]
 | k+1=>by
  have h1:=xQ h (ps:=ps) hb hi k;have h2:=pX h (ps:=ps) hb k;simp only[je];rw[B9 h h2 hi _ (I2 _),h1];constructor
  ·rintro((e|⟨u,e1,e2⟩)|⟨q,e1,e2⟩)
   ·exact .inl e
   ·exact .inr ⟨u,by omega,e2⟩
   ·exact .inr ⟨k,by omega,q,e1,e2⟩
  ·rintro(e|⟨u,e1,e2⟩)
   ·exact .inl (.inl e)
   ·by_cases hq:u=k
    ·subst hq;exact .inr e2
    ·exact .inl (.inr ⟨u,by omega,e2⟩)
def jt {α:Type} (p:α->Bool) (xs:List α):Nat:=(xs.findIdx? p).getD xs.length
def iK {α:Type} (p:α->Bool) (xs:List α) (y:α):List α:=xs.take (jt p xs)++y::xs.drop (jt p xs)
theorem Lw {α:Type} (p:α->Bool) (xs:List α):jt p xs<=xs.length:=by
 unfold jt;cases e:xs.findIdx? p with
 | none=>exact I2 _
 | some i=>exact Nat.le_of_lt (List.findIdx?_eq_some_iff_getElem.1 e).1
theorem jx {α:Type} (p:α->Bool) (xs:List α) (y:α):(iK p xs y).Perm (y::xs):=by
 unfold iK;refine List.perm_middle.trans ?_;rw[List.take_append_drop]
theorem cY {α:Type} {p:α->Bool} {xs:List α} {y z:α} : z∈iK p xs y↔z=y\/z∈xs:=by
 rw[(jx p xs y).mem_iff,List.mem_cons]
theorem tR {α:Type} {p:α->Bool} {xs:List α} {i:Nat} (hi:i<=xs.length) (ha:∀ (j:Nat) (z:α),j<i->xs[j]? = some z->p z=false) (hp:∀ z,xs[i]? = some z->p z=true):jt p xs=i:=by
 unfold jt;by_cases e:i<xs.length
 ·rw[tO (Q1 e) (hp _ (Q1 e)) ha];rfl
 ·rw[u5 (by omega) ha];show xs.length=i;omega
theorem ka {α:Type} {f:α->Int} {xs:List α} {y:α} (h:xs.Pairwise fun a b=>f a<f b) (hn:∀ z∈xs,f z≠f y):(iK (fun z=>decide (f y<=f z)) xs y).Pairwise fun a b=>f a<f b:=by
 have hd:∀ z∈xs.drop (jt (fun z=>decide (f y<=f z)) xs),f y<f z:=fun z hz=>by
  obtain⟨j,hj,rfl⟩:=List.mem_drop_iff_getElem.1 hz;have hm:=hn _ (List.getElem_mem hj);cases e:xs.findIdx? (fun z=>decide (f y<=f z)) with
  | none=>
   have hl:jt (fun z=>decide (f y<=f z)) xs=xs.length:=by unfold jt;rw[e];rfl
   rw[hl]at hj;omega
  | some i=>
   have hl:jt (fun z=>decide (f y<=f z)) xs=i:=by unfold jt;rw[e];rfl
   obtain⟨hi,hp,-⟩:=List.findIdx?_eq_some_iff_getElem.1 e;rw[C0]at hp;have hji:i+j<xs.length:=by rw[<-hl];omega
   have hmi:f xs[i+j]≠f y:=hn _ (List.getElem_mem hji);have hgoal:f y<f xs[i+j]:=by
    cases j with
    | zero=>simp only[Nat.add_zero]at hmi |-;omega
    | succ j=>
     have:=List.pairwise_iff_getElem.1 h i (i+(j+1)) hi hji (by omega);omega
   have he:xs[jt (fun z=>decide (f y<=f z)) xs+j]? = xs[i+j]?:=by rw[hl]
   rw[Q1 (by omega),Q1 hji]at he;rw[Option.some.inj he];exact hgoal
 have ht:∀ z∈xs.take (jt (fun z=>decide (f y<=f z)) xs),f z<f y:=fun z hz=>by
  obtain⟨j,hj,rfl⟩:=List.mem_take_iff_getElem.1 hz;unfold jt at hj;cases e:xs.findIdx? (fun z=>decide (f y<=f z)) with
  | none=>
   have:=List.findIdx?_eq_none_iff.1 e _ (List.getElem_mem (show j<xs.length by omega));simp only[U3]at this;omega
  | some i=>
   obtain⟨hi,hp,hf⟩:=List.findIdx?_eq_some_iff_getElem.1 e;simp only[e,Option.getD_some]at hj;have:=hf j (by omega);simp only[C0]at this;omega
 unfold iK;refine List.pairwise_append.2 ⟨h.sublist (List.take_sublist ..),List.pairwise_cons.2 ⟨hd,h.sublist (List.drop_sublist ..)⟩,fun z hz u hu=>?_⟩;rcases List.mem_cons.1 hu with rfl|hu
 ·exact ht z hz
 ·exact Int.lt_trans (ht z hz) (hd u hu)
def gl (b i:Int):Int:=((b.toNat ||| 2 ^ i.toNat:Nat):Int)
def pB (s:au) (i:Int):au:={s with Bits:=gl s.Bits i}
theorem uE (b i:Int) (j:Nat):(gl b i).toNat.testBit j=(b.toNat.testBit j || decide (i.toNat=j)):=by
 unfold gl;rw[W1,Nat.testBit_or,Nat.testBit_two_pow]
theorem DT {b i:Int} (hb:0<=b) (hi:0<=i/\i<=15) (j:Int):aY (gl b i) j=true↔aY b j=true\/j=i:=by
 rw[fU,fU,uE,Bool.or_eq_true,C0];have h0:0<=gl b i:=by unfold gl;omega
 constructor
 ·rintro⟨a1,a2,a3,a4|a4⟩
  ·exact .inl ⟨hb,a2,a3,a4⟩
  ·exact .inr (by omega)
 ·rintro(⟨a1,a2,a3,a4⟩|rfl)
  ·exact⟨h0,a2,a3,.inl a4⟩
  ·exact⟨h0,hi.1,hi.2,.inr rfl⟩
theorem ge {k:Int} (h:0<=k/\k<=3):lim k=2 ^ (slots k).toNat - 1/\0<=slots k/\slots k<=16/\slots k*csz k=16:=by
 obtain rfl|rfl|rfl|rfl:k=0\/k=1\/k=2\/k=3:=by omega
 all_goals decide
theorem yY {s:au} (h:bf s=true) {i:Int} (hi:0<=i/\i<slots s.Class):bf (pB s i)=true:=by
 have hc:=aG h;obtain⟨l1,l2,l3,-⟩:=ge hc.2.2;unfold bf at h;rw[C0]at h;obtain⟨a1,a2,a3,a4,a5,a6⟩:=h;refine O0 ⟨a1,a2,a3,a4,by show 0<=gl s.Bits i;unfold gl;omega,?_⟩;show gl s.Bits i<=lim s.Class;rw[l1]at a6 |-;have hp:((2 ^ (slots s.Class).toNat:Nat):Int)=(2:Int) ^ (slots s.Class).toNat:=by norm_cast
 rw[<-hp]at a6 |-;have:=Nat.or_lt_two_pow (x:=s.Bits.toNat) (y:=2 ^ i.toNat) (n:=(slots s.Class).toNat) (by omega) (Nat.pow_lt_pow_right (by omega) (by omega));unfold gl;omega
theorem y6 {s u:au} {i:Int} (hi:0<=i/\i<slots s.Class) (hu:aY u.Bits i=false) (h:meshable s u=true):meshable (pB s i) u=true:=by
 unfold meshable at h |-;simp only[I0,C0]at h |-;obtain⟨⟨h1,h2⟩,h3,h4,h5⟩:=h;have hc:=aG h1;obtain⟨l1,l2,l3,-⟩:=ge hc.2.2;have hub:=eg h2;refine⟨⟨yY h1 hi,h2⟩,h3,h4,?_⟩;refine Nat.eq_of_testBit_eq fun j=>?_
 have h6:=R0 (fun n=>Nat.testBit n j) h5;simp only[Nat.testBit_and,Nat.zero_testBit,pB,uE]at h6 |-;by_cases e:i.toNat=j
 ·have:u.Bits.toNat.testBit j=false:=by
   rw[<-Bool.not_eq_true];intro ht;have:=(fU u.Bits i).2 ⟨hub.1,hi.1,by omega,by rw[e];exact ht⟩;rw[this]at hu;cases hu
  rw[this];simp
 ·rw[P0 e,Bool.or_false];exact h6
theorem rh {s:au} (h:bf s=true) {i:Int} (hi:0<=i/\i<slots s.Class) (b:Int):eP (pB s i) b↔eP s b\/b=16*s.Page+i*csz s.Class:=by
 have hc:=aG h;obtain⟨l1,l2,l3,l4⟩:=ge hc.2.2;have hz:=cj hc.2.2;unfold eP;simp only[pB];rw[DT (eg h).1 (by omega)];constructor
 ·rintro⟨b1,b2,b3,b4|b4⟩
  ·exact .inl ⟨b1,b2,b3,b4⟩
  ·right
   rcases hz with e|e|e|e<;>rw[e]at b3 b4 |-<;>omega
 ·rintro(⟨b1,b2,b3,b4⟩|rfl)
  ·exact⟨b1,b2,b3,.inl b4⟩
  ·have hs:slots s.Class<=16:=l3
   rcases hz with e|e|e|e<;>rw[e]at l4 |-<;>refine⟨?_,?_,?_,.inr ?_⟩<;>omega
theorem G2 {sp:List au} {i:Nat} (k:Int) (hi:i<sp.length):(sp.set i (pB (nth sp i) k)).map (·.Page)=sp.map (·.Page):=by
 rw[List.map_set];refine List.ext_getElem (by simp) fun j h1 h2=>?_
 rw[List.getElem_set];split
 ·rename_i e;subst e
  rw[List.getElem_map];show(nth sp i).Page=_;rw[bq (Q1 hi)]
 ·rfl
theorem iU.setS {sp:List au} {la:List aA} (hL:qY sp la) {i:Nat} (hi:i<sp.length) {k:Int} (hk:0<=k/\k<slots (nth sp i).Class) (b c:Int):iU (sp.set i (pB (nth sp i) k)) b c↔iU sp b c\/(b=16*(nth sp i).Page+k*csz (nth sp i).Class/\(c<0\/(nth sp i).Class=c)):=by
 have hsi:=hL.sok _ (am hi);constructor
 ·rintro⟨s,hs,h1,h2⟩
  rcases eI hs with rfl|⟨j,hj,hji,rfl⟩
  ·rcases(rh hsi hk b).1 h1 with h3|h3
   ·exact .inl ⟨_,am hi,h3,h2⟩
   ·exact .inr ⟨h3,h2⟩
  ·exact .inl ⟨_,am hj,h1,h2⟩
 ·rintro(⟨s,hs,h1,h2⟩|⟨h1,h2⟩)
  ·obtain⟨j,hj,rfl⟩:=bc hs
   by_cases e:j=i
   ·subst e
    exact⟨_,ij _ hi,(rh hsi hk b).2 (.inl h1),h2⟩
   ·exact⟨_,iP _ hj e,h1,h2⟩
  ·exact⟨_,ij _ hi,(rh hsi hk b).2 (.inr h1),h2⟩
theorem KN {h:ab} {E:List Int} (hi:bm h E) {i:Nat} (li:i<h.Spans.length) {k:Int} (hk:0<=k/\k<=15) (hu:aY (gq h i) k=false):aY (nth h.Spans i).Bits k=false/\∀ u∈h.Spans,(nth (tbl h).Entries u.Page.toNat).Frame=(nth (tbl h).Entries (nth h.Spans i).Page.toNat).Frame->aY u.Bits k=false:=by
 have hL:=hi.L;have hb:=eg (hL.sok _ (am li));unfold gq at hu;rw[<-Bool.not_eq_true,xQ hL.sok hb hk]at hu;rw[not_or]at hu;have h1:aY (nth h.Spans i).Bits k=false:=by simpa using hu.1
 have hpage:∀ s∈h.Spans,s.Page.toNat<dG h/\(nth (tbl h).Entries s.Page.toNat).Mode≠0/\((s.Page.toNat:Nat):Int)=s.Page:=fun s hs=>by
  have hc:=aG (hL.sok s hs);have h2:=hi.pg.bnd s.Page (du hs);have h3:s.Page.toNat<(tbl h).Entries.length:=by omega
  have h4:((s.Page.toNat:Nat):Int)=s.Page:=by omega
  exact⟨h3,(hi.pg.own _ h3).2 (by rw[h4];exact du hs),h4⟩
 refine⟨h1,fun u hu' hf=>?_⟩;rw[<-Bool.not_eq_true];intro ht;obtain⟨p1,p2,p3⟩:=hpage _ (am li);obtain⟨q1,q2,q3⟩:=hpage u hu';have hm:u.Page∈aS h (nth h.Spans i).Page:=by
  rw[<-p3,ef p1 p2,<-q3];exact dx.2 ⟨q1,q2,hf⟩
 obtain⟨v,hv,hve⟩:=bc hm;obtain⟨j,hj,rfl⟩:=bc hu';exact hu.2 ⟨v,hv,j,hj,hve.symm,ht⟩
theorem bm.take {h:ab} {E:List Int} {i:Nat} {k sd:Int} (hi:bm h E) (li:i<h.Spans.length) (hk:0<=k/\k<slots (nth h.Spans i).Class) (hu:aY (gq h i) k=false) (hsd:0<=sd/\sd<=1073741823) :
  bm {h with Seed:=sd,Spans:=h.Spans.set i (pB (nth h.Spans i) k)} ((16*(nth h.Spans i).Page+k*csz (nth h.Spans i).Class)::E):=by
 have hL:=hi.L;have hsi:=hL.sok _ (am li);have hc:=aG hsi;obtain⟨l1,l2,l3,l4⟩:=ge hc.2.2;have hz:=cj hc.2.2;obtain⟨u1,u2⟩:=KN hi li ⟨hk.1,by omega⟩ hu;have hSl:=fun b c=>iU.setS hL li hk b c
 have hpg:=G2 k li;generalize ha:16*(nth h.Spans i).Page+k*csz (nth h.Spans i).Class=a at hSl |-;have hslot:¬eP (nth h.Spans i) a:=by
  rintro⟨-,-,-,h4⟩
  have:(a - 16*(nth h.Spans i).Page) / csz (nth h.Spans i).Class=k:=by
   rw[<-ha];rcases hz with e|e|e|e<;>rw[e]<;>omega
  rw[this,u1]at h4;cases h4
 have hrange:16*(nth h.Spans i).Page<=a/\a<=16*(nth h.Spans i).Page+15:=by
  rcases hz with e|e|e|e<;>rw[e]at ha l4<;>omega
 have hnl:¬lw h.Spans h.Larges a:=by
  rintro(⟨s,hs,h1,-⟩|⟨l,hl,e⟩)
  ·obtain⟨j,hj,rfl⟩:=bc hs
   have:=gy (f:=(·.Page)) hL.nd hj li (by have a1:=h1.1;have a2:=h1.2.1;omega);subst this;exact hslot h1
  ·exact(un hL hl).1 _ (am li) (by omega)
 have hna:a∉E++holders h:=fun hm=>hnl ((hi.mem a).1 hm)
 have hsp':∀ s∈h.Spans.set i (pB (nth h.Spans i) k),∃ u∈h.Spans,u.Page=s.Page/\(s=u\/(u=nth h.Spans i/\s=pB u k)):=fun s hs=>by
  rcases eI hs with rfl|⟨j,hj,hji,rfl⟩
  ·exact⟨_,am li,rfl,.inr ⟨rfl,rfl⟩⟩
  ·exact⟨_,am hj,rfl,.inl rfl⟩
 generalize hsp:h.Spans.set i (pB (nth h.Spans i) k)=sp at hSl hpg hsp' |-;have hpgs:pgs sp h.Larges=pgs h.Spans h.Larges:=by unfold pgs;rw[hpg]
 have hbk:∀ u∈h.Spans,∃ s∈sp,s.Page=u.Page:=fun u hu=>by
  have:u.Page∈sp.map (·.Page):=by rw[hpg];exact P3.2 ⟨u,hu,rfl⟩
  obtain⟨s,hs,e⟩:=P3.1 this;exact⟨s,hs,e⟩
 exact {hi with
   lay:=by
     obtain⟨l1,l2,l3⟩:=cZ hi.lay;unfold bg;simp only[I0,C0];refine⟨⟨z3.2 fun s hs=>?_,l2⟩,by rw[hpgs];exact l3⟩;obtain⟨u,hu,-,rfl|⟨rfl,rfl⟩⟩:=hsp' s hs
     · exact hL.sok _ hu
     · exact yY (hL.sok _ hu) hk
   srs:=by
     have h1:(h.Spans.map (·.Page)).Pairwise (fun a b=>a<b):=List.pairwise_map.2 hi.srs;rw[<-hpg]at h1;exact List.pairwise_map.1 h1
   pg:=⟨hi.pg.one,by rw[hpgs];exact hi.pg.bnd,by rw[hpgs];exact hi.pg.own,hi.pg.fre,fun s hs u hu hne hf=>by
     obtain⟨s',hs',es,hs2⟩:=hsp' s hs;obtain⟨u',hu',eu,hu2⟩:=hsp' u hu;have hf':(nth (tbl h).Entries s'.Page.toNat).Frame=(nth (tbl h).Entries u'.Page.toNat).Frame:=by rw[es,eu];exact hf
     have h1:=hi.pg.mesh s' hs' u' hu' (by rw[es,eu];exact hne) hf';rcases hs2 with rfl|⟨rfl,rfl⟩
     · rcases hu2 with rfl|⟨rfl,rfl⟩
       · exact h1
       · rw[iv]at h1 |-
         exact y6 hk (u2 _ hs' hf') h1
     · rcases hu2 with rfl|⟨rfl,rfl⟩
       · exact y6 hk (u2 _ hu' hf'.symm) h1
       · exact absurd (es.symm.trans eu) hne⟩
   nums:=by
     have:=hi.nums;unfold bU at this |-;rw[C0]at this |-;exact⟨hsd.1,hsd.2,this.2.2⟩
   oow:=fun o ho=>by
     rcases hi.oow o ho with⟨s,hs,h1,h2⟩|h1
     · obtain⟨u,hu,g1,g2⟩:=(hSl o.Addr (aN o.Size)).2 (.inl ⟨s,hs,h1,.inr h2⟩)
       refine .inl ⟨u,hu,g1,?_⟩;rcases g2 with g2|g2
       · have:=aG (hL.sok _ hs);omega
       · exact g2
     · exact .inr h1
   hca:=fun c hc k hk b hb=>(hSl b k).2 (.inl (hi.hca c hc k hk b hb))
   hqu:=fun y hy=>(hSl _ _).2 (.inl (hi.hqu y hy))
   hfl:=fun b hb=>(hSl _ _).2 (.inl (hi.hfl b hb))
   hin:=fun b hb=>by
     rcases List.mem_cons.1 hb with rfl|hb
     · exact(hSl _ _).2 (.inr ⟨rfl,.inl (by decide)⟩)
     · exact(hSl _ _).2 (.inl (hi.hin b hb))
   nd:=by
     rw[List.cons_append];exact List.nodup_cons.2 ⟨hna,hi.nd⟩
   mem:=fun b=>by
     show b∈a::E++holders h↔lw sp h.Larges b;rw[List.cons_append,List.mem_cons,hi.mem b];unfold lw;rw[hSl];constructor
     · rintro(rfl|h1|h1)
       · exact .inl (.inr ⟨rfl,.inl (by decide)⟩)
       · exact .inl (.inl h1)
       · exact .inr h1
     · rintro((h1|⟨h1,-⟩)|h1)
       · exact .inr (.inl h1)
       · exact .inl h1
       · exact .inr (.inr h1)
   job:=fun hm=>by
     obtain⟨j1,⟨s,hs,e1⟩,⟨u,hu,e2⟩⟩:=hi.job hm;obtain⟨s',hs',g1⟩:=hbk s hs;obtain⟨u',hu',g2⟩:=hbk u hu;exact⟨j1,⟨s',hs',g1.trans e1⟩,⟨u',hu',g2.trans e2⟩⟩}
def qS (c:aC) (k:Nat):aC:=⟨c.Lists.set k ((nth c.Lists k).take ((nth c.Lists k).length - 1))⟩
theorem H9 {l:List Int} (h:0<l.length):l=l.take (l.length - 1)++[nth l (l.length - 1)]:=by
 have h1:l.drop (l.length - 1)=[nth l (l.length - 1)]:=by
  rw[iG (by omega),show l.length - 1+1=l.length by omega,List.drop_length]
 rw[<-h1,List.take_append_drop]
theorem bm.pop {h:ab} {E:List Int} {t k:Nat} (hi:bm h E) (ht:t<h.Caches.length) (hk:k<(nth h.Caches t).Lists.length) (hn:0<(nth (nth h.Caches t).Lists k).length) (hc:bn (qS (nth h.Caches t) k)=true) :
  bm {h with Caches:=h.Caches.set t (qS (nth h.Caches t) k)} (nth (nth (nth h.Caches t).Lists k) ((nth (nth h.Caches t).Lists k).length - 1)::E)/\iU h.Spans (nth (nth (nth h.Caches t).Lists k) ((nth (nth h.Caches t).Lists k).length - 1)) k:=by
 have hl:=H9 hn;have hs:=hi.hca _ (am ht) k hk (nth (nth (nth h.Caches t).Lists k) ((nth (nth h.Caches t).Lists k).length - 1)) (am (by omega));refine⟨?_,hs⟩;generalize ha:nth (nth (nth h.Caches t).Lists k) ((nth (nth h.Caches t).Lists k).length - 1)=a at hl hs |-;have hp:(E++holders h).Perm (a::E++holders {h with Caches:=h.Caches.set t (qS (nth h.Caches t) k)}):=by
  refine List.perm_iff_count.2 fun b=>?_
  have h1:=ic (fun c:aC=>c.Lists.flatten) b h.Caches t (qS (nth h.Caches t) k) ht;have h2:=ic (fun y:List Int=>y) b (nth h.Caches t).Lists k ((nth (nth h.Caches t).Lists k).take ((nth (nth h.Caches t).Lists k).length - 1)) hk;rw[<-jD,<-jD]at h2;have h3:=R0 (List.count b) hl;simp only[List.count_append,List.count_singleton]at h3;simp only[qS]at h1;simp only[holders,ch,qS,List.count_append,List.cons_append,List.count_cons];omega
 exact {hi with
   nc:=by show(h.Caches.set ..).length=_;rw[Z0];exact hi.nc
   cach:=fun c hcm=>by
     rcases List.mem_or_eq_of_mem_set hcm with hcm|rfl
     · exact hi.cach c hcm
     · exact hc
   onu:=by show ∀ o∈h.Objs,1<=o.Id/\o.Id<=h.Next - 1/\0<=o.Thread/\o.Thread<=(h.Caches.set t _).length - 1;rw[Z0];exact hi.onu
   hca:=fun c hcm j hj b hb=>by
     rcases List.mem_or_eq_of_mem_set hcm with hcm|rfl
     · exact hi.hca c hcm j hj b hb
     · simp only[qS,Z0]at hj
       simp only[qS,cx]at hb;by_cases e:k=j
       · subst e
         rw[if_pos ⟨rfl,hj⟩]at hb;exact hi.hca _ (am ht) _ hj b (List.mem_of_mem_take hb)
       · rw[if_neg fun y=>e y.1]at hb
         exact hi.hca _ (am ht) _ hj b hb
   hin:=fun b hb=>by
     rcases List.mem_cons.1 hb with rfl|hb
     · exact hs.any
     · exact hi.hin b hb
   nd:=hp.nodup_iff.1 hi.nd
   mem:=fun b=>by rw[<-hp.mem_iff];exact hi.mem b}
def KH (a:Int) (o:bO):Bool:=decide (a<=o.Addr)
def addO (h:ab) (a size t:Int):ab:={h with Objs:=iK (KH a) h.Objs ⟨h.Next,a,size,t⟩,Next:=h.Next+1}
theorem yE {h:ab} (hn:bU h=true) (hl:h.Next<1000000):decide (0<=h.Seed/\h.Seed<=1073741823/\0<=h.Clock/\h.Clock<=1000000/\0<=h.Limit/\h.Limit<=1000/\1<=h.Next+1/\h.Next+1<=1000000)=true:=by
 unfold bU at hn;rw[C0]at hn |-;omega
theorem bm.addO {h:ab} {E:List Int} {a size t:Int} (hi:bm h (a::E)) (ho:Ks h.Spans h.Larges ⟨h.Next,a,size,t⟩) (hn:h.Next<1000000) (ht:0<=t/\t<=h.Caches.length - 1):bm (addO h a size t) E:=by
 have hpo:=jx (KH a) h.Objs ⟨h.Next,a,size,t⟩;have hp:(a::E++holders h).Perm (E++holders (Ab.addO h a size t)):=by
  have h0:=hpo.map (·.Addr);refine List.perm_iff_count.2 fun b=>?_
  have h1:=h0.count_eq b;simp only[List.map_cons,List.count_cons]at h1;simp only[holders,ch,Ab.addO,List.count_append,List.cons_append,List.count_cons];omega
 have hnd:=hi.nd;rw[List.cons_append]at hnd;obtain⟨hna,-⟩:=List.nodup_cons.1 hnd;have hne:∀ o∈h.Objs,o.Addr≠a:=fun o ho e=>hna (C2.2 (.inr (by unfold holders;simp only[C2];exact .inl (.inl (.inl (P3.2 ⟨o,ho,e⟩))))))
 exact {hi with
   nums:=yE hi.nums hn
   osr:=ka (f:=fun o:bO=>o.Addr) (y:=⟨h.Next,a,size,t⟩) hi.osr hne
   onu:=fun o ho=>by
     rcases cY.1 ho with rfl|ho
     · have:=hi.nums
       unfold bU at this;rw[C0]at this;exact⟨by show 1<=h.Next;omega,by show h.Next<=h.Next+1 - 1;omega,ht⟩
     · have:=hi.onu o ho
       exact⟨this.1,by show o.Id<=h.Next+1 - 1;omega,this.2.2⟩
   oid:=by
     show((iK (KH a) h.Objs ⟨h.Next,a,size,t⟩).map (·.Id)).Nodup;rw[(hpo.map _).nodup_iff,List.map_cons];refine List.nodup_cons.2 ⟨fun hm=>?_,hi.oid⟩;obtain⟨o,ho,e⟩:=P3.1 hm;have:=(hi.onu o ho).2.1;simp only at e;omega
   oow:=fun o ho'=>by
     rcases cY.1 ho' with rfl|ho'
     · exact ho
     · exact hi.oow o ho'
   hin:=fun b hb=>hi.hin b (List.mem_cons_of_mem _ hb)
   nd:=hp.nodup_iff.1 hi.nd
   mem:=fun b=>by rw[<-hp.mem_iff];exact hi.mem b}
end Go.Proofs.YtembpgjjnioagaaGreat.Ab
