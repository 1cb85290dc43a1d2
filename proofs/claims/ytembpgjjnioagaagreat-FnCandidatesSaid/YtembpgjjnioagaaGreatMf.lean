/- Pages given back: what holds of a heap is kept. No condition. -/
import Derived.Test.YtembpgjjnioagaaGreatMd
import Derived.Test.YtembpgjjnioagaaGreatMe
import Derived.Deep.LoopGhost
import Derived.Deep.RegionLaw
import Derived.Lib.Walk
import Derived.Sort.WalkB12
import Derived.Lib.SliceRun
import Derived.Shelf.RegionOpenPlain
set_option linter.unusedVariables false
set_option linter.unusedSimpArgs false
set_option linter.constructorNameAsVariable false
namespace Go.Proofs.YtembpgjjnioagaaGreat.Ab
def dN (k:af) (p:Int):Nat->af
 | 0=>k
 | n+1=>dH (dN k p n) (p+n)
theorem kz {k:af} (h:aA k=true) (p:Int):∀ n,aA (dN k p n)=true
 | 0=>h
 | n+1=>vG _ (kz h p n)
theorem gV (k:af) (p:Int):∀ n,(dN k p n).Machine.Table.Entries.length=k.Machine.Table.Entries.length/\(dN k p n).Calls=k.Calls/\(dN k p n).Refuse=k.Refuse
 | 0=>⟨rfl,rfl,rfl⟩
 | n+1=>by
  obtain⟨h1,h2,h3⟩:=gV k p n;obtain⟨g1,g2,g3⟩:=p9 (dN k p n) (p+n);exact⟨g1.trans h1,g2.trans h2,g3.trans h3⟩
theorem uE {k:af} (h:aA k=true) {p:Int} (hp:0<=p/\p<k.Machine.Table.Entries.length) (q:Nat):nth (dH k p).Machine.Table.Entries q=if(q:Int)=p then⟨0,0⟩ else nth k.Machine.Table.Entries q:=by
 have he:ar k.Machine.Table p=nth k.Machine.Table.Entries p.toNat:=by unfold ar;rw[if_pos hp]
 unfold dH;split
 ·rename_i hm
  split
  ·rename_i hq
   rw[he]at hm;have h3:=(bx.1 (aC.1 h).2.2.1).1 p.toNat (by omega);unfold jV at h3;rw[C0]at h3;have h4:=h3.2.2.1 hm;rw[show q=p.toNat by omega];generalize nth k.Machine.Table.Entries p.toNat=e at hm h4;obtain⟨m,f⟩:=e;simp only at hm h4;rw[hm,h4]
  ·rfl
 ·rw[(od _ _).1]
  simp only[pH,cx];by_cases e:(q:Int)=p
  ·rw[if_pos ⟨by omega,by omega⟩,if_pos e]
  ·rw[if_neg fun x=>e (by omega),if_neg e]
theorem kY {k:af} (h:aA k=true) {p:Int} (hp:0<=p):∀ n:Nat,p+n<=k.Machine.Table.Entries.length->∀ q:Nat,nth (dN k p n).Machine.Table.Entries q=if p<=q/\(q:Int)<p+n then⟨0,0⟩ else nth k.Machine.Table.Entries q
 | 0,_,q=>by rw[if_neg (by omega)];rfl
 | n+1,hn,q=>by
  have h1:=kY h hp n (by omega) q;have h2:=uE (kz h p n) (p:=p+n) ⟨by omega,by rw[(gV k p n).1];omega⟩ q;show nth (dH (dN k p n) (p+n)).Machine.Table.Entries q=_;rw[h2,h1];by_cases e:(q:Int)=p+n
  ·rw[if_pos e,if_pos ⟨by omega,by omega⟩]
  ·rw[if_neg e]
   by_cases e2:p<=q/\(q:Int)<p+n
   ·rw[if_pos e2,if_pos ⟨by omega,by omega⟩]
   ·rw[if_neg e2,if_neg (by omega)]
theorem BC {α β:Type} (f:α->List β) {xs ys:List α} (h:xs.Sublist ys):(xs.flatMap f).Sublist (ys.flatMap f):=by
 induction h with
 | slnil=>exact List.Sublist.refl _
 | cons a _ ih=>rw[W4];exact ih.trans (List.sublist_append_right ..)
 | cons_cons a _ ih=>rw[W4,W4];exact List.Sublist.append (List.Sublist.refl _) ih
theorem wx {h:ab} {E:List Int} (hi:bo h E) {sp:List au} {la:List a8} {p:Int} {n:Nat} (hn:1<=n) (hs:sp.Sublist h.Spans) (hl:la.Sublist h.Larges) (hall:∀ q:Int,p<=q->q<p+n->q∈pgs h.Spans h.Larges) (hp:0<=p) (hm:∀ q,q∈pgs sp la↔q∈pgs h.Spans h.Larges/\¬(p<=q/\q<p+n)) :
  ∃ o,dn (dQ h) h.Free ⟨p,n⟩ = some o/\aA (dN h.Kernel p n)=true/\bv ((dN h.Kernel p n).Machine.Table.Entries.length:Nat) o=true/\bk sp la=true/\Pg (dN h.Kernel p n).Machine.Table o sp la:=by
 have hlast:=hi.pg.bnd _ (hall (p+n - 1) (by omega) (by omega));have hlen:=(gV h.Kernel p n).1;have hlt:p+n<=h.Kernel.Machine.Table.Entries.length:=by unfold tbl at hlast;omega
 have hent:=kY hi.ker hp n hlt;obtain⟨o,o1,o2,o3⟩:=sA (r:=⟨p,n⟩) hi.rng ⟨hp,by simp only;omega,hlt⟩ fun q q1 q2=>by
  simp only at q1 q2;obtain⟨m,rfl⟩:=Z1 (show 0<=q by omega);have hml:m<(tbl h).Entries.length:=by unfold tbl;omega
  exact(hi.pg.fre m hml).1 ((hi.pg.own m hml).2 (hall _ q1 q2))
 refine⟨o,o1,kz hi.ker p n,by rw[hlen];exact o2,?_,?_⟩
 ·obtain⟨l1,l2,l3⟩:=cY hi.lay
  unfold bk;simp only[I0,C0];exact⟨⟨v3.2 fun s h1=>v3.1 l1 s (hs.subset h1),v3.2 fun l h1=>v3.1 l2 l (hl.subset h1)⟩,l3.sublist ((hs.map _).append (BC _ hl))⟩
 ·have hold:∀ q:Nat,(q:Int)∈pgs sp la->nth (dN h.Kernel p n).Machine.Table.Entries q=nth (tbl h).Entries q:=fun q hq=>by rw[hent,if_neg ((hm q).1 hq).2];rfl
  have hmode:∀ q:Nat,(nth (dN h.Kernel p n).Machine.Table.Entries q).Mode≠0↔(nth (tbl h).Entries q).Mode≠0/\¬(p<=q/\(q:Int)<p+n):=fun q=>by
   rw[hent];by_cases e:p<=q/\(q:Int)<p+n
   ·rw[if_pos e];exact⟨fun x=>absurd rfl x,fun x=>absurd e x.2⟩
   ·rw[if_neg e];exact⟨fun x=>⟨x,e⟩,fun x=>x.1⟩
  refine⟨fun l h1 q hq r hr hrm hrf=>?_,fun q hq=>?_,fun q hq=>?_,fun q hq=>?_,fun s h1 u h2 hne hf=>?_⟩
  ·have hr2:=(hmode r).1 hrm
   rw[hlen]at hr;rw[hold q (eZ h1 hq),hent,if_neg hr2.2]at hrf;exact hi.pg.one l (hl.subset h1) q hq r hr hr2.1 hrf
  ·rw[hlen];exact hi.pg.bnd q ((hm q).1 hq).1
  ·rw[hlen]at hq
   rw[hmode,hm,hi.pg.own q hq]
  ·rw[hlen]at hq
   rw[hmode,o3,hi.pg.fre q hq];simp only
   grind
  ·have hpos:∀ s∈sp,0<=s.Page:=fun s h1=>(aF (hi.L.sok s (hs.subset h1))).1
   have e1:=hold s.Page.toNat (by rw[Int.toNat_of_nonneg (hpos s h1)];exact dv h1);have e2:=hold u.Page.toNat (by rw[Int.toNat_of_nonneg (hpos u h2)];exact dv h2);rw[e1,e2]at hf;exact hi.pg.mesh s (hs.subset h1) u (hs.subset h2) hne hf
theorem ec {α:Type} [Inhabited α] {xs:List α} {k:Nat} {z:α} : z∈dele xs k↔∃ j,j<xs.length/\j≠k/\nth xs j=z:=by
 unfold dele;rw[C2];constructor
 ·rintro(h|h)
  ·obtain⟨j,hj,rfl⟩:=List.mem_take_iff_getElem.1 h
   exact⟨j,by omega,by omega,bn (Q1 (by omega))⟩
  ·obtain⟨j,hj,rfl⟩:=List.mem_drop_iff_getElem.1 h
   exact⟨k+1+j,by omega,by omega,bn (Q1 (by omega))⟩
 ·rintro⟨j,hj,hne,rfl⟩
  rw[bn (Q1 hj)];by_cases e:j<k
  ·exact .inl (List.mem_take_iff_getElem.2 ⟨j,by omega,rfl⟩)
  ·refine .inr (List.mem_drop_iff_getElem.2 ⟨j - (k+1),by omega,?_⟩)
   congr 1;omega
theorem nL {sp:List au} {la:List a8} {q:Int} : q∈pgs sp la↔(∃ s∈sp,s.Page=q)\/∃ l∈la,q∈lpgs l l.Pages.toNat:=by
 unfold pgs;simp only[C2,O3,List.mem_flatMap]
theorem zD {s:au} (h:s.Bits=0) (a:Int):¬eU s a:=by
 rintro⟨-,-,-,h4⟩
 rw[fK,h]at h4;simp at h4
theorem bo.giveSpan {h:ab} {E:List Int} {i:Nat} (hi:bo h E) (li:i<h.Spans.length) (hb:(nth h.Spans i).Bits=0) (hj:h.Meshing=true->(nth h.Spans i).Page≠h.Job.Plan.Keep/\(nth h.Spans i).Page≠h.Job.Plan.Move) :
  ∃ o,dn (dQ h) h.Free ⟨(nth h.Spans i).Page,1⟩ = some o/\bo {h with Kernel:=dH h.Kernel (nth h.Spans i).Page,Spans:=dele h.Spans i,Free:=o} E:=by
 have hL:=hi.L;have hc:=aF (hL.sok _ (am li));have hmem:∀ q,q∈pgs (dele h.Spans i) h.Larges↔q∈pgs h.Spans h.Larges/\¬((nth h.Spans i).Page<=q/\q<(nth h.Spans i).Page+(1:Nat)):=fun q=>by
  rw[nL,nL];constructor
  ·rintro(⟨s,hs,rfl⟩|⟨l,hl,hq⟩)
   ·obtain⟨j,hjl,hji,rfl⟩:=ec.1 hs
    refine⟨.inl ⟨_,am hjl,rfl⟩,fun e=>hji (gx (f:=(·.Page)) hL.nd hjl li (by omega))⟩
   ·refine⟨.inr ⟨l,hl,hq⟩,fun e=>?_⟩
    obtain⟨k,hk,rfl⟩:=db.1 hq;exact hL.dis _ (am li) l hl k hk (by omega)
  ·rintro⟨⟨s,hs,rfl⟩|⟨l,hl,hq⟩,hne⟩
   ·obtain⟨j,hjl,rfl⟩:=bf hs
    refine .inl ⟨_,ec.2 ⟨j,hjl,fun e=>hne (by subst e;omega),rfl⟩,rfl⟩
   ·exact .inr ⟨l,hl,hq⟩
 obtain⟨o,o1,o2,o3,o4,o5⟩:=wx hi (sp:=dele h.Spans i) (la:=h.Larges) (p:=(nth h.Spans i).Page) (n:=1) (I2 _) (fh ..) (List.Sublist.refl _) (fun q q1 q2=>by rw[show q=(nth h.Spans i).Page by omega];exact dv (am li)) hc.1 hmem;have hu:dN h.Kernel (nth h.Spans i).Page 1=dH h.Kernel (nth h.Spans i).Page:=by show dH h.Kernel ((nth h.Spans i).Page+((0:Nat):Int))=_;rw[show(nth h.Spans i).Page+((0:Nat):Int)=(nth h.Spans i).Page by omega]
 rw[hu]at o2 o3 o5;have hSl:∀ b c,iU (dele h.Spans i) b c↔iU h.Spans b c:=fun b c=>by
  constructor
  ·rintro⟨s,hs,h1⟩;exact⟨s,(fh ..).subset hs,h1⟩
  ·rintro⟨s,hs,h1,h2⟩
   obtain⟨j,hjl,rfl⟩:=bf hs;exact⟨_,ec.2 ⟨j,hjl,fun e=>zD hb b (by rw[<-e];exact h1),rfl⟩,h1,h2⟩
 refine⟨o,o1,{hi with
   ker:=o2
   rng:=o3
   lay:=o4
   srs:=hi.srs.sublist (fh ..)
   pg:=o5
   oow:=fun ob ho=>?_
   hca:=fun c hc k hk b hb=>(hSl b k).2 (hi.hca c hc k hk b hb)
   hqu:=fun x hx=>(hSl _ _).2 (hi.hqu x hx)
   hfl:=fun b hb=>(hSl _ _).2 (hi.hfl b hb)
   hin:=fun b hb=>(hSl _ _).2 (hi.hin b hb)
   mem:=fun b=>(hi.mem b).trans ?_
   job:=fun hm=>?_}⟩
 ·rcases hi.oow ob ho with⟨s,hs,h1,h2⟩|h1
  ·obtain⟨j,hjl,rfl⟩:=bf hs
   exact .inl ⟨_,ec.2 ⟨j,hjl,fun e=>zD hb _ (by rw[<-e];exact h1),rfl⟩,h1,h2⟩
  ·exact .inr h1
 ·unfold ll;rw[hSl]
 ·obtain⟨j1,⟨s,hs,e1⟩,⟨u,hu,e2⟩⟩:=hi.job hm
  obtain⟨n1,n2⟩:=hj hm;obtain⟨a,hal,rfl⟩:=bf hs;obtain⟨b,hbl,rfl⟩:=bf hu;exact⟨j1,⟨_,ec.2 ⟨a,hal,fun e=>n1 (by rw[<-e];exact e1),rfl⟩,e1⟩,⟨_,ec.2 ⟨b,hbl,fun e=>n2 (by rw[<-e];exact e2),rfl⟩,e2⟩⟩
theorem bo.dropL {h:ab} {E:List Int} {i k:Nat} (hi:bo h E) (li:i<h.Objs.length) (lk:k<h.Larges.length) (ea:(nth h.Objs i).Addr=16*(nth h.Larges k).Page) :
  ∃ o,dn (dQ h) h.Free ⟨(nth h.Larges k).Page,(nth h.Larges k).Pages⟩ = some o/\bo {h with Kernel:=dN h.Kernel (nth h.Larges k).Page (nth h.Larges k).Pages.toNat,Larges:=dele h.Larges k,Free:=o,Objs:=dele h.Objs i} E:=by
 have hL:=hi.L;have hf:=aU (hL.lok _ (am lk));have hmem:∀ q,q∈pgs h.Spans (dele h.Larges k)↔q∈pgs h.Spans h.Larges/\¬((nth h.Larges k).Page<=q/\q<(nth h.Larges k).Page+((nth h.Larges k).Pages.toNat:Nat)):=fun q=>by
  rw[nL,nL];constructor
  ·rintro(⟨s,hs,rfl⟩|⟨l,hl,hq⟩)
   ·refine⟨.inl ⟨s,hs,rfl⟩,fun e=>hL.dis s hs _ (am lk) (s.Page - (nth h.Larges k).Page).toNat (by omega) (by omega)⟩
   ·obtain⟨j,hjl,hji,rfl⟩:=ec.1 hl
    refine⟨.inr ⟨_,am hjl,hq⟩,fun e=>?_⟩;obtain⟨m,hm,rfl⟩:=db.1 hq;exact hji (hL.one j k hjl lk m ((nth h.Larges j).Page+(m:Int) - (nth h.Larges k).Page).toNat hm (by omega) (by omega))
  ·rintro⟨⟨s,hs,rfl⟩|⟨l,hl,hq⟩,hne⟩
   ·exact .inl ⟨s,hs,rfl⟩
   ·obtain⟨j,hjl,rfl⟩:=bf hl
    refine .inr ⟨_,ec.2 ⟨j,hjl,fun e=>hne ?_,rfl⟩,hq⟩;subst e;obtain⟨m,hm,rfl⟩:=db.1 hq;omega
 obtain⟨o,o1,o2,o3,o4,o5⟩:=wx hi (sp:=h.Spans) (la:=dele h.Larges k) (p:=(nth h.Larges k).Page) (n:=(nth h.Larges k).Pages.toNat) (by omega) (List.Sublist.refl _) (fh ..) (fun q q1 q2=>eZ (am lk) (db.2 ⟨(q - (nth h.Larges k).Page).toNat,by omega,by omega⟩)) hf.2.2.1 hmem;rw[Int.toNat_of_nonneg (by omega)]at o1;have hp:(E++holders h).Perm ((nth h.Objs i).Addr::(E++holders {h with Objs:=dele h.Objs i})):=by
  have h0:=(yo li).map (·.Addr);refine List.perm_iff_count.2 fun a=>?_
  have h1:=h0.count_eq a;simp only[O4,List.count_cons]at h1;simp only[holders,ch,P4,List.count_cons];omega
 have hnd:=hp.nodup_iff.1 hi.nd;obtain⟨hna,hnd⟩:=List.nodup_cons.1 hnd;have hmm:∀ b,(b=(nth h.Objs i).Addr\/b∈E++holders {h with Objs:=dele h.Objs i})↔ll h.Spans h.Larges b:=fun b=>by rw[<-hi.mem b,hp.mem_iff,List.mem_cons]
 have hne:∀ b,b∈E++holders {h with Objs:=dele h.Objs i}->b≠(nth h.Objs i).Addr:=fun b hb e=>hna (by rw[<-e];exact hb)
 refine⟨o,o1,{hi with
   ker:=o2
   rng:=o3
   lay:=o4
   srl:=hi.srl.sublist (fh ..)
   pg:=o5
   osr:=hi.osr.sublist (fh ..)
   onu:=fun ob ho=>hi.onu ob ((fh ..).subset ho)
   oid:=hi.oid.sublist ((fh ..).map _)
   oow:=fun ob ho=>?_
   nd:=hnd
   mem:=fun b=>?_}⟩
 ·rcases hi.oow ob ((fh ..).subset ho) with h1|⟨l,hl,e1,e2⟩
  ·exact .inl h1
  ·obtain⟨j,hjl,rfl⟩:=bf hl
   refine .inr ⟨_,ec.2 ⟨j,hjl,fun e=>?_,rfl⟩,e1,e2⟩;subst e;refine hne ob.Addr (C2.2 (.inr ?_)) (by rw[ea];exact e1);unfold holders;simp only[C2];exact .inl (.inl (.inl (O3.2 ⟨ob,ho,rfl⟩)))
 ·constructor
  ·intro hb
   rcases(hmm b).1 (.inr hb) with h1|⟨l,hl,rfl⟩
   ·exact .inl h1
   ·obtain⟨j,hjl,rfl⟩:=bf hl
    exact .inr ⟨_,ec.2 ⟨j,hjl,fun e=>hne _ hb (by rw[ea,e]),rfl⟩,rfl⟩
  ·rintro(h1|⟨l,hl,rfl⟩)
   ·refine((hmm b).2 (.inl h1)).resolve_left fun e=>?_
    obtain⟨s,hs,⟨g1,g2,-⟩,-⟩:=h1;exact(uY hL (am lk)).1 s hs (by rw[e,ea]at g1 g2;exact⟨g1,g2⟩)
   ·obtain⟨j,hjl,hji,rfl⟩:=ec.1 hl
    refine((hmm _).2 (.inr ⟨_,am hjl,rfl⟩)).resolve_left fun e=>hji ?_
    have g1:=aU (hL.lok _ (am hjl));rw[ea]at e;exact hL.one j k hjl lk 0 0 (by omega) (by omega) (by omega)
def gv (h:ab) (p:Int):Bool:=h.Meshing&&(decide (p=h.Job.Plan.Keep) || decide (p=h.Job.Plan.Move))
def giveP (h:ab) (i:Nat):ab:={h with Kernel:=dH h.Kernel (nth h.Spans i).Page,Spans:=dele h.Spans i,Free:=(dn (dQ h) h.Free ⟨(nth h.Spans i).Page,1⟩).getD h.Free}
def clrS (h:ab) (i:Nat) (a:Int):ab:={h with Spans:=h.Spans.set i (lX (nth h.Spans i) (dS (nth h.Spans i) a))}
def freeS (h:ab) (i:Nat) (a:Int):ab:=if(lX (nth h.Spans i) (dS (nth h.Spans i) a)).Bits=0/\gv h (nth h.Spans i).Page=false then giveP (clrS h i a) i else clrS h i a
def wb (h:ab) (a:Int):Nat:=(er h (a / 16)).toNat
def freeA (h:ab) (a:Int):ab:=freeS h (wb h a) a
def cput (c:aB) (k a:Int):Option aB:=if br c=true/\0<=k/\k<=3/\br (lN c k.toNat a)=true then some (lN c k.toNat a) else none
def recyc (t:Nat) (h:ab) (a:Int):ab:=match cput (nth h.Caches t) (nth h.Spans (wb h a)).Class a with
 | some c=>{h with Caches:=h.Caches.set t c}
 | none=>freeA h a
theorem bo.at {h:ab} {E:List Int} {a:Int} (hi:bo h E) (ha:iU h.Spans a (-1)):wb h a<h.Spans.length/\eU (nth h.Spans (wb h a)) a/\er h (a / 16)=(wb h a:Nat):=by
 obtain⟨s,hs,h1,-⟩:=ha;obtain⟨i,li,rfl⟩:=bf hs;have hp:(nth h.Spans i).Page=a / 16:=by have a1:=h1.1;have a2:=h1.2.1;omega
 have hon:=lc hi.L li;rw[hp]at hon;have hx:wb h a=i:=by unfold wb;rw[hon];rfl
 rw[hx];exact⟨li,h1,hon⟩
theorem HT {h:ab} {p:Int} (e:gv h p=false) (hm:h.Meshing=true):p≠h.Job.Plan.Keep/\p≠h.Job.Plan.Move:=by
 unfold gv at e;rw[hm]at e;simpa using e
theorem bo.freeS {h:ab} {E:List Int} {a:Int} {i:Nat} (hi:bo h (a::E)) (li:i<h.Spans.length) (ha:eU (nth h.Spans i) a):bo (freeS h i a) E:=by
 have h1:=hi.give li ha;unfold Ab.freeS;split
 ·rename_i e
  have hn:nth (clrS h i a).Spans i=lX (nth h.Spans i) (dS (nth h.Spans i) a):=by unfold clrS;simp only[cx,true_and];rw[if_pos li]
  obtain⟨o,o1,o2⟩:=bo.giveSpan (h:=clrS h i a) h1 (i:=i) (by unfold clrS;simp only[Z0];exact li) (by rw[hn];exact e.1) (fun hm=>by rw[hn];exact HT e.2 hm);unfold giveP;rw[o1];exact o2
 ·exact h1
theorem bo.freeA {h:ab} {E:List Int} {a:Int} (hi:bo h (a::E)):bo (freeA h a) E:=by
 obtain⟨h1,h2,-⟩:=hi.at (hi.hin a (I1 ..));exact hi.freeS h1 h2
theorem sO {c:aB} (h:br c=true):c.Lists.length=4:=by
 unfold br at h;simp only[I0,C0]at h;exact h.1
theorem bo.recyc {h:ab} {E:List Int} {a:Int} {t:Nat} (hi:bo h (a::E)) (ht:t<h.Caches.length):bo (recyc t h a) E:=by
 obtain⟨h1,h2,-⟩:=hi.at (hi.hin a (I1 ..));unfold Ab.recyc;split
 ·rename_i c hc
  unfold cput at hc;split at hc
  ·rename_i e
   cases hc;obtain⟨e1,e2,e3,e4⟩:=e;exact hi.put ht (by rw[sO e1];omega) ⟨_,am h1,h2,.inr (by omega)⟩ e4
  ·cases hc
 ·exact hi.freeA
theorem wn (h:ab) (i:Nat) (a:Int):(freeS h i a).Caches=h.Caches/\(freeS h i a).Objs=h.Objs/\(freeS h i a).Kernel.Calls=h.Kernel.Calls/\(freeS h i a).Mail=h.Mail/\(freeS h i a).Job=h.Job/\(freeS h i a).Clock=h.Clock/\(freeS h i a).Quar=h.Quar/\(freeS h i a).Kernel.Refuse=h.Kernel.Refuse:=by
 unfold freeS;split
 ·obtain⟨-,h2,h3⟩:=p9 (clrS h i a).Kernel (nth (clrS h i a).Spans i).Page
  exact⟨rfl,rfl,h2,rfl,rfl,rfl,rfl,h3⟩
 ·exact⟨rfl,rfl,rfl,rfl,rfl,rfl,rfl,rfl⟩
theorem pI (t:Nat) (h:ab) (a:Int):(recyc t h a).Caches.length=h.Caches.length/\(recyc t h a).Objs=h.Objs/\(recyc t h a).Kernel.Calls=h.Kernel.Calls/\(recyc t h a).Mail=h.Mail/\(recyc t h a).Job=h.Job/\(recyc t h a).Clock=h.Clock/\(recyc t h a).Quar=h.Quar/\(recyc t h a).Kernel.Refuse=h.Kernel.Refuse:=by
 unfold recyc;split
 ·exact⟨Z0 ..,rfl,rfl,rfl,rfl,rfl,rfl,rfl⟩
 ·obtain⟨h1,h2⟩:=wn h (wb h a) a
  exact⟨R0 _ h1,h2⟩
def recycs (t:Nat) (h:ab) (az:List Int):ab:=az.foldl (recyc t) h
theorem iF (t:Nat):∀ (az:List Int) (h:ab),(recycs t h az).Caches.length=h.Caches.length/\(recycs t h az).Objs=h.Objs/\(recycs t h az).Kernel.Calls=h.Kernel.Calls/\(recycs t h az).Mail=h.Mail/\(recycs t h az).Job=h.Job/\(recycs t h az).Clock=h.Clock/\(recycs t h az).Quar=h.Quar/\(recycs t h az).Kernel.Refuse=h.Kernel.Refuse
 | [],h=>⟨rfl,rfl,rfl,rfl,rfl,rfl,rfl,rfl⟩
 | a::az,h=>by
  obtain⟨h1,h2,h3,h4,h5,h6,h7,h8⟩:=iF t az (recyc t h a);obtain⟨g1,g2,g3,g4,g5,g6,g7,g8⟩:=pI t h a;exact⟨h1.trans g1,h2.trans g2,h3.trans g3,h4.trans g4,h5.trans g5,h6.trans g6,h7.trans g7,h8.trans g8⟩
theorem bo.recycs {t:Nat} {E:List Int} : ∀ {az:List Int} {h:ab},bo h (az++E)->t<h.Caches.length->bo (recycs t h az) E
 | [],h,hi,_=>hi
 | a::az,h,hi,ht=>bo.recycs (az:=az) (h:=Ab.recyc t h a) (hi.recyc ht) (by rw[(pI t h a).1];exact ht)
def qc (l:List aL):Int:=quarCells l l.length
def m9 (room:Int):List aL->Nat
 | []=>0
 | x::xs=>if room<qc (x::xs) then m9 room xs+1 else 0
def Gy (q:bA) (x:aL):bA:=⟨q.Room,(q.Lst++[x]).drop (m9 q.Room (q.Lst++[x]))⟩
def zg (q:bA) (x:aL):List aL:=(q.Lst++[x]).take (m9 q.Room (q.Lst++[x]))
theorem Be (room:Int):∀ l,m9 room l<=l.length
 | []=>I2 _
 | x::xs=>by unfold m9;split;(have:=Be room xs;simp only[List.length_cons];omega);omega
theorem Aa {room:Int} (hr:0<=room):∀ l:List aL,qc (l.drop (m9 room l))<=room
 | []=>hr
 | x::xs=>by
  unfold m9;split
  ·exact Aa hr xs
  ·rename_i h;show qc (x::xs)<=room;omega
theorem ym {room:Int} : ∀ {l:List aL} {k:Nat},k<m9 room l->room<qc (l.drop k)
 | [],k,h=>by cases h
 | x::xs,0,h=>by
  unfold m9 at h;split at h
  ·assumption
  ·omega
 | x::xs,k+1,h=>by
  unfold m9 at h;split at h
  ·exact ym (l:=xs) (by omega)
  ·omega
theorem iP {q:bA} : f6 q=true↔(∀ x∈q.Lst,0<=x.Class/\x.Class<=3/\0<=x.Addr/\0<=x.Since)/\(q.Lst.Pairwise fun a b=>a.Since<=b.Since)/\(q.Lst.map (·.Addr)).Nodup/\0<=q.Room/\q.Room<=500/\qc q.Lst<=q.Room:=by
 refine Iff.trans ?_ (and_congr Iff.rfl (and_congr (tM (fun a b:Int=>a<=b) (fun a b c=>Int.le_trans) (fun s:aL=>s.Since) q.Lst) (and_congr (y7 (fun s:aL=>s.Addr) q.Lst) Iff.rfl)));unfold f6 qc;simp only[I0,C0,bZ,js,Bool.not_eq_true',List.any_eq_false,dJ];constructor
 ·rintro⟨h1,h2⟩
  refine⟨fun x hx=>?_,fun i hi=>(h1 i hi).1.2.2.2.2,fun i hi=>(h1 i hi).2,h2⟩;obtain⟨i,hi,rfl⟩:=bf hx;obtain⟨⟨a1,a2,a3,a4,-⟩,-⟩:=h1 i hi;exact⟨a1,a2,a3,a4⟩
 ·rintro⟨h1,h2,h3,h4⟩
  refine⟨fun i hi=>?_,h4⟩;obtain⟨a1,a2,a3,a4⟩:=h1 _ (am hi);exact⟨⟨a1,a2,a3,a4,h2 i hi⟩,h3 i hi⟩
theorem LC {q:bA} {x:aL} (h:f6 q=true) (hx:0<=x.Class/\x.Class<=3/\0<=x.Addr/\0<=x.Since) (hs:∀ y∈q.Lst,y.Since<=x.Since) (hn:∀ y∈q.Lst,y.Addr≠x.Addr):f6 (Gy q x)=true:=by
 obtain⟨h1,h2,h3,h4,h5,h6⟩:=iP.1 h;have hsub:(Gy q x).Lst.Sublist (q.Lst++[x]):=List.drop_sublist ..;refine iP.2 ⟨fun y hy=>?_,List.Pairwise.sublist hsub ?_,List.Nodup.sublist (hsub.map _) ?_,h4,h5,Aa h4 _⟩
 ·rcases C2.1 (hsub.subset hy) with hy|hy
  ·exact h1 y hy
  ·rw[X0.1 hy];exact hx
 ·exact List.pairwise_append.2 ⟨h2,List.pairwise_singleton ..,fun a ha b hb=>by rw[X0.1 hb];exact hs a ha⟩
 ·rw[C4]
  refine List.nodup_append.2 ⟨h3,by simp,fun a ha b hb=>?_⟩;obtain⟨y,hy,rfl⟩:=O3.1 ha;simp only[O4,List.map_nil,X0]at hb;rw[hb];exact hn y hy
def lv (r:List Int) (o:Nat):Nat->List Int
 | 0=>r
 | n+1=>(lv r o n).set (o+n) 0
def fS (k:af) (a:Int):Nat:=(ar k.Machine.Table (a / 16)).Frame.toNat
def fJ (k:af) (a:Int) (n:Nat):af:={k with Machine:=⟨⟨k.Machine.Frames.Cells.set (fS k a) (lv (nth k.Machine.Frames.Cells (fS k a)) (a % 16).toNat n),k.Machine.Frames.Used⟩,k.Machine.Table⟩}
theorem nU (r:List Int) (o:Nat):∀ n,(lv r o n).length=r.length
 | 0=>rfl
 | n+1=>by unfold lv;rw[Z0,nU r o n]
theorem xM {r:List Int} {o:Nat} : ∀ {n:Nat} {v:Int},v∈lv r o n->v∈r\/v=0
 | 0,v,h=>.inl h
 | n+1,v,h=>by
  rcases U4 h with h|h
  ·exact xM h
  ·exact .inr h
theorem D4 {k:af} (h:aA k=true) (a:Int) (n:Nat):aA (fJ k a n)=true:=by
 obtain⟨h1,h2,h3,h4,h5⟩:=aC.1 h;obtain⟨g1,g2,g3,g4⟩:=bg.1 h2;refine aC.2 ⟨h1,bg.2 ⟨?_,?_,?_,fun j hj=>?_⟩,h3,h4,h5⟩
 ·simp only[fJ,Z0];exact g1
 ·simp only[fJ,Z0];exact g2
 ·simp only[fJ,Z0];exact g3
 ·simp only[fJ,Z0]at hj |-
  simp only[cx];split
  ·rename_i e
   have h6:=g4 j hj;unfold gQ at h6 |-;simp only[I0,C0,v3]at h6 |-;rw[e.1]at *;refine⟨by rw[nU];exact h6.1,fun v hv=>?_⟩;rcases xM hv with hv|rfl
   ·exact h6.2 v hv
   ·unfold ir;simp
  ·exact g4 j hj
def xi (h:ab) (a:Int):Nat:=(h.Larges.findIdx? fun l=>decide (l.Page*16=a)).getD 0
def freeL (h:ab) (i k:Nat):ab:={h with Kernel:=dN h.Kernel (nth h.Larges k).Page (nth h.Larges k).Pages.toNat,Larges:=dele h.Larges k,Free:=(dn (dQ h) h.Free ⟨(nth h.Larges k).Page,(nth h.Larges k).Pages⟩).getD h.Free,Objs:=dele h.Objs i}
def kF (h:ab) (o:bJ):aL:=⟨o.Addr,aO o.Size,h.Clock⟩
def inQuar (h:ab) (i:Nat):ab:={h with Kernel:=fJ h.Kernel (nth h.Objs i).Addr (csz (aO (nth h.Objs i).Size)).toNat,Objs:=dele h.Objs i,Quar:=Gy h.Quar (kF h (nth h.Objs i))}
def Ja (h:ab) (t i:Nat):ab:=recycs t (inQuar h i) ((zg h.Quar (kF h (nth h.Objs i))).map (·.Addr))
def freeOb (h:ab) (t i:Nat):ab × Int:=
 if aO (nth h.Objs i).Size<0 then(freeL h i (xi h (nth h.Objs i).Addr),0)
 else if(ar (tbl h) ((nth h.Objs i).Addr / 16)).Mode=1 then(h,5)
 else(Ja h t i,0)
theorem zV {h:ab} {l:a8} (hl:l∈h.Larges) {a:Int} (e:a=16*l.Page):xi h a<h.Larges.length/\a=16*(nth h.Larges (xi h a)).Page/\(∀ j,j<xi h a->(nth h.Larges j).Page*16≠a)/\h.Larges.findIdx? (fun l=>decide (l.Page*16=a))=some (xi h a):=by
 cases h1:h.Larges.findIdx? fun l=>decide (l.Page*16=a) with
 | none=>
  have:=List.findIdx?_eq_none_iff.1 h1 l hl;rw[T3]at this;omega
 | some k=>
  obtain⟨hk,hp,hb⟩:=Z4.1 h1;have hx:xi h a=k:=by unfold xi;rw[h1];rfl
  rw[hx];rw[<-bn (Q1 hk),C0]at hp;refine⟨hk,by omega,fun j hj=>?_,rfl⟩;have:=hb j hj;rw[<-bn (Q1 (show j<h.Larges.length by omega))]at this;simpa using this
theorem eX {h:ab} {E:List Int} (hi:bo h E) {o:bJ} (ho:o∈h.Objs):(aO o.Size<0->NT h.Larges o.Addr o.Size)/\(¬aO o.Size<0->(∃ s∈h.Spans,eU s o.Addr/\s.Class=aO o.Size)/\aO o.Size<=3):=by
 rcases hi.oow o ho with⟨s,hs,h1,h2⟩|⟨l,hl,h1,h2⟩
 ·have hc:=aF (hi.L.sok s hs)
  exact⟨fun e=>by omega,fun _=>⟨⟨s,hs,h1,h2⟩,by omega⟩⟩
 ·have hf:=cr (hi.L.lok l hl)
  refine⟨fun _=>⟨l,hl,h1,h2⟩,fun e=>absurd ?_ e⟩;unfold aO;rw[if_neg (by omega),if_neg (by omega),if_neg (by omega),if_neg (by omega),if_neg (by omega)]
  decide
theorem bo.inQuar {h:ab} {i:Nat} (hi:bo h []) (li:i<h.Objs.length) (hc:¬aO (nth h.Objs i).Size<0):bo (inQuar h i) ((zg h.Quar (kF h (nth h.Objs i))).map (·.Addr)):=by
 obtain⟨⟨s,hs,h1,h2⟩,h3⟩:=(eX hi (am li)).2 hc;have hSl:iU h.Spans (nth h.Objs i).Addr (aO (nth h.Objs i).Size):=⟨s,hs,h1,.inr h2⟩
 have hn:=hi.nums;unfold bW at hn;rw[C0]at hn;have hsc:=aF (hi.L.sok s hs);have g1:=hi.dropO li hSl.any;have g2:=g1.cells (k:=fJ h.Kernel (nth h.Objs i).Addr (csz (aO (nth h.Objs i).Size)).toNat) (D4 hi.ker _ _) rfl;have hnq:∀ y∈h.Quar.Lst,y.Addr≠(nth h.Objs i).Addr:=fun y hy e=>by
  have hnd:=g1.nd;rw[List.cons_append,List.nil_append]at hnd;refine(List.nodup_cons.1 hnd).1 ?_;rw[<-e];unfold holders;simp only[C2];exact .inl (.inr (O3.2 ⟨y,hy,rfl⟩))
 have g3:=bo.toQuar (x:=kF h (nth h.Objs i)) (q:=Gy h.Quar (kF h (nth h.Objs i))) (out:=zg h.Quar (kF h (nth h.Objs i))) g2 (LC hi.quar ⟨by show 0<=aO _;omega,h3,by show 0<=(nth h.Objs i).Addr;have:=h1.1;omega,hn.2.2.1⟩ (fun y hy=>hi.snc y hy) hnq) (by unfold zg Gy;simp only[List.take_append_drop]) (W3 _) hSl;rw[List.append_nil]at g3;exact g3
theorem bo.freeOb {h:ab} {t i:Nat} (hi:bo h []) (li:i<h.Objs.length) (ht:t<h.Caches.length):bo (freeOb h t i).1 []:=by
 unfold Ab.freeOb;split
 ·rename_i hc
  obtain⟨l,hl,h1,-⟩:=(eX hi (am li)).1 hc;obtain⟨k1,k2,-⟩:=zV hl h1;obtain⟨o,o1,o2⟩:=hi.dropL li k1 k2;unfold Ab.freeL;rw[o1];exact o2
 ·rename_i hc
  split
  ·exact hi
  ·have h1:=hi.inQuar li hc
   refine bo.recycs (E:=[]) ?_ ht;rw[List.append_nil];exact h1
theorem FX:∀ {H L:List Int},H.Nodup->(∀ x∈H,x∈L)->H.length<=L.length
 | [],L,_,_=>Q0 _
 | y::H,L,hn,hs=>by
  have hy:y∈L:=hs y (I1 ..);have hn2:=List.nodup_cons.1 hn;have:=FX (L:=L.erase y) hn2.2 fun z hz=>(List.mem_erase_of_ne (fun e:z=y=>hn2.1 (by rw[<-e];exact hz))).2 (hs z (Z3 _ hz))
  rw[List.length_erase_of_mem hy]at this;have h1:=List.length_pos_of_mem hy;simp only[List.length_cons];omega
theorem wo {H:List Int} {n:Nat} (hn:H.Nodup) (hb:∀ x∈H,0<=x/\x<n):H.length<=n:=by
 have:=FX (L:=(List.range n).map fun(i:Nat)=>(i:Int)) hn fun x hx=>O3.2 ⟨x.toNat,List.mem_range.2 (by have:=hb x hx;omega),by have:=hb x hx;omega⟩
 simpa using this
theorem gP {α:Type} {f:α->Int} {xs:List α} (h:xs.Pairwise fun a b=>f a<f b):(xs.map f).Nodup:=by
 unfold List.Nodup;rw[List.pairwise_map];exact h.imp fun h e=>by omega
theorem Kk:∀ (ls:List (List Int)) (k:Nat) (s:List Int),(fD k s ls).isSome=true->∀ l∈ls,l.length<=8
 | [],_,_,_,l,hl=>by cases hl
 | x::ls,k,s,h,l,hl=>by
  simp only[fD]at h;cases e:dR k s x with
  | none=>rw[e]at h;cases h
  | some s'=>
   rw[e]at h;rcases List.mem_cons.1 hl with rfl|hl
   ·unfold dR at e
    split at e
    ·rename_i c;exact c.1
    ·cases e
   ·exact Kk ls (k+1) s' h l hl
theorem ee {c:aB} (h:br c=true):c.Lists.length=4/\∀ l∈c.Lists,l.length<=8:=by
 have h':=h;unfold br at h;simp only[I0,C0]at h;exact⟨h.1,Kk _ _ _ h.2⟩
structure KO (h:ab):Prop where
 cells:h.Kernel.Machine.Frames.Cells.length<=32
 row:∀ r∈h.Kernel.Machine.Frames.Cells,r.length=16
 used:h.Kernel.Machine.Frames.Used.length<=32
 ents:h.Kernel.Machine.Table.Entries.length<=32
 ref:h.Kernel.Refuse.length<=40
 free:h.Free.length<=32
 spans:h.Spans.length<=32
 larges:h.Larges.length<=32
 objs:h.Objs.length<=512
 caches:h.Caches.length<=4
 lists:∀ c∈h.Caches,c.Lists.length=4/\∀ l∈c.Lists,l.length<=8
 quar:h.Quar.Lst.length<=512
theorem iU.bd {h:ab} {E:List Int} (hi:bo h E) {a c:Int} (hs:iU h.Spans a c):0<=a/\a<512:=by
 obtain⟨s,hm,⟨h1,h2,-⟩,-⟩:=hs;have hc:=aF (hi.L.sok s hm);omega
theorem bo.lens {h:ab} {E:List Int} (hi:bo h E):KO h:=by
 obtain⟨h1,h2,h3,h4,h5,h6,h7⟩:=aC.1 hi.ker;obtain⟨g1,g2,g3,g4⟩:=bg.1 h2;obtain⟨t1,t2,t3⟩:=bx.1 h3;obtain⟨r1,r2,r3⟩:=eR.1 hi.rng;obtain⟨q1,q2,q3,q4⟩:=iP.1 hi.quar;have hm:=hi.mail;unfold bD at hm;simp only[I0,C0]at hm;have hnc:=hi.nc;refine⟨g2,fun r hr=>?_,by omega,t3,h7,?_,?_,?_,?_,by omega,fun c hc=>ee (hi.cach c hc),?_⟩
 ·obtain⟨j,hj,rfl⟩:=bf hr
  have:=g4 j hj;unfold gQ at this;simp only[I0,C0]at this;exact this.1
 ·have:=wo (H:=h.Free.map (·.At)) (n:=32) (gP (r1.1.imp_of_mem fun {a b} ha hb h=>by have:=r1.2 a ha;omega)) fun x hx=>by
   obtain⟨r,hr,rfl⟩:=O3.1 hx;have:=r2 r hr;omega
  simpa using this
 ·have:=wo (H:=h.Spans.map (·.Page)) (n:=32) hi.L.nd fun x hx=>by
   obtain⟨s,hs,rfl⟩:=O3.1 hx;have:=aF (hi.L.sok s hs);omega
  simpa using this
 ·have:=wo (H:=h.Larges.map (·.Page)) (n:=32) (gP hi.srl) fun x hx=>by
   obtain⟨l,hl,rfl⟩:=O3.1 hx;have:=aU (hi.L.lok l hl);omega
  simpa using this
 ·have:=wo (H:=h.Objs.map (·.Addr)) (n:=512) (gP hi.osr) fun x hx=>by
   obtain⟨o,ho,rfl⟩:=O3.1 hx;rcases hi.oow o ho with⟨s,hs,⟨k1,k2,-⟩,-⟩|⟨l,hl,e,-⟩
   ·have:=aF (hi.L.sok s hs);omega
   ·have:=aU (hi.L.lok l hl);omega
  simpa using this
 ·have:=wo (H:=h.Quar.Lst.map (·.Addr)) (n:=512) q3 fun x hx=>by
   obtain⟨y,hy,rfl⟩:=O3.1 hx;exact(hi.hqu y hy).bd hi
  simpa using this
theorem KO.sml {h:ab} (hl:KO h) (hk:aA h.Kernel=true) (hm:aH.sml h.Mail) (hj:cj.sml h.Job):ab.sml h:=
 ⟨bG hk,⟨by have:=hl.free;omega,fun _ _=>trivial⟩,⟨by have:=hl.spans;omega,fun _ _=>trivial⟩,⟨by have:=hl.larges;omega,fun _ _=>trivial⟩,⟨by have:=hl.objs;omega,fun _ _=>trivial⟩,⟨by have:=hl.caches;omega,fun c hc=>⟨by have:=(hl.lists c hc).1;omega,fun l h1=>by have:=(hl.lists c hc).2 l h1;show l.length<=1048576;omega⟩⟩,hm,⟨by have:=hl.quar;omega,fun _ _=>trivial⟩,hj⟩
def kK (a:Int) (o:bJ):Bool:=decide (o.Addr=a)
def mS (h:ab) (a:Int):Nat:=(du (kK a) h.Objs).toNat
theorem bo.objAt {h:ab} {E:List Int} (hi:bo h E) {o:bJ} (ho:o∈h.Objs):mS h o.Addr<h.Objs.length/\nth h.Objs (mS h o.Addr)=o/\du (kK o.Addr) h.Objs=(mS h o.Addr:Nat):=by
 obtain⟨i,li,rfl⟩:=bf ho;have hx:du (kK (nth h.Objs i).Addr) h.Objs=(i:Nat):=dD (ah li) (by unfold kK;simp) fun j z hj hz=>by
  have hzj:=bn hz;have hjl:=(R1.1 hz).1;subst hzj;unfold kK;refine P0 fun e=>?_
  have:=gx (f:=(·.Addr)) (gP hi.osr) hjl li e;omega
 have hy:mS h (nth h.Objs i).Addr=i:=by unfold mS;rw[hx];rfl
 rw[hy];exact⟨li,rfl,hx⟩
theorem rh (k:af) (p:Int) (n:Nat):(dN k p n).Calls=k.Calls/\(dN k p n).Refuse=k.Refuse:=(gV k p n).2
open Go.RowKit
set_option maxRecDepth 20000
set_option maxHeartbeats 4000000
theorem JN (y:a7) (ys:List a7):cR [] (y::ys)=cR [y] ys:=by rw[cR];rfl
theorem Dc {α:Type} [Inhabited α] {xs:List α} (h:xs≠[]):xs.getLast? = some (nth xs (xs.length - 1)):=by
 have hl:0<xs.length:=List.length_pos_iff.2 h;rw[List.getLast?_eq_getElem?,ah (by omega)]
theorem Jn {α:Type} {xs:List α} (h:xs≠[]) (v:α):xs.dropLast++[v]=xs.set (xs.length - 1) v:=by
 have hl:0<xs.length:=List.length_pos_iff.2 h;refine List.ext_getElem (by simp;omega) fun i h1 h2=>?_
 rw[List.getElem_set];by_cases e:xs.length - 1=i
 ·subst e
  rw[if_pos rfl,List.getElem_append_right (by simp)];simp
 ·rw[if_neg e,List.getElem_append_left (by simp at h1 |-;omega),List.getElem_dropLast]
theorem Ki {out:List a7} {y:a7} {ys:List a7} (h:out≠[]) (e:(nth out (out.length - 1)).At+(nth out (out.length - 1)).Len=y.At):cR out (y::ys)=cR (out.set (out.length - 1) ⟨(nth out (out.length - 1)).At,(nth out (out.length - 1)).Len+y.Len⟩) ys:=by
 rw[cR,Dc h];simp only;rw[if_pos e,Jn h]
theorem Lx {out:List a7} {y:a7} {ys:List a7} (h:out≠[]) (e:¬(nth out (out.length - 1)).At+(nth out (out.length - 1)).Len=y.At):cR out (y::ys)=cR (out++[y]) ys:=by
 rw[cR,Dc h];simp only;rw[if_neg e]
theorem qM (xs:List a7) (hl:xs.length<=4194304) (hb:∀ y∈xs,0<=y.At/\1<=y.Len/\y.At+y.Len<=1048576):ao Tryz.prog 404 false [.val none (bB .imm xs)] .one (bB .own (cR [] xs)):=by
 refine fO 63 [(6,21,[15,16,17,18,19,20,21,22,23,24,25,26,27,28,29,30,31,32,33,34,35]),(7,15,[38,39,40,41,42,43,44,45,46,47,48,49,50,51,52])] Tryz.func404 rfl ?_ (.inr (ky _))
 repeat'(first|refine gO ?_|fail)
 (conv=>whnf)
 refine Lp.mk (ι:=Nat × List a7) (fun q=>[(0,.hold .one (bB .imm xs)),(3,.hold .one (bB .own q.2)),(4,.hold .one [I ((q.1:Nat):Int)])]) (fun q=>q.1<=xs.length/\cR q.2 (xs.drop q.1)=cR [] xs/\q.2.length<=q.1/\∀ y∈q.2,0<=y.At/\1<=y.Len/\y.At+y.Len<=1048576) (fun q=>xs.length - q.1) ((0,[])) ?_ (⟨Q0 _,rfl,I2 _,fun y hy=>by cases hy⟩) fun q hq=>?_
 ·exact wB
 obtain⟨i,out⟩:=q;obtain⟨hi,hj,hol,hob⟩:=hq;simp only at hi hj hol hob |-;by_cases li:i<xs.length
 ·have hx:=ah li
  have hy:=hb _ (am li);rw[iS li]at hj;by_cases ho:out=[]
  ·subst ho
   rw[JN]at hj;have h0:([]:List a7).length=0:=rfl
   repeat'(first|refine gD ?_|(conv=>whnf);first|with_reducible refine Ix.nat (aa hx) ?_|refine Ln.mk (show List.length _=0 from rfl) ?_|refine Ap.sm (fun r hr=>by cases hr) rfl (by simp) (by decide) rfl ?_)
   ((conv=>whnf)
    refine Nx.mk (i+1,[nth xs i]) ⟨(by simp only;omega),hj,(by simp),(fun y hm=>by rw[X0.1 hm];exact hy)⟩ (by simp only;omega) ?_
    (repeat'(first|exact trivial|rfl|exact And.intro rfl (And.intro (R0 (C.s dz.own) (by simp[a7.enc])) trivial)|refine And.intro ?_ ?_)))
  ·have hpos:0<out.length:=List.length_pos_iff.2 ho
   have hz:out[((out.length:Int) - 1).toNat]? = some (nth out (out.length - 1)):=by
    rw[show((out.length:Int) - 1).toNat=out.length - 1 by omega];exact ah (by omega)
   have hzb:=hob _ (am (xs:=out) (i:=out.length - 1) (by omega));by_cases e:(nth out (out.length - 1)).At+(nth out (out.length - 1)).Len=(nth xs i).At
   ·rw[Ki ho e]at hj
    repeat'(first|refine gA ?_|(conv=>whnf);first|with_reducible refine Ix.nat (aa hx) ?_|refine Ix.mk (by omega) (aa hz) ?_|refine Rw.one rfl (aa hz) rfl ?_|refine Pu.one rfl rfl (aa hz) rfl (W0 rfl) rfl ?_)
    ((conv=>whnf)
     refine Nx.mk (i+1,out.set (out.length - 1) ⟨(nth out (out.length - 1)).At,(nth out (out.length - 1)).Len+(nth xs i).Len⟩) ⟨(by simp only;omega),hj,(by simp only;rw[Z0];omega),(fun y hm=>?_)⟩ (by simp only;omega) ?_)
    ·rcases U4 hm with hm|rfl
     ·exact hob y hm
     ·simp only;omega
    ·(repeat'(first|exact trivial|rfl|exact And.intro rfl (And.intro (R0 (C.s dz.own) (by rw[show((out.length:Int) - 1).toNat=out.length - 1 by omega,Q4];rfl)) trivial)|refine And.intro ?_ ?_))
   ·rw[Lx ho e]at hj
    repeat'(first|refine gA ?_|(conv=>whnf);first|with_reducible refine Ix.nat (aa hx) ?_|refine Ix.mk (by omega) (aa hz) ?_|refine Rw.one rfl (aa hz) rfl ?_|refine Ap.sm (aM fun _=>rfl) rfl (by simp;omega) (by decide) rfl ?_)
    ((conv=>whnf)
     refine Nx.mk (i+1,out++[nth xs i]) ⟨(by simp only;omega),hj,(by simp;omega),(fun y hm=>?_)⟩ (by simp only;omega) ?_)
    ·rcases C2.1 hm with hm|hm
     ·exact hob y hm
     ·rw[X0.1 hm];exact hy
    ·(repeat'(first|exact trivial|rfl|exact And.intro rfl (And.intro (R0 (C.s dz.own) (by simp[a7.enc])) trivial)|refine And.intro ?_ ?_))
 ·obtain rfl:i=xs.length:=by omega
  rw[List.drop_length]at hj
  repeat'(first|refine gD ?_|fail)
  rw[<-hj];rfl
theorem yj (r y:a7) (ys:List a7) (put:Bool):kT r (y::ys) put=if ovl y r then none else if !put&&decide (y.At > r.At) then(kT r ys true).map fun t=>r::y::t else(kT r ys put).map fun t=>y::t:=by rw[kT]
theorem kG (pages:Int) (xs:List a7) (r:a7) (hp:0<=pages/\pages<=1048576) (hs:gB xs):ao Tryz.prog 387 false [.val none [I pages],.val none (bB .imm xs),.val (some 2) (a7.enc .imm r)] (.tup [none,none]) (E2 xs (dn pages xs r)):=by
 have hl:=hs.1;have c1:=kL pages xs hp hs;have c2:=uf pages r hp;cases e1:bv pages xs<;>rw[e1]at c1
 ·rw[show dn pages xs r=none by unfold dn;rw[if_neg (by rw[e1];simp)]]
  refine fO 82 [] Tryz.func387 rfl ?_ (.inr (rN _ _))
  repeat'(first|refine gO ?_|(conv=>whnf);first|refine Cl.mk (c1) ?_|refine Ap.cp (fun _=>rfl) (fun _=>rfl) hl (by decide) ?_)
  rfl
 cases e2:rangeIn pages r<;>rw[e2]at c2
 ·rw[show dn pages xs r=none by unfold dn;rw[if_neg (by rw[e2];simp)]]
  refine fO 82 [] Tryz.func387 rfl ?_ (.inr (rN _ _))
  repeat'(first|refine gO ?_|(conv=>whnf);first|refine Cl.mk (c1) ?_|refine Cl.mk (c2) ?_|refine Ap.cp (fun _=>rfl) (fun _=>rfl) hl (by decide) ?_)
  rfl
 obtain⟨hg,hb⟩:=zR e1;have hr:0<=r.At/\1<=r.Len/\r.At+r.Len<=pages:=by
  unfold rangeIn at e2;rw[C0]at e2;omega
 rw[show dn pages xs r=(kT r xs false).map (cR []) by unfold dn;rw[if_pos ⟨e1,e2⟩,yc (pages:=pages) hg hr.2.1 fun z hz=>by simp at hz]];refine fO 82 [] Tryz.func387 rfl ?_ (.inr (rN _ _))
 repeat'(first|refine gO ?_|(conv=>whnf);first|refine Cl.mk (c1) ?_|refine Cl.mk (c2) ?_|refine Ap.cp (fun _=>rfl) (fun _=>rfl) hl (by decide) ?_)
 (conv=>whnf)
 refine Lp.mk (ι:=Nat × List a7 × Bool) (fun q=>[(1,.hold .one (bB .imm xs)),(5,.hold .box (a7.enc .imm r)),(8,.hold .one (bB .own xs)),(9,.hold .one (bB .own q.2.1)),(10,.hold .one [B (q.2.2)]),(11,.hold .one [I ((q.1:Nat):Int)])]) (fun q=>q.1<=xs.length/\(kT r (xs.drop q.1) q.2.2).map (q.2.1++·)=kT r xs false/\q.2.1.length<=q.1+q.2.2.toNat/\(∀ y∈q.2.1,0<=y.At/\1<=y.Len/\y.At+y.Len<=1048576)) (fun q=>xs.length - q.1) ((0,[],false)) ?_ (⟨Q0 _,by simp,by simp,by simp⟩) fun q hq=>?_
 ·exact wB
 obtain⟨i,out,put⟩:=q;obtain⟨hi,hput,hol,hob⟩:=hq;simp only at hi hput hol hob |-;have hrb:0<=r.At/\1<=r.Len/\r.At+r.Len<=1048576:=by omega
 by_cases li:i<xs.length
 ·have hx:=ah li
  have hy:=hb _ (am li);have hyb:0<=(nth xs i).At/\1<=(nth xs i).Len/\(nth xs i).At+(nth xs i).Len<=1048576:=by omega
  rw[iS li]at hput;by_cases ho:ovl (nth xs i) r=true
  ·rw[<-hput]
   rw[yj,if_pos ho];unfold ovl at ho;rw[C0]at ho
   repeat'(first|refine gD ?_|(conv=>whnf);first|with_reducible (first|refine Ix.nat (aa hx) ?_|refine Bf.D (fun hq=>?_) (fun hq=>?_)))
   rfl
  ·rw[yj,if_neg ho]at hput
   unfold ovl at ho;rw[C0]at ho;cases put with
   | false=>
    have hol:out.length<=i:=by simpa using hol
    by_cases e5:(nth xs i).At > r.At
    ·rw[if_pos (by simp;omega),Option.map_map]at hput
     repeat'(first|refine gD ?_|(conv=>whnf);first|with_reducible (first|refine Ix.nat (aa hx) ?_|refine Bf.D (fun hq=>?_) (fun hq=>?_))|refine Ap.sm (aM fun _=>rfl) rfl (by simp;omega) (by decide) rfl ?_|refine Ap.sm (fun r hr=>by simp at hr;rcases hr with⟨a,_,rfl⟩|rfl<;>rfl) rfl (by simp;omega) (by decide) rfl ?_)
     ((conv=>whnf)
      refine Nx.mk (i+1,out++[r,nth xs i],true) ⟨(by simp only;omega),(by rw[<-hput];congr 1;funext t;simp),(by simp;omega),(fun y hm=>?_)⟩ (by simp only;omega) ?_)
     ·rcases C2.1 hm with hm|hm
      ·exact hob y hm
      ·rcases List.mem_cons.1 hm with rfl|hm
       ·exact hrb
       ·rw[X0.1 hm];exact hyb
     ·(repeat'(first|exact trivial|rfl|exact And.intro rfl (And.intro (R0 (C.s dz.own) (by simp[a7.enc])) trivial)|refine And.intro ?_ ?_))
    ·rw[if_neg (by simp;omega),Option.map_map]at hput
     repeat'(first|refine gD ?_|(conv=>whnf);first|with_reducible (first|refine Ix.nat (aa hx) ?_|refine Bf.D (fun hq=>?_) (fun hq=>?_))|refine Ap.sm (aM fun _=>rfl) rfl (by simp;omega) (by decide) rfl ?_)
     ((conv=>whnf)
      refine Nx.mk (i+1,out++[nth xs i],false) ⟨(by simp only;omega),(by rw[<-hput];congr 1;funext t;simp),(by simp;omega),(fun y hm=>?_)⟩ (by simp only;omega) ?_)
     ·rcases C2.1 hm with hm|hm
      ·exact hob y hm
      ·rw[X0.1 hm];exact hyb
     ·(repeat'(first|exact trivial|rfl|exact And.intro rfl (And.intro (R0 (C.s dz.own) (by simp[a7.enc])) trivial)|refine And.intro ?_ ?_))
   | true=>
    have hol:out.length<=i+1:=hol;rw[if_neg (by simp),Option.map_map]at hput;by_cases e6:(nth xs i).At<r.At+r.Len
    all_goals
     repeat'(first|refine gD ?_|(conv=>whnf);first|with_reducible (first|refine Ix.nat (aa hx) ?_|refine Bf.D (fun hq=>?_) (fun hq=>?_))|refine Ap.sm (aM fun _=>rfl) rfl (by simp;omega) (by decide) rfl ?_)
     ((conv=>whnf)
      refine Nx.mk (i+1,out++[nth xs i],true) ⟨(by simp only;omega),(by rw[<-hput];congr 1;funext t;simp),(by simp;omega),(fun y hm=>?_)⟩ (by simp only;omega) ?_)
     ·rcases C2.1 hm with hm|hm
      ·exact hob y hm
      ·rw[X0.1 hm];exact hyb
     ·(repeat'(first|exact trivial|rfl|exact And.intro rfl (And.intro (R0 (C.s dz.own) (by simp[a7.enc])) trivial)|refine And.intro ?_ ?_))
 ·obtain rfl:i=xs.length:=by omega
  rw[List.drop_length]at hput;cases put with
  | false=>
   have hol:out.length<=xs.length:=by simpa using hol
   rw[<-hput];have c4:=qM (out++[r]) (by simp;omega) (fun y hm=>by
     rcases C2.1 hm with hm|hm
     · exact hob y hm
     · rw[X0.1 hm];exact hrb)
   repeat'(first|refine gD ?_|(conv=>whnf);first|refine Ap.sm (aM fun _=>rfl) rfl (by simp;omega) (by decide) (show(out++[r]).map (a7.enc .own)=_ by simp[a7.enc]) ?_|refine Cl.eq (c4) ⟨⟨rfl,dB _⟩,trivial⟩ ?_)
   rfl
  | true=>
   have hol:out.length<=xs.length+1:=hol;rw[<-hput];have c4:=qM out (by omega) hob
   repeat'(first|refine gD ?_|(conv=>whnf);first|refine Cl.eq (c4) ⟨⟨rfl,dB _⟩,trivial⟩ ?_)
   simp[kT,E2]
   rfl
theorem shl64 {i:Int} (hi:0<=i/\i<=15):IntKind.i64.wrap (1*2 ^ min i.toNat IntKind.i64.bits)=2 ^ i.toNat/\0<=(2:Int) ^ i.toNat/\(2:Int) ^ i.toNat<=32768:=by
 have h1:min i.toNat IntKind.i64.bits=i.toNat:=Nat.min_eq_left (show i.toNat<=64 by omega);have h2:(0:Int)<=2 ^ i.toNat/\(2:Int) ^ i.toNat<=32768:=by
  have:(2:Nat) ^ i.toNat<=2 ^ 15:=Nat.pow_le_pow_right (by decide) (by omega);have h3:((2 ^ i.toNat:Nat):Int)=(2:Int) ^ i.toNat:=Int.natCast_pow 2 i.toNat;rw[<-h3];exact⟨Int.natCast_nonneg _,Int.ofNat_le.2 this⟩
 rw[h1,Int.one_mul];exact⟨ed (by omega) (by omega),h2⟩
theorem clr64 {b i:Int} (hb:0<=b/\b<=65535):IntKind.i64.wrap ((BitVec.ofInt IntKind.i64.bits b &&& ~~~BitVec.ofInt IntKind.i64.bits (2 ^ i.toNat)).toNat:Nat)=wK b i:=by
 have:=zp (i:=i) hb;unfold wK at this |-;exact ed (by omega) (by omega)
theorem re (b i:Int) (hb:0<=b/\b<=65535) (hi:0<=i/\i<=15):ao Tryz.prog 405 false [.val none [I b],.val none [I i]] .one [I (wK b i)]:=by
 have c1:=nI b i;rw[O0 (by omega)]at c1;have hw:IntKind.u64.wrap i=i:=by unfold IntKind.wrap;simp[IntKind.signed,IntKind.bits];omega
 refine fO 15 [] Tryz.func405 rfl ?_
 repeat'(first|refine gO ?_|(conv=>whnf);first|refine Sm.rf ?_|refine Cl.mk (c1) ?_|refine Cd.mk (by omega) ?_|refine Wr.mk hw ?_|refine Wr.mk (shl64 hi).1 ?_|refine Wr.mk (clr64 hb) ?_)
 rfl
theorem LP {s:au} {k:Int} (hh:aT s.Bits k=true):0<=k/\k<=15:=by
 have:=(fK _ _).1 hh;omega
theorem x9 (s:au) (k:Int) (ho:aY s=true) (hh:aT s.Bits k=true):ao Tryz.prog 391 false [.val (some 3) (au.enc .imm s),.val none [I k]] (.tup [some 3,none]) (au.enc .own (lX s k)++[B true]):=by
 have hb:=ew ho;have hk:=LP hh;have c1:=fG s;have c2:=gX s.Bits k (by omega);rw[ho]at c1;rw[hh]at c2;refine fO 23 [] Tryz.func391 rfl ?_ (.inr (aN (au.enc_fr _) ⟨trivial,trivial⟩))
 repeat'(first|refine gO ?_|(conv=>whnf);first|refine Sm.rf ?_|refine Cl.mk (c1) ?_|refine Cl.mk (c2) ?_|refine Cl.mk (re s.Bits k hb hk) ?_)
 rfl
theorem vn (c:aB) (k:Int) (hs:aB.sml c):ao Tryz.prog 340 false [.val (some 1) (aB.enc .imm c),.val none [I k]] .one [B (br c&&decide (0<=k/\k<=3))]:=by
 have c1:=lP c hs;cases e:br c<;>rw[e]at c1
 all_goals
  refine fO 11 [] Tryz.func340 rfl ?_
  repeat'(first|refine gO ?_|(conv=>whnf);first|refine Sm.rf ?_|refine Cl.mk (c1) ?_|refine Cl.mk (aE k 0 3) ?_)
  all_goals rfl
theorem rJ {c:aB} {k:Nat} (hk:k<c.Lists.length):c.Lists[k]? = some (nth c.Lists k):=ah hk
theorem HP {c:aB} (h:br c=true) (k:Nat) (a:Int):aB.sml (lN c k a):=by
 obtain⟨h1,h2⟩:=ee h;refine⟨by simp only[lN,Z0];omega,fun l hl=>?_⟩;rcases U4 hl with hl|rfl
 ·have:=h2 l hl;show l.length<=1048576;omega
 ·show(nth c.Lists k++[a]).length<=1048576
  by_cases hk:k<c.Lists.length
  ·have:=h2 _ (am hk);simp;omega
  ·have:nth c.Lists k=[]:=by unfold nth;rw[V1,U1 (by omega)];rfl
   rw[this];simp
theorem JG (c:aB) (k:Nat) (a:Int):aB.enc .own (lN c k a)=[.s .own ((c.Lists.map (aD .own)).set k (aD .own (nth c.Lists k++[a])))]:=by simp[aB.enc,lN,Q4]
theorem fH {α:Type} {f:α->List C} {xs:List α} {k:Nat} {y:α} {r:List C} (h:xs[k]? = some y):((xs.map f).set k r)[k]? = some r:=by
 rw[U2 (by rw[U0];exact(R1.1 h).1)]
theorem fg {α β:Type} (f:α->β) (xs:List α) (y:α):(xs++[y]).map f=xs.map f++[f y]:=by simp
def FS (c:aB) (k a:Int):List C:=aB.enc .own ((cput c k a).getD c)++[B (cput c k a).isSome]
theorem Jq (c:aB) (k a:Int):gk (FS c k a):=aN (aB.enc_fr _) ⟨trivial,trivial⟩
theorem xk (c:aB) (k:Nat) (a:Int) (ho:br c=true) (hk:k<=3):ao Tryz.prog 403 false [.val (some 1) (aB.enc .imm c),.val none [I (k:Nat)],.val none [I a]] (.tup [some 1,none]) (FS c k a):=by
 obtain⟨h1,h2⟩:=ee ho;have hs:aB.sml c:=⟨by omega,fun l hl=>by have:=h2 l hl;show l.length<=1048576;omega⟩
 have c1:=vn c k hs;rw[ho,O0 (by omega)]at c1;have c2:=ik c hs;have hps:=HP ho k a;have c3:=lP (lN c k a) hps;have c4:=ik (lN c k a) hps;have hx:=rJ (c:=c) (k:=k) (by omega);have hxl:=h2 _ (am (xs:=c.Lists) (i:=k) (by omega));have hz:=aB.enc_fz (lN c k a);rw[JG]at hz;have hf:=Jq c k a;unfold FS at hf |-;cases e:br (lN c k a)<;>rw[e]at c3
 ·have hc:cput c k a=none:=by unfold cput;rw[if_neg fun x=>by have:=x.2.2.2;rw[W1,e]at this;cases this]
  rw[hc]at hf |-;refine fO 35 [(4,267,[16,17,18,19,20,21,22,23,24,25,27,0,1,2,3,4,5,6,7,8,9,10,1000,1001,1002,11,12])] Tryz.func403 rfl ?_ (.inr hf)
  repeat'(first|refine gO ?_|(conv=>whnf);first|with_reducible refine Ix.nat (aa hx) ?_|refine Sm.rf ?_|refine Ix.nat (fH hx) ?_|refine Rw.one rfl (fH hx) rfl ?_|refine Cl.mk (c1) ?_|refine Cl.mk (c2) ?_|refine Lq.one rfl rfl (aa hx) rfl (W0 rfl) rfl rfl ?_|refine Rw.one rfl (aa hx) rfl ?_|refine Pu.one rfl rfl (fH hx) rfl (W0 rfl) (show [C.s dz.own ((c.Lists.map (aD .own)).set k (aD .own (nth c.Lists k++[a])))]=_ from by simp only[List.set_cons_zero,List.set_set,W1];rfl) ?_|refine Ap.sm (aM fun _=>rfl) rfl (by simp;omega) (by decide) (fg _ _ _) ?_|refine Cl.eq (c3) ⟨⟨rfl,hz⟩,trivial⟩ ?_)
  rfl
 ·have hc:cput c k a=some (lN c k a):=by unfold cput;rw[if_pos ⟨ho,by omega,by omega,by rw[W1];exact e⟩,W1]
  rw[hc]at hf |-;refine fO 35 [(4,267,[16,17,18,19,20,21,22,23,24,25,27,0,1,2,3,4,5,6,7,8,9,10,1000,1001,1002,11,12])] Tryz.func403 rfl ?_ (.inr hf)
  repeat'(first|refine gO ?_|(conv=>whnf);first|with_reducible refine Ix.nat (aa hx) ?_|refine Sm.rf ?_|refine Ix.nat (fH hx) ?_|refine Rw.one rfl (fH hx) rfl ?_|refine Cl.mk (c1) ?_|refine Cl.mk (c2) ?_|refine Lq.one rfl rfl (aa hx) rfl (W0 rfl) rfl rfl ?_|refine Rw.one rfl (aa hx) rfl ?_|refine Pu.one rfl rfl (fH hx) rfl (W0 rfl) (show [C.s dz.own ((c.Lists.map (aD .own)).set k (aD .own (nth c.Lists k++[a])))]=_ from by simp only[List.set_cons_zero,List.set_set,W1];rfl) ?_|refine Ap.sm (aM fun _=>rfl) rfl (by simp;omega) (by decide) (fg _ _ _) ?_|refine Cl.eq (c3) ⟨⟨rfl,hz⟩,trivial⟩ ?_|refine Cl.eq (c4) ⟨⟨rfl,hz⟩,trivial⟩ ?_)
  rfl
def bt (x:ab):List C:=[.s .own (x.Kernel.Machine.Frames.Cells.map (aD .own)),.s .own (x.Kernel.Machine.Frames.Used.map (rB .own)),.s .own (x.Kernel.Machine.Table.Entries.map (bj.enc .own)),I x.Kernel.Calls,.s .own (x.Kernel.Refuse.map (rI .own)),.s .own (x.Free.map (a7.enc .own)),.s .own (x.Spans.map (au.enc .own)),.s .own (x.Larges.map (a8.enc .own)),.s .own (x.Objs.map (bJ.enc .own)),.s .own (x.Caches.map (aB.enc .own)),.s .own (x.Mail.Buffers.map (co .own)),.s .own (x.Mail.Inbox.map (aD .own)),I x.Quar.Room,.s .own (x.Quar.Lst.map (aL.enc .own)),I x.Seed,I x.Clock,I x.Limit,I x.Next,B x.Meshing,I x.Job.Plan.Keep,I x.Job.Plan.Move,.s .imm (x.Job.Plan.Cells.map (rI .imm)),I x.Job.Phase,I x.Job.Next]
theorem bz (x:ab):d3 (bt x)=ab.enc .imm x:=by simp[d3,bt,ab.enc,aB.enc_fz,bj.enc_fz,a8.enc_fz,bJ.enc_fz,a7.enc_fz,au.enc_fz,aL.enc_fz,rB,pn,rI,dG,<-bT,I4]
def tY (x:cj):List C:=[I x.Plan.Keep,I x.Plan.Move,.s .imm (x.Plan.Cells.map (rI .imm)),I x.Phase,I x.Next]
theorem Pu.two {bs bs':List C} {off i k j i2 k2 j2:Nat} {cs:List C} {K:List C->Prop} {o o2:dz} {rows rows2:List (List C)} {r r2:List C} (h1:bs[off]? = some (.s o rows)) (ho:o.mine=true) (h2:rows[i]? = some r) (h3:r.length=k) (g1:r[j]? = some (.s o2 rows2)) (go:o2.mine=true) (g2:rows2[i2]? = some r2) (g3:r2.length=k2) (g4:j2+cs.length<=k2)
  (h5:bs'=bs.set off (.s o (rows.set i (r.set j (.s o2 (rows2.set i2 (splice r2 j2 cs))))))) (hK:K bs'):Pu bs off [(i,k,j),(i2,k2,j2)] cs K:=by
 have hoi:o≠.imm:=fun e=>by subst e;cases ho
 have hoi2:o2≠.imm:=fun e=>by subst e;cases go
 refine Pu.mk (r:=r2) (j:=j2) (by simp[bQ,h1,h2,h3,g1,g2,g3]) (by simp[jd,h1,h2,hoi,g1,g2,hoi2]) (by omega) (by rw[h5];simp[fe,h1,h2,g1,g2]) hK
theorem vw (x:List au):fz (.s .own (x.map (au.enc .own)))=.s .imm (x.map (au.enc .imm)):=(List.cons.inj (jC x)).1
theorem rC (x:List a8):fz (.s .own (x.map (a8.enc .own)))=.s .imm (x.map (a8.enc .imm)):=(List.cons.inj (Dl x)).1
theorem tQ (x:List bJ):fz (.s .own (x.map (bJ.enc .own)))=.s .imm (x.map (bJ.enc .imm)):=(List.cons.inj (G2 x)).1
theorem Ap.dele {α:Type} {e:α->List C} {xs:List α} {i sz by_:Nat} {K:List (List C)->Prop} (h2:∀ y,(e y).length=sz) (h3:∀ y,aV (e y)=true) (hl:xs.length<=1048576) (hb:by_<=1000) (hK:K ((Ab.dele xs i).map e)):Ap true ((xs.take i).map e) ((xs.drop (i+1)).map e) sz by_ K:=by
 have h4:(xs.take i).length+(xs.drop (i+1)).length<=2097152:=by rw[C1,Q2];omega
 refine Ap.mk (aM h2) (aM h2) (fun _ r hr=>by obtain⟨y,-,rfl⟩:=O3.1 hr;exact h3 y) (by rw[U0,U0];omega) (by rw[U0,U0];exact V3 (Nat.mul_le_mul h4 hb) (by decide)) ?_ hK;unfold Ab.dele;rw[C4]
theorem GI (h:ab) (p:Int) (hs:aG.sml h.Kernel.Machine.Table):ao Tryz.prog 348 false [.ptr (ab.enc .imm h),.val none [I p]] .one [I (ar h.Kernel.Machine.Table p).Mode]:=by
 refine fO 13 [] Tryz.func348 rfl ?_
 repeat'(first|refine gO ?_|(conv=>whnf);first|refine Sm.rf ?_|refine Cl.mk (cP h.Kernel.Machine.Table p hs) ?_)
 rfl
def LW (h:ab):List C:=(bt h).drop 5
theorem Ns (h:ab) (k:af):bt {h with Kernel:=k} = af.enc .own k++LW h:=rfl
theorem Bz (h:ab):LW h=[.s .own (h.Free.map (a7.enc .own)),.s .own (h.Spans.map (au.enc .own)),.s .own (h.Larges.map (a8.enc .own)),.s .own (h.Objs.map (bJ.enc .own)),.s .own (h.Caches.map (aB.enc .own)),.s .own (h.Mail.Buffers.map (co .own)),.s .own (h.Mail.Inbox.map (aD .own)),I h.Quar.Room,.s .own (h.Quar.Lst.map (aL.enc .own)),I h.Seed,I h.Clock,I h.Limit,I h.Next,B h.Meshing,I h.Job.Plan.Keep,I h.Job.Plan.Move,.s .imm (h.Job.Plan.Cells.map (rI .imm)),I h.Job.Phase,I h.Job.Next]:=rfl
theorem Gm (h:ab) (f:Int) (hs:aG.sml h.Kernel.Machine.Table) (hf:0<=f/\f<h.Kernel.Machine.Frames.Cells.length/\f<h.Kernel.Machine.Frames.Used.length) :
  aS Tryz.prog 349 false [.ptr (bt h),.val none [I f]] [.ptr (bt {h with Kernel:=hO h.Kernel f}),.val none [I f]] (.tup []) []:=by
 have h1:=ah (xs:=h.Kernel.Machine.Frames.Cells) (i:=f.toNat) (by omega);have h2:=ah (xs:=h.Kernel.Machine.Frames.Used) (i:=f.toNat) (by omega);rw[Ns h (hO h.Kernel f)];by_cases hz:(pagesOn h.Kernel.Machine.Table f).length=0
 ·rw[yp hz,Bz]
  refine fM 30 [] [(2,8,[21,22,23,24,25,26,27,28])] [(0,0),(0,0)] Tryz.func349 rfl (fun u q=>?_) (.inr trivial)
  repeat'(first|refine gA ?_|(conv=>whnf);first|with_reducible (first|refine Ix.mk hf.1 (aa h2) ?_|refine Ix.mk hf.1 (aa h1) ?_)|refine Sm.rf ?_|refine Cl.eq (fY h.Kernel.Machine.Table f hs) ⟨⟨rfl,aG.enc_fz h.Kernel.Machine.Table⟩,⟨rfl,rfl⟩,trivial⟩ ?_|refine Pu.one rfl rfl (aa h1) rfl (W0 rfl) rfl ?_|refine Pu.one rfl rfl (aa h2) rfl (W0 rfl) rfl ?_|refine Mk.mk 16 rfl rfl (by decide) (by decide) rfl ?_)
  refine aR.mk rfl rfl ?_;exact wB
 ·rw[A3 hz]
  show aS _ _ _ [.ptr (bt h),_] [.ptr (bt h),_] _ _;refine fM 30 [] [(2,8,[21,22,23,24,25,26,27,28])] [(0,0),(0,0)] Tryz.func349 rfl (fun u q=>?_) (.inr trivial)
  repeat'(first|refine gA ?_|(conv=>whnf);first|refine Sm.rf ?_|refine Cl.eq (fY h.Kernel.Machine.Table f hs) ⟨⟨rfl,aG.enc_fz h.Kernel.Machine.Table⟩,⟨rfl,rfl⟩,trivial⟩ ?_)
  refine aR.mk rfl rfl ?_;exact wB
theorem mg (h:ab) (p:Int) (hk:aA h.Kernel=true) :
  aS Tryz.prog 297 false [.ptr (bt h),.val none [I p]] [.ptr (bt {h with Kernel:=dH h.Kernel p}),.val none [I p]] .one [B (decide ((ar h.Kernel.Machine.Table p).Mode≠0))]:=by
 have hs:=bG hk;have c1:=GI h p hs.1.2;by_cases hm:(ar h.Kernel.Machine.Table p).Mode=0
 ·rw[show dH h.Kernel p=h.Kernel by unfold dH;rw[if_pos hm]]
  refine fM 32 [(349,[2,0])] [] [(0,0),(0,0)] Tryz.func297 rfl (fun u q=>?_)
  repeat'(first|refine gA ?_|(conv=>whnf);first|refine Sm.rf ?_|refine Cl.eq (c1) ⟨bz h,⟨rfl,rfl⟩,trivial⟩ ?_)
  refine aR.mk rfl ?_ ?_
  ·exact R0 (fun z=>[B z]) ((by simp[hm]))
  ·exact wB
 ·obtain⟨h0,h1,he,hf0,hf1⟩:=cv hk hm
  have hlen:=(bg.1 (aC.1 hk).2.1).2.2.1;rw[show dH h.Kernel p=hO (pH h.Kernel p) (ar h.Kernel.Machine.Table p).Frame by unfold dH;rw[if_neg hm]];have c2:=Gm {h with Kernel:=pH h.Kernel p} (ar h.Kernel.Machine.Table p).Frame (J8 hk) ⟨hf0,by simp only[pH];omega,by simp only[pH];omega⟩;rw[Ns h (pH h.Kernel p),J6,Bz]at c2;have hx:=ah (xs:=h.Kernel.Machine.Table.Entries) (i:=p.toNat) (by omega);rw[he]at c1 c2 hm |-;refine fM 32 [(349,[2,0])] [] [(0,0),(0,0)] Tryz.func297 rfl (fun u q=>?_)
  repeat'(first|refine gA ?_|(conv=>whnf);first|with_reducible refine Ix.mk h0 (aa hx) ?_|refine Sm.rf ?_|refine Cl.eq (c1) ⟨bz h,⟨rfl,rfl⟩,trivial⟩ ?_|refine Pu.one rfl rfl (aa hx) rfl (W0 rfl) rfl ?_|refine Rw.one rfl (aa hx) rfl ?_|refine cu.mk (c2) (.inl rfl) ?_)
  refine aR.mk rfl ?_ ?_
  ·exact R0 (fun z=>[B z]) ((by simp[hm]))
  ·exact wB
theorem sK (h:ab) (p:Int):ao Tryz.prog 290 false [.ptr (ab.enc .imm h),.val none [I p]] .one [B (gv h p)]:=by
 cases e:h.Meshing
 all_goals
  have hz:ab.enc .imm h=(ab.enc .imm h).set 18 (B h.Meshing):=rfl;rw[e]at hz;rw[hz];refine fO 29 [] Tryz.func290 rfl ?_
  repeat'(first|refine gO ?_|(conv=>whnf);first|with_reducible (first|refine Bf.D (fun hq=>?_) (fun hq=>?_)|refine Bf.E (fun hq=>?_) (fun hq=>?_)|refine Bf.N (fun hq=>?_) (fun hq=>?_))|refine Sm.rf ?_)
  all_goals exact R0 (fun z=>[B z]) ((by unfold gv;rw[e];first|(simp[*];done)|(simp[*];rw[U3];simp)))
theorem gu (h:ab):ao Tryz.prog 295 false [.ptr (ab.enc .imm h)] .one [I (dQ h:Nat)]:=by
 refine fO 11 [] Tryz.func295 rfl ?_
 repeat'(first|refine gO ?_|(conv=>whnf);first|refine Sm.rf ?_)
 rfl
theorem pp (h:ab) (a:Int) (hl:h.Objs.length<=1048576):ao Tryz.prog 53 false [.val (some 24) (ab.enc .imm h),.val none [I a]] .one [I (du (kK a) h.Objs)]:=by
 refine fO 22 [] Tryz.func53 rfl ?_
 repeat'(first|refine gO ?_|(conv=>whnf);first|refine Sm.rf ?_)
 (conv=>whnf)
 refine Lp.mk (ι:=Nat) (fun i=>[(1,.hold .one [I (a)]),(2,.hold .box (ab.enc .imm h)),(5,.hold .one [I ((i:Nat):Int)])]) (fun i=>i<=h.Objs.length/\∀ (j:Nat) (z:bJ),j<i->h.Objs[j]? = some z->kK a z=false) (fun i=>h.Objs.length - i) (0) ?_ (⟨Q0 _,fun j z hj=>by omega⟩) fun i hi=>?_
 ·exact wB
 obtain⟨hi,ha⟩:=hi;by_cases li:i<h.Objs.length
 ·have hx:=ah li
  by_cases e:(nth h.Objs i).Addr=a
  ·repeat'(first|refine gA ?_|(conv=>whnf);first|with_reducible refine Ix.nat (aa hx) ?_|refine Sm.rf ?_)
   exact R0 (fun z=>[I z]) (dD hx (by unfold kK;simp[e]) ha).symm
  ·repeat'(first|refine gA ?_|(conv=>whnf);first|with_reducible refine Ix.nat (aa hx) ?_|refine Sm.rf ?_)
   ((conv=>whnf);refine Nx.mk (i+1) ⟨by omega,dc hx (by unfold kK;simp[e]) ha⟩ (by omega) ?_;(exact wB))
 ·repeat'(first|refine gD ?_|(conv=>whnf);first|refine Sm.rf ?_)
  exact R0 (fun z=>[I z]) (fE (by omega) ha).symm
theorem mf (h:ab) (i:Nat) (hi:i<h.Objs.length) (hl:h.Objs.length<=1048576):aS Tryz.prog 382 false [.ptr (bt h),.val none [I (i:Nat)]] [.ptr (bt {h with Objs:=dele h.Objs i}),.val none [I (i:Nat)]] (.tup []) []:=by
 refine fM 23 [] [(0,273,[4,5,6,7,8,9,10,11,13,14,15,16,17,18,19,21,22,0,1,2,3,4,5,6,7,9,10,11,12,13,14,15,8,1000,1009,1010,1011,1012,1013,1014,1015,16,1000,17,18,19]),(1048576,0,[8])] [(0,0),(0,0)] Tryz.func382 rfl (fun u q=>?_) (.inr trivial)
 repeat'(first|refine gO ?_|(conv=>whnf);first|refine Sm.rf ?_|refine D8.mk rfl (tQ h.Objs) rfl ?_|refine Sl.pre i rfl (by rw[U0];omega) (aM fun _=>rfl) C3 ?_|refine Sl.suf (i+1) rfl (by rw[U0];omega) (aM fun _=>rfl) I3 ?_|refine Fl.cp (fun _=>rfl) (fun _=>rfl) (by rw[C1];omega) (by decide) ?_|refine Ap.dele (fun _=>rfl) (fun _=>rfl) hl (by decide) ?_|refine Ap.cp (fun _=>rfl) (fun _=>rfl) (by rw[C1];omega) (by decide) ?_|refine Sm.rf ?_)
 refine aR.mk rfl rfl ?_;exact wB
theorem z6 (h:ab) (E:List Int) (i:Nat) (hi:bo h E) (li:i<h.Spans.length):aS Tryz.prog 392 false [.ptr (bt h),.val none [I (i:Nat)]] [.ptr (bt (giveP h i)),.val none [I (i:Nat)]] (.tup []) []:=by
 have hl:=hi.lens;have hls:=hl.spans;have hx:=ah li;have c1:=mg {h with Spans:=dele h.Spans i} (nth h.Spans i).Page hi.ker;have c2:=gu {h with Kernel:=dH h.Kernel (nth h.Spans i).Page,Spans:=dele h.Spans i};rw[show dQ {h with Kernel:=dH h.Kernel (nth h.Spans i).Page,Spans:=dele h.Spans i} = dQ h from(p9 _ _).1]at c2;have hpg:dQ h<=32:=hl.ents;have c3:=kG (dQ h:Nat) h.Free ⟨(nth h.Spans i).Page,1⟩ ⟨by omega,by omega⟩ ⟨by have:=hl.free;omega,fun _ _=>trivial⟩;refine fM 52 [(297,[2,0])] [(1,273,[13,14,15,16,17,18,19,20,22,23,24,25,26,27,28,30,31,0,1,2,3,4,5,6,7,9,10,11,12,13,14,15,8,1000,1009,1010,1011,1012,1013,1014,1015,16,1000,17,18,19]),(1048577,0,[6]),(3,270,[38,39,40,41,42,43,44,45,47,37,48,49,50,51,0,1,2,3,4,5,6,7,8,1000,1001,1002,1003,1004,1005,1006,9,10,11,12,13,14,15,1012])] [(0,0),(0,0)] Tryz.func392 rfl (fun u q=>?_) (.inr trivial)
 repeat'(first|refine gO ?_|(conv=>whnf);first|with_reducible refine Ix.nat (aa hx) ?_|refine Sm.rf ?_|refine D8.mk rfl (vw h.Spans) rfl ?_|refine Sl.pre i rfl (by rw[U0];omega) (aM fun _=>rfl) C3 ?_|refine Sl.suf (i+1) rfl (by rw[U0];omega) (aM fun _=>rfl) I3 ?_|refine Fl.cp (fun _=>rfl) (fun _=>rfl) (by rw[C1];omega) (by decide) ?_|refine Ap.dele (fun _=>rfl) (fun _=>rfl) (by omega) (by decide) ?_|refine Ap.cp (fun _=>rfl) (fun _=>rfl) (by rw[C1];omega) (by decide) ?_|refine Rw.one rfl (aa hx) rfl ?_|refine Sm.rf ?_|refine cu.mk (c1) (.inl rfl) ?_|refine Cl.eq (c2) ⟨bz _,trivial⟩ ?_|refine Cl.eq (c3) ⟨⟨rfl,rfl⟩,⟨rfl,dB h.Free⟩,⟨rfl,rfl⟩,trivial⟩ ?_)
 refine aR.mk rfl rfl ?_;exact wB
theorem va (h:ab) (i:Nat) (a:Int):bt (clrS h i a)=(bt h).set 6 (.s .own ((h.Spans.map (au.enc .own)).set i (au.enc .own (lX (nth h.Spans i) (dS (nth h.Spans i) a))))):=by
 simp[bt,clrS,Q4]
theorem qQ {α β:Type} {f:α->β} {xs:List α} {i:Nat} {y:β} (hi:i<xs.length):((xs.map f).set i y)[i]? = some y:=by
 rw[U2 (by rw[U0];exact hi)]
theorem Ha {s:au} (hs:aY s=true) {a:Int} (ha:eU s a):gT s a=(dS s a,0):=by
 unfold gT;rw[if_pos ((fI hs).2 ⟨ha.1,ha.2.1⟩),ha.2.2.1];rfl
theorem lQ (h:ab) (E:List Int) (a:Int) (hi:bo h (a::E)):aS Tryz.prog 364 false [.ptr (bt h),.val none [I a]] [.ptr (bt (freeA h a)),.val none [I a]] (.tup []) []:=by
 obtain⟨li,hs,hon⟩:=hi.at (hi.hin a (I1 ..));have hbd:=(hi.hin a (I1 ..)).bd hi;have hl:=hi.lens;have hls:=hl.spans;have hso:=hi.L.sok _ (am li);have c1:=fU h (a / 16) (by omega);rw[hon]at c1;unfold freeA;generalize wb h a=i at li hs c1 hso;have hx:=ah li;have c2:=sw (nth h.Spans i) a ⟨by omega,by omega⟩;rw[Ha hso hs]at c2;have c3:=x9 (nth h.Spans i) (dS (nth h.Spans i) a) hso hs.2.2.2;have hg:=hi.give li hs;have c4:=sK (clrS h i a) (nth h.Spans i).Page;rw[show gv (clrS h i a) (nth h.Spans i).Page=gv h (nth h.Spans i).Page from rfl]at c4;have c5:=z6 (clrS h i a) E i hg (by unfold clrS;simp only[Z0];exact li);have hz:=bz (clrS h i a);rw[va]at c5 hz;have hy:((h.Spans.map (au.enc .own)).set i (au.enc .own (lX (nth h.Spans i) (dS (nth h.Spans i) a))))[i]? = some (au.enc .own (lX (nth h.Spans i) (dS (nth h.Spans i) a))):=qQ li;unfold freeS;by_cases e1:(lX (nth h.Spans i) (dS (nth h.Spans i) a)).Bits=0
 ·cases e2:gv h (nth h.Spans i).Page<;>rw[e2]at c4
  ·rw[if_pos ⟨e1,rfl⟩]
   refine fM 68 [(392,[2,0])] [(2,274,[26,27,28,29,30,31,32,33,34,35,36,37,38,39,25,40,41,42,0,1,2,3,4,5,6,7,8,9,10,11,12,13,14,15,16,17,18,1016])] [(0,0),(0,0)] Tryz.func364 rfl (fun u q=>?_) (.inr trivial)
   repeat'(first|refine gA ?_|(conv=>whnf);first|with_reducible refine Wr.mk ((R0 _ (tdiv16 hbd.1)).trans (ed (by omega) (by omega))) ?_|refine Sm.rf ?_|refine Cd.mk (by decide) ?_|refine Cl.eq (c1) ⟨⟨rfl,bz h⟩,⟨rfl,rfl⟩,trivial⟩ ?_|refine Ix.nat (aa hx) ?_|refine Ix.nat hy ?_|refine Rw.one rfl (aa hx) rfl ?_|refine Rw.one rfl hy rfl ?_|refine Cl.mk (c2) ?_|refine Cl.mk (c3) ?_|refine Sm.rf ?_|refine Pu.one rfl rfl (aa hx) rfl (W0 rfl) rfl ?_|refine Cl.eq (c4) ⟨hz,⟨rfl,rfl⟩,trivial⟩ ?_|refine cu.mk (c5) (.inl rfl) ?_)
   refine aR.mk rfl rfl ?_;exact wB
  ·rw[if_neg fun x=>by cases x.2]
   rw[va];refine fM 68 [(392,[2,0])] [(2,274,[26,27,28,29,30,31,32,33,34,35,36,37,38,39,25,40,41,42,0,1,2,3,4,5,6,7,8,9,10,11,12,13,14,15,16,17,18,1016])] [(0,0),(0,0)] Tryz.func364 rfl (fun u q=>?_) (.inr trivial)
   repeat'(first|refine gA ?_|(conv=>whnf);first|with_reducible refine Wr.mk ((R0 _ (tdiv16 hbd.1)).trans (ed (by omega) (by omega))) ?_|refine Sm.rf ?_|refine Cd.mk (by decide) ?_|refine Cl.eq (c1) ⟨⟨rfl,bz h⟩,⟨rfl,rfl⟩,trivial⟩ ?_|refine Ix.nat (aa hx) ?_|refine Ix.nat hy ?_|refine Rw.one rfl (aa hx) rfl ?_|refine Rw.one rfl hy rfl ?_|refine Cl.mk (c2) ?_|refine Cl.mk (c3) ?_|refine Sm.rf ?_|refine Pu.one rfl rfl (aa hx) rfl (W0 rfl) rfl ?_|refine Cl.eq (c4) ⟨hz,⟨rfl,rfl⟩,trivial⟩ ?_|refine cu.mk (c5) (.inl rfl) ?_)
   refine aR.mk rfl rfl ?_;exact wB
 ·rw[if_neg fun x=>e1 x.1]
  rw[va];refine fM 68 [(392,[2,0])] [(2,274,[26,27,28,29,30,31,32,33,34,35,36,37,38,39,25,40,41,42,0,1,2,3,4,5,6,7,8,9,10,11,12,13,14,15,16,17,18,1016])] [(0,0),(0,0)] Tryz.func364 rfl (fun u q=>?_) (.inr trivial)
  repeat'(first|refine gA ?_|(conv=>whnf);first|with_reducible refine Wr.mk ((R0 _ (tdiv16 hbd.1)).trans (ed (by omega) (by omega))) ?_|refine Sm.rf ?_|refine Cd.mk (by decide) ?_|refine Cl.eq (c1) ⟨⟨rfl,bz h⟩,⟨rfl,rfl⟩,trivial⟩ ?_|refine Ix.nat (aa hx) ?_|refine Ix.nat hy ?_|refine Rw.one rfl (aa hx) rfl ?_|refine Rw.one rfl hy rfl ?_|refine Cl.mk (c2) ?_|refine Cl.mk (c3) ?_|refine Sm.rf ?_|refine Pu.one rfl rfl (aa hx) rfl (W0 rfl) rfl ?_|refine Cl.eq (c4) ⟨hz,⟨rfl,rfl⟩,trivial⟩ ?_|refine cu.mk (c5) (.inl rfl) ?_)
  refine aR.mk rfl rfl ?_;exact wB
theorem Je (h:ab) (t:Nat) (c:aB):bt {h with Caches:=h.Caches.set t c} = (bt h).set 9 (.s .own ((h.Caches.map (aB.enc .own)).set t (aB.enc .own c))):=by
 simp[bt,Q4]
theorem mu (h:ab) (E:List Int) (t:Nat) (a:Int) (hi:bo h (a::E)) (ht:t<h.Caches.length):aS Tryz.prog 384 false [.ptr (bt h),.val none [I (t:Nat)],.val none [I a]] [.ptr (bt (recyc t h a)),.val none [I (t:Nat)],.val none [I a]] (.tup []) []:=by
 obtain⟨li,hs,hon⟩:=hi.at (hi.hin a (I1 ..));have hbd:=(hi.hin a (I1 ..)).bd hi;have hl:=hi.lens;have hls:=hl.spans;have hso:=aF (hi.L.sok _ (am li));have hco:=hi.cach _ (am ht);have c1:=fU h (a / 16) (by omega);rw[hon]at c1;have c3:=lQ h E a hi;unfold recyc;generalize wb h a=i at li hs c1 hso;have hx:=ah li;have hy:=ah ht;have c2:=xk (nth h.Caches t) (nth h.Spans i).Class.toNat a hco (by omega);rw[Int.toNat_of_nonneg hso.2.2.1]at c2;unfold FS at c2;cases e:cput (nth h.Caches t) (nth h.Spans i).Class a with
 | none=>
  rw[e]at c2;refine fM 46 [(364,[2,0])] [(1,277,[16,17,18,19,20,21,22,23,24,25,26,27,28,29,30,31,32,15,33,34,7,0,1,2,3,4,5,6,7,8,9,10,11,12,13,14,15,16,17,18,19,20,21,1019,22]),(3,6,[36,37,38,39,40,41])] [(0,0),(0,0),(0,0)] Tryz.func384 rfl (fun u q=>?_) (.inr trivial)
  repeat'(first|refine gO ?_|(conv=>whnf);first|with_reducible refine Wr.mk ((R0 _ (tdiv16 hbd.1)).trans (ed (by omega) (by omega))) ?_|refine Sm.rf ?_|refine Cd.mk (by decide) ?_|refine Cl.eq (c1) ⟨⟨rfl,bz h⟩,⟨rfl,rfl⟩,trivial⟩ ?_|refine Ix.nat (aa hx) ?_|refine Ix.nat (aa hy) ?_|refine Rw.one rfl (aa hx) rfl ?_|refine Rw.one rfl (aa hy) rfl ?_|refine Cl.eq (c2) ⟨⟨rfl,aB.enc_fz _⟩,⟨rfl,rfl⟩,⟨rfl,rfl⟩,trivial⟩ ?_|refine Sm.rf ?_|refine cu.mk (c3) (.inl rfl) ?_)
  refine aR.mk rfl rfl ?_;exact wB
 | some c=>
  rw[e]at c2;simp only;rw[Je];refine fM 46 [(364,[2,0])] [(1,277,[16,17,18,19,20,21,22,23,24,25,26,27,28,29,30,31,32,15,33,34,7,0,1,2,3,4,5,6,7,8,9,10,11,12,13,14,15,16,17,18,19,20,21,1019,22]),(3,6,[36,37,38,39,40,41])] [(0,0),(0,0),(0,0)] Tryz.func384 rfl (fun u q=>?_) (.inr trivial)
  repeat'(first|refine gO ?_|(conv=>whnf);first|with_reducible refine Wr.mk ((R0 _ (tdiv16 hbd.1)).trans (ed (by omega) (by omega))) ?_|refine Sm.rf ?_|refine Cd.mk (by decide) ?_|refine Cl.eq (c1) ⟨⟨rfl,bz h⟩,⟨rfl,rfl⟩,trivial⟩ ?_|refine Ix.nat (aa hx) ?_|refine Ix.nat (aa hy) ?_|refine Rw.one rfl (aa hx) rfl ?_|refine Rw.one rfl (aa hy) rfl ?_|refine Cl.eq (c2) ⟨⟨rfl,aB.enc_fz _⟩,⟨rfl,rfl⟩,⟨rfl,rfl⟩,trivial⟩ ?_|refine Sm.rf ?_|refine Pu.one rfl rfl (aa hy) rfl (W0 rfl) rfl ?_)
  refine aR.mk rfl rfl ?_;exact wB
theorem oA (h:ab) (i:Nat) (hi:bo h []) (li:i<h.Objs.length) (hc:aO (nth h.Objs i).Size<0):aS Tryz.prog 380 false [.ptr (bt h),.val none [I (i:Nat)]] [.ptr (bt (freeL h i (xi h (nth h.Objs i).Addr))),.val none [I (i:Nat)]] (.tup []) []:=by
 obtain⟨l,hl,h1,-⟩:=(eX hi (am li)).1 hc;obtain⟨lk,ea,hbef,-⟩:=zV hl h1;generalize xi h (nth h.Objs i).Addr=g at lk ea hbef;have hlen:=hi.lens;have hnl:=hlen.larges;have hno:=hlen.objs;have hxo:=ah li;have hf:=aU (hi.L.lok _ (am lk));have hpg:dQ h<=32:=hlen.ents;refine fM 89 [(297,[2,0]),(382,[2,0])] [(4,11,[23,24,25,26,27,28,29,30,31,32,33]),(8,7,[41,42,43,44,45,46,47]),(9,273,[50,51,52,53,54,55,56,57,58,59,60,62,49,63,64,65,66,0,1,2,3,4,5,6,7,8,9,10,11,1000,1001,1002,1003,1004,1005,1006,12,13,14,15,16,17,18,1015]),(10,273,[67,68,69,70,71,72,73,74,76,77,78,79,80,81,82,84,85,0,1,2,3,4,5,6,7,9,10,11,12,13,14,15,8,1000,1009,1010,1011,1012,1013,1014,1015,16,1000,17,18,19]),(1048586,0,[7])] [(0,0),(0,0)] Tryz.func380 rfl (fun u q=>?_) (.inr trivial)
 repeat'(first|refine gO ?_|(conv=>whnf);first|refine Sm.rf ?_)
 (conv=>whnf)
 refine Lp.mk (ι:=Nat) (fun k=>[(0,.hold .box (bt h)),(1,.hold .one [I ((i:Nat):Int)]),(4,.hold .one [I ((k:Nat):Int)])]) (fun k=>k<=g) (fun k=>g - k) (0) ?_ (Q0 _) fun k hk=>?_
 ·exact wB
 have hx:=ah (xs:=h.Larges) (i:=k) (by omega);have hfk:=aU (hi.L.lok _ (am (xs:=h.Larges) (i:=k) (by omega)));have hab:0<=(nth h.Objs i).Addr/\(nth h.Objs i).Addr<=512:=by omega
 by_cases e:k=g
 ·subst e
  repeat'(first|refine gA ?_|(conv=>whnf);first|with_reducible refine Ix.nat (aa hx) ?_|refine Sm.rf ?_|refine Rw.one rfl (aa hx) rfl ?_|refine Rw.one rfl (aa hxo) rfl ?_|refine Ix.nat (aa hxo) ?_)
  (conv=>whnf)
  refine Lp.mk (ι:=Nat) (fun n=>[(0,.hold .box (bt {h with Kernel:=dN h.Kernel (nth h.Larges k).Page n})),(1,.hold .one [I ((i:Nat):Int)]),(4,.hold .one [I ((k:Nat):Int)]),(5,.hold .box (a8.enc .own (nth h.Larges k))),(6,.hold .one [I ((n:Nat):Int)])]) (fun n=>n<=(nth h.Larges k).Pages.toNat) (fun n=>(nth h.Larges k).Pages.toNat - n) (0) ?_ (Q0 _) fun n hn=>?_
  ·exact wB
  by_cases ln:n<(nth h.Larges k).Pages.toNat
  ·have c1:=mg {h with Kernel:=dN h.Kernel (nth h.Larges k).Page n} ((nth h.Larges k).Page+n) (kz hi.ker _ _)
   repeat'(first|refine gD ?_|(conv=>whnf);first|refine Sm.rf ?_|refine cu.mk (c1) (.inl rfl) ?_|refine Sm.rf ?_)
   ((conv=>whnf);refine Nx.mk (n+1) (by omega) (by omega) ?_;(exact wB))
  ·obtain rfl:n=(nth h.Larges k).Pages.toNat:=by omega
   have c2:=gu {h with Kernel:=dN h.Kernel (nth h.Larges k).Page (nth h.Larges k).Pages.toNat};rw[show dQ {h with Kernel:=dN h.Kernel (nth h.Larges k).Page (nth h.Larges k).Pages.toNat} = dQ h from(gV _ _ _).1]at c2;have c3:=kG (dQ h:Nat) h.Free ⟨(nth h.Larges k).Page,(nth h.Larges k).Pages⟩ ⟨by omega,by omega⟩ ⟨by have:=hlen.free;omega,fun _ _=>trivial⟩;have c4:=mf {h with Kernel:=dN h.Kernel (nth h.Larges k).Page (nth h.Larges k).Pages.toNat,Larges:=dele h.Larges k,Free:=(dn (dQ h) h.Free ⟨(nth h.Larges k).Page,(nth h.Larges k).Pages⟩).getD h.Free} i li (by show h.Objs.length<=_;omega)
   repeat'(first|refine gD ?_|(conv=>whnf);first|refine Sm.rf ?_|refine D8.mk rfl (rC h.Larges) rfl ?_|refine Sl.pre k rfl (by rw[U0];omega) (aM fun _=>rfl) C3 ?_|refine Sl.suf (k+1) rfl (by rw[U0];omega) (aM fun _=>rfl) I3 ?_|refine Fl.cp (fun _=>rfl) (fun _=>rfl) (by rw[C1];omega) (by decide) ?_|refine Ap.dele (fun _=>rfl) (fun _=>rfl) (by omega) (by decide) ?_|refine Ap.cp (fun _=>rfl) (fun _=>rfl) (by rw[C1];omega) (by decide) ?_|refine Sm.rf ?_|refine Cl.eq (c2) ⟨bz _,trivial⟩ ?_|refine Cl.eq (c3) ⟨⟨rfl,rfl⟩,⟨rfl,dB h.Free⟩,⟨rfl,rfl⟩,trivial⟩ ?_|refine cu.mk (c4) (.inl rfl) ?_)
   refine aR.mk rfl rfl ?_;exact wB
 ·have hne:=hbef k (by omega)
  repeat'(first|refine gA ?_|(conv=>whnf);first|with_reducible refine Ix.nat (aa hx) ?_|refine Sm.rf ?_|refine Rw.one rfl (aa hx) rfl ?_|refine Rw.one rfl (aa hxo) rfl ?_|refine Ix.nat (aa hxo) ?_)
  ((conv=>whnf);refine Nx.mk (k+1) (by omega) (by omega) ?_;(exact wB))
def ME (q:bA) (x:aL):List C:=bA.enc .own (Gy q x)++cz .own (zg q x)
theorem L8 (q:bA) (x:aL):gk (ME q x):=aN (bA.enc_fr _) (sF _)
theorem Ay (q:bA) (x0:aL) (hl:q.Lst.length<=4096) (hq:f6 q=true) (hx:0<=x0.Class/\x0.Class<=3/\0<=x0.Addr/\0<=x0.Since) (hs:∀ y∈q.Lst,y.Since<=x0.Since) (hn:∀ y∈q.Lst,y.Addr≠x0.Addr) :
  ao Tryz.prog 383 false [.val (some 2) (bA.enc .imm q),.val (some 3) (aL.enc .imm x0)] (.tup [some 2,none]) (ME q x0):=by
 have hsm:bA.sml q:=⟨by omega,fun _ _=>trivial⟩
 have c1:=pX q hsm;have c2:=mY q hsm;rw[hq]at c2;have c3:=xT x0;rw[O0 hx]at c3;have c4:=qT q x0.Addr hsm;rw[show q.Lst.any (dJ x0.Addr)=false by rw[List.any_eq_false];intro y hy;unfold dJ;simpa using hn y hy]at c4;have hr:=(iP.1 hq).2.2.2;have hfr:=L8 q x0;have hz:(aL.mk x0.Addr x0.Class x0.Since)=x0:=rfl;have hcut:=Be q.Room (q.Lst++[x0]);simp only[P2,List.length_singleton]at hcut;by_cases hne:q.Lst.length=0
 all_goals
  try have hlast:(nth q.Lst (q.Lst.length - 1)).Since<=x0.Since:=hs _ (am (by omega))
  try have hxl:=ah (xs:=q.Lst) (i:=q.Lst.length - 1) (by omega)
  try have hxl':q.Lst[((q.Lst.length:Int) - 1).toNat]? = some (nth q.Lst (q.Lst.length - 1)):=by rw[show((q.Lst.length:Int) - 1).toNat=q.Lst.length - 1 by omega];exact hxl
  refine fO 74 [(3,27,[15,16,17,18,19,20,21,22,23,24,25,26,27,28,29,30,31,32,33,34,35,36,37,38,39,40,41]),(7,6,[52,53,54,55,56,57]),(9,268,[61,62,63,64,65,66,67,69,70,71,72,73,0,1,2,3,4,5,6,8,9,10,11,12,7,1008,1009,1010,1011,1012,13,14])] Tryz.func383 rfl ?_ (.inr hfr)
  repeat'(first|refine gD ?_|(conv=>whnf);first|with_reducible refine Bf.D (fun hq=>?_) (fun hq=>?_)|refine Sm.rf ?_|refine Cl.mk (c1) ?_|refine Cl.mk (c2) ?_|refine Cl.mk (c3) ?_|refine Cl.mk (c4) ?_|refine Ix.mk (by omega) (aa hxl') ?_|refine Ap.sm (aM fun _=>rfl) rfl (by simp;omega) (by decide) (fg (aL.enc .own) q.Lst x0) ?_)
  (conv=>whnf)
  refine Lp.fz 8 (ι:=Nat) (fun k=>[(2,.hold .box (bA.enc .imm q)),(4,.hold .box [I 0,.z]),(8,.hold .one (cz .imm (q.Lst++[x0]))),(9,.hold .one [I (k:Nat)])]) (fun k=>k<=m9 q.Room (q.Lst++[x0])) (fun k=>m9 q.Room (q.Lst++[x0]) - k) 0 ?_ (Q0 _) fun k hk=>?_
  ·(repeat'(first|exact trivial|rfl|exact And.intro rfl (show Jm (d3 (cz .own (q.Lst++[x0]))) (cz .imm (q.Lst++[x0])) by rw[AI];exact lf _)|refine And.intro ?_ ?_))
  have hL:(q.Lst++[x0]).length=q.Lst.length+1:=by simp
  have hdl:((q.Lst++[x0]).drop k).length<=5000:=by rw[Q2];omega
  have htl:((q.Lst++[x0]).take k).length<=5000:=by rw[C1];omega
  have c5:=sV ((q.Lst++[x0]).drop k) ⟨by omega,fun _ _=>trivial⟩;by_cases lk:k<m9 q.Room (q.Lst++[x0])
  ·have h1:q.Room<quarCells ((q.Lst++[x0]).drop k) ((q.Lst++[x0]).drop k).length:=ym lk
   repeat'(first|refine gD ?_|(conv=>whnf);first|refine Sm.rf ?_|refine Sl.suf k rfl (by rw[U0];omega) (aM fun _=>rfl) I3 ?_|refine Cl.mk (c5) ?_|refine Sm.rf ?_)
   ((conv=>whnf);refine Nx.mk (k+1) (by omega) (by omega) ?_;(exact wB))
  ·obtain rfl:k=m9 q.Room (q.Lst++[x0]):=by omega
   have h1:quarCells ((q.Lst++[x0]).drop (m9 q.Room (q.Lst++[x0]))) ((q.Lst++[x0]).drop (m9 q.Room (q.Lst++[x0]))).length<=q.Room:=Aa hr.1 _
   repeat'(first|refine gD ?_|(conv=>whnf);first|refine Sm.rf ?_|refine Sl.suf (m9 q.Room (q.Lst++[x0])) rfl (by rw[U0];omega) (aM fun _=>rfl) I3 ?_|refine Sl.pre (m9 q.Room (q.Lst++[x0])) rfl (by rw[U0];omega) (aM fun _=>rfl) C3 ?_|refine Cl.mk (c5) ?_|refine Sm.rf ?_|refine Fl.cp (fun _=>rfl) (fun _=>rfl) (by omega) (by decide) ?_|refine Ap.cp (fun _=>rfl) (fun _=>rfl) (by omega) (by decide) ?_)
   rfl
theorem oM {z:Int} (h:0<=z/\z<512):IntKind.i64.wrap (z.tdiv 16)=z / 16:=(R0 _ (tdiv16 h.1)).trans (ed (by omega) (by omega))
theorem rQ {h:ab} {E:List Int} (hi:bo h E) {o:bJ} (ho:o∈h.Objs):0<=o.Addr/\o.Addr<512:=by
 rcases hi.oow o ho with⟨s,hs,⟨k1,k2,-⟩,-⟩|⟨l,hl,e,-⟩
 ·have:=aF (hi.L.sok s hs);omega
 ·have:=aU (hi.L.lok l hl);omega
theorem HD {k:Int} (h:0<=k/\k<=3):1<=csz k/\csz k<=8:=by
 rcases cg h with e|e|e|e<;>rw[e]<;>decide
structure N8 (h:ab) (o:bJ):Prop where
 cl:0<=aO o.Size/\aO o.Size<=3
 fr:0<=(ar h.Kernel.Machine.Table (o.Addr / 16)).Frame/\(ar h.Kernel.Machine.Table (o.Addr / 16)).Frame<h.Kernel.Machine.Frames.Cells.length
 fit:o.Addr % 16+csz (aO o.Size)<=16
 row:(nth h.Kernel.Machine.Frames.Cells (fS h.Kernel o.Addr)).length=16
theorem N8.of {h:ab} {E:List Int} (hi:bo h E) {o:bJ} (ho:o∈h.Objs) (hc:¬aO o.Size<0):N8 h o:=by
 obtain⟨⟨s,hs,h1,h2⟩,h3⟩:=(eX hi ho).2 hc;have hsc:=aF (hi.L.sok s hs);have hbd:=rQ hi ho;have hp:s.Page=o.Addr / 16:=by have a1:=h1.1;have a2:=h1.2.1;omega
 have hpn:(o.Addr / 16).toNat<(tbl h).Entries.length:=by have:=hi.pg.bnd _ (dv (la:=h.Larges) hs);omega
 have hcast:(((o.Addr / 16).toNat:Nat):Int)=o.Addr / 16:=by omega
 have hm:=(hi.pg.own _ hpn).2 (by rw[hcast,<-hp];exact dv hs);have hm2:(ar h.Kernel.Machine.Table (o.Addr / 16)).Mode≠0:=by rw[<-hcast];unfold tbl at hm hpn;rw[kN hpn];exact hm
 obtain⟨-,-,-,hf0,hf1⟩:=cv hi.ker hm2;have hul:=(bg.1 (aC.1 hi.ker).2.1).2.2.1;have hfr:fS h.Kernel o.Addr<h.Kernel.Machine.Frames.Cells.length:=by unfold fS;omega
 refine⟨by omega,⟨hf0,by omega⟩,?_,hi.lens.row _ (am hfr)⟩;have hz:=h1.2.2.1;rw[hp,<-h2]at *;rcases cg (k:=s.Class) ⟨by omega,by omega⟩ with e|e|e|e<;>rw[e]at hz |-<;>omega
theorem EY (h:ab) (a:Int) (hf:fS h.Kernel a<h.Kernel.Machine.Frames.Cells.length):({h with Kernel:=fJ h.Kernel a 0} : ab)=h:=by
 have e:h.Kernel.Machine.Frames.Cells.set (fS h.Kernel a) (nth h.Kernel.Machine.Frames.Cells (fS h.Kernel a))=h.Kernel.Machine.Frames.Cells:=by
  refine List.ext_getElem? fun i=>?_
  rw[X2];split
  ·rename_i e
   subst e;exact(ah hf).symm
  ·rfl
 unfold fJ lv;rw[e]
theorem BJ (h:ab) (a:Int) (k:Nat) (v:Int) (_:0<=a):bt {h with Kernel:=fJ h.Kernel a (k+1)} = (bt {h with Kernel:=fJ h.Kernel a k}).set 0 (.s .own (((fJ h.Kernel a k).Machine.Frames.Cells.map (aD .own)).set (ar h.Kernel.Machine.Table (a / 16)).Frame.toNat ((aD .own (lv (nth h.Kernel.Machine.Frames.Cells (fS h.Kernel a)) (a % 16).toNat k)).set 0 (.s .own (((lv (nth h.Kernel.Machine.Frames.Cells (fS h.Kernel a)) (a % 16).toNat k).map (rI .own)).set (a % 16+k).toNat (splice (rI .own v) 0 [I 0])))))):=by
 have e:(a % 16+k).toNat=(a % 16).toNat+k:=by omega
 rw[e];simp[bt,fJ,Q4,lv,aD,splice,fS]
 rfl
theorem Do (t:Nat) (h:ab) (xs:List aL) (k:Nat) (hk:k<xs.length):recycs t h ((xs.take (k+1)).map (·.Addr))=recyc t (recycs t h ((xs.take k).map (·.Addr))) (nth xs k).Addr:=by
 unfold recycs;rw[v4,ah hk];simp
theorem Eo (h:ab) (o:bJ) (t:Nat) (hi:bo h []) (ho:o∈h.Objs) (ht:o.Thread=t) (hlc:h.Caches.length<=4):aS Tryz.prog 354 false [.ptr (bt h),.val none [I (t:Nat)],.val none [I o.Addr]] [.ptr (bt (freeOb h t (mS h o.Addr)).1),.val none [I (t:Nat)],.val none [I o.Addr]] .one [I (freeOb h t (mS h o.Addr)).2]:=by
 obtain⟨li,hob,hfst⟩:=hi.objAt ho;have hbd:=rQ hi ho;have hon:=hi.onu o ho;have hlen:=hi.lens;have hno:=hlen.objs;have htn:t<h.Caches.length:=by omega
 have c0:=aE (t:Nat) 0 (h.Caches.length - 1:Int);rw[O0 (by omega)]at c0;have c1:=pp h o.Addr (by omega);rw[hfst]at c1;generalize mS h o.Addr=i at li hob c1;subst hob;have hx:=ah li;have c2:=jg (nth h.Objs i).Size;unfold freeOb;have hks:=bG hi.ker;have c4:=cP h.Kernel.Machine.Table ((nth h.Objs i).Addr / 16) hks.1.2;by_cases hc:aO (nth h.Objs i).Size<0
 ·rw[if_pos hc]
  have c3:=oA h i hi li hc;refine fM 148 [(380,[2,0]),(382,[2,0]),(384,[2,0,0]),(379,[2,0])] [(15,269,[68,69,70,71,72,73,74,75,77,67,78,79,11,0,1,2,3,4,5,6,7,13,8,1000,1001,1002,1003,1004,1013,9,10,11,12,14,1012,15]),(22,15,[92,93,94,95,96,97,98,99,100,101,102,103,104,105,106]),(25,271,[116,117,118,119,120,121,122,123,124,125,127,115,128,129,14,0,1,2,3,4,5,6,7,8,9,15,10,1000,1001,1002,1003,1015,11,12,13,14,16,1014,17])] [(0,0),(0,0),(0,0)] Tryz.func354 rfl (fun u q=>?_)
  repeat'(first|refine gD ?_|(conv=>whnf);first|with_reducible refine Bf.D (fun hq=>?_) (fun hq=>?_)|refine Sm.rf ?_|refine Cl.mk (c0) ?_|refine Cl.eq (c1) ⟨⟨rfl,bz h⟩,⟨rfl,rfl⟩,trivial⟩ ?_|refine Ix.nat (aa hx) ?_|refine Rw.one rfl (aa hx) rfl ?_|refine Cl.mk (c2) ?_|refine cu.mk (c3) (.inl rfl) ?_)
  refine aR.mk rfl rfl ?_;exact wB
 rw[if_neg hc];obtain⟨s1,s2,s3,s4⟩:=N8.of hi (am li) hc;by_cases hm:(ar (tbl h) ((nth h.Objs i).Addr / 16)).Mode=1
 ·rw[if_pos hm]
  unfold tbl at hm;refine fM 148 [(380,[2,0]),(382,[2,0]),(384,[2,0,0]),(379,[2,0])] [(15,269,[68,69,70,71,72,73,74,75,77,67,78,79,11,0,1,2,3,4,5,6,7,13,8,1000,1001,1002,1003,1004,1013,9,10,11,12,14,1012,15]),(22,15,[92,93,94,95,96,97,98,99,100,101,102,103,104,105,106]),(25,271,[116,117,118,119,120,121,122,123,124,125,127,115,128,129,14,0,1,2,3,4,5,6,7,8,9,15,10,1000,1001,1002,1003,1015,11,12,13,14,16,1014,17])] [(0,0),(0,0),(0,0)] Tryz.func354 rfl (fun u q=>?_)
  repeat'(first|refine gA ?_|(conv=>whnf);first|with_reducible refine Bf.D (fun hq=>?_) (fun hq=>?_)|refine Sm.rf ?_|refine Cd.mk (by decide) ?_|refine Wr.mk (oM hbd) ?_|refine Cl.mk (c0) ?_|refine Cl.eq (c1) ⟨⟨rfl,bz h⟩,⟨rfl,rfl⟩,trivial⟩ ?_|refine Ix.nat (aa hx) ?_|refine Rw.one rfl (aa hx) rfl ?_|refine Cl.mk (c2) ?_|refine Cl.eq (c4) ⟨⟨rfl,aG.enc_fz _⟩,⟨rfl,rfl⟩,trivial⟩ ?_)
  refine aR.mk rfl rfl ?_;exact wB
 rw[if_neg hm];unfold tbl at hm;have hfr:fS h.Kernel (nth h.Objs i).Addr<h.Kernel.Machine.Frames.Cells.length:=by unfold fS;omega
 have hcz:=HD s1;have hquar:=hi.inQuar li hc;have hcs:=dx (aO (nth h.Objs i).Size);refine fM 148 [(380,[2,0]),(382,[2,0]),(384,[2,0,0]),(379,[2,0])] [(15,269,[68,69,70,71,72,73,74,75,77,67,78,79,11,0,1,2,3,4,5,6,7,13,8,1000,1001,1002,1003,1004,1013,9,10,11,12,14,1012,15]),(22,15,[92,93,94,95,96,97,98,99,100,101,102,103,104,105,106]),(25,271,[116,117,118,119,120,121,122,123,124,125,127,115,128,129,14,0,1,2,3,4,5,6,7,8,9,15,10,1000,1001,1002,1003,1015,11,12,13,14,16,1014,17])] [(0,0),(0,0),(0,0)] Tryz.func354 rfl (fun u q=>?_)
 repeat'(first|refine gA ?_|(conv=>whnf);first|with_reducible refine Bf.D (fun hq=>?_) (fun hq=>?_)|refine Sm.rf ?_|refine Cd.mk (by decide) ?_|refine Wr.mk (oM hbd) ?_|refine Cl.mk (c0) ?_|refine Cl.eq (c1) ⟨⟨rfl,bz h⟩,⟨rfl,rfl⟩,trivial⟩ ?_|refine Ix.nat (aa hx) ?_|refine Rw.one rfl (aa hx) rfl ?_|refine Cl.mk (c2) ?_|refine Cl.eq (c4) ⟨⟨rfl,aG.enc_fz _⟩,⟨rfl,rfl⟩,trivial⟩ ?_)
 rw[show bt h=bt {h with Kernel:=fJ h.Kernel (nth h.Objs i).Addr 0} by rw[EY h _ hfr]]
 (conv=>whnf)
 refine Lp.mk (ι:=Nat) (fun k=>[(0,.hold .box (bt {h with Kernel:=fJ h.Kernel (nth h.Objs i).Addr k})),(1,.hold .one [I ((t:Nat):Int)]),(2,.hold .one [I ((nth h.Objs i).Addr)]),(7,.hold .one [I ((i:Nat):Int)]),(8,.hold .box (bJ.enc .own (nth h.Objs i))),(9,.hold .one [I (aO (nth h.Objs i).Size)]),(10,.hold .box (bj.enc .own (ar h.Kernel.Machine.Table ((nth h.Objs i).Addr / 16)))),(13,.hold .one [I ((k:Nat):Int)])]) (fun k=>k<=(csz (aO (nth h.Objs i).Size)).toNat) (fun k=>(csz (aO (nth h.Objs i).Size)).toNat - k) (0) ?_ (Q0 _) fun k hk=>?_
 ·exact wB
 have hmod:IntKind.i64.wrap 0=0:=rfl;have htm:(nth h.Objs i).Addr.tmod 16=(nth h.Objs i).Addr % 16:=dZ hbd.1;have hck:(fJ h.Kernel (nth h.Objs i).Addr k).Machine.Frames.Cells[(ar h.Kernel.Machine.Table ((nth h.Objs i).Addr / 16)).Frame.toNat]? = some (lv (nth h.Kernel.Machine.Frames.Cells (fS h.Kernel (nth h.Objs i).Addr)) ((nth h.Objs i).Addr % 16).toNat k):=U2 hfr;by_cases lk:k<(csz (aO (nth h.Objs i).Size)).toNat
 ·have hzk:=ah (xs:=lv (nth h.Kernel.Machine.Frames.Cells (fS h.Kernel (nth h.Objs i).Addr)) ((nth h.Objs i).Addr % 16).toNat k) (i:=((nth h.Objs i).Addr % 16+k).toNat) (by rw[nU,s4];omega)
  repeat'(first|refine gD ?_|(conv=>whnf);first|refine Sm.rf ?_|refine Cd.mk (by decide) ?_|refine Ev.mk htm ?_|refine Cl.mk (hcs) ?_|refine Ix.mk s2.1 (aa hck) ?_|refine Rw.one rfl (aa hck) rfl ?_|refine Ix.mk (by omega) (aa hzk) ?_|refine Pu.two rfl rfl (aa hck) rfl rfl rfl (aa hzk) rfl (I2 _) (BJ h _ k _ hbd.1) ?_)
  ((conv=>whnf);refine Nx.mk (k+1) (by omega) (by omega) ?_;(exact wB))
 ·obtain rfl:k=(csz (aO (nth h.Objs i).Size)).toNat:=by omega
  have c5:=mf {h with Kernel:=fJ h.Kernel (nth h.Objs i).Addr (csz (aO (nth h.Objs i).Size)).toNat} i li (by show h.Objs.length<=_;omega);have hnum:=hi.nums;unfold bW at hnum;rw[C0]at hnum;have hnd:=(hi.dropO li (iU.any (c:=aO (nth h.Objs i).Size) (by obtain⟨⟨s,hs,k1,k2⟩,-⟩:=(eX hi (am li)).2 hc;exact⟨s,hs,k1,.inr k2⟩))).nd;rw[List.cons_append,List.nil_append]at hnd;have c6:=Ay h.Quar (kF h (nth h.Objs i)) (by have:=hlen.quar;omega) hi.quar ⟨s1.1,s1.2,hbd.1,hnum.2.2.1⟩ (fun y hy=>hi.snc y hy) (fun y hy e=>(List.nodup_cons.1 hnd).1 (by rw[show(nth h.Objs i).Addr=y.Addr from e.symm];unfold holders;simp only[C2];exact .inl (.inr (O3.2 ⟨y,hy,rfl⟩))));unfold ME at c6;have hol:(zg h.Quar (kF h (nth h.Objs i))).length<=513:=by have:=hlen.quar;unfold zg;rw[C1,P2];simp only[List.length_singleton];omega
  repeat'(first|refine gA ?_|(conv=>whnf);first|with_reducible refine Bf.D (fun hq=>?_) (fun hq=>?_)|refine Sm.rf ?_|refine Cl.mk (hcs) ?_|refine cu.mk (c5) (.inl rfl) ?_|refine Cl.eq (c6) ⟨⟨rfl,bA.enc_fz h.Quar⟩,⟨rfl,rfl⟩,trivial⟩ ?_|refine Sm.rf ?_)
  have hfq:Ja h t i=recycs t (inQuar h i) ((zg h.Quar (kF h (nth h.Objs i))).map (·.Addr)):=rfl;simp only;rw[hfq];have hqn:(inQuar h i).Caches.length=h.Caches.length:=rfl;generalize zg h.Quar (kF h (nth h.Objs i))=out at hquar hol
  (conv=>whnf)
  refine Lp.mk (ι:=Nat) (fun k=>[(0,.hold .box (bt (recycs t (inQuar h i) ((out.take k).map (·.Addr))))),(1,.hold .one [I ((t:Nat):Int)]),(15,.hold .one (cz .own out)),(16,.hold .one [I ((k:Nat):Int)])]) (fun k=>k<=out.length) (fun k=>out.length - k) (0) ?_ (Q0 _) fun k hk=>?_
  ·exact wB
  by_cases lk:k<out.length
  ·have hxo:=ah lk
   have hsp:out.map (·.Addr)=(out.take k).map (·.Addr)++(nth out k).Addr::(out.drop (k+1)).map (·.Addr):=by
    conv=>lhs;rw[<-List.take_append_drop k out,iS lk]
    simp
   have hik:bo (recycs t (inQuar h i) ((out.take k).map (·.Addr))) ((nth out k).Addr::(out.drop (k+1)).map (·.Addr)):=bo.recycs (by rw[<-hsp];exact hquar) htn;have c7:=mu _ _ t _ hik (by rw[(iF t _ _).1];exact htn)
   repeat'(first|refine gD ?_|(conv=>whnf);first|refine Sm.rf ?_|refine Ix.nat (aa hxo) ?_|refine Rw.one rfl (aa hxo) rfl ?_|refine cu.mk (c7) (.inl rfl) ?_)
   ((conv=>whnf);refine Nx.mk (k+1) (by omega) (by omega) ?_)
   rw[Do t _ out k lk];exact wB
  ·obtain rfl:k=out.length:=by omega
   rw[X3]
   repeat'(first|refine gD ?_|(conv=>whnf);first|refine Sm.rf ?_)
   refine aR.mk rfl rfl ?_;exact wB
def oE (rows:List (List C)):C:=match rows with|[]=>.s .imm []|_=>.s .own rows
set_option maxRecDepth 100000
theorem dL (c:C):Lk c c:=(lf [c]).1
def cE (h:ab) (s l o:C):List C:=[.s .own (h.Kernel.Machine.Frames.Cells.map (aD .own)),.s .own (h.Kernel.Machine.Frames.Used.map (rB .own)),.s .own (h.Kernel.Machine.Table.Entries.map (bj.enc .own)),I h.Kernel.Calls,.s .own (h.Kernel.Refuse.map (rI .own)),.s .own (h.Free.map (a7.enc .own)),s,l,o,.s .own (h.Caches.map (aB.enc .own)),.s .own (h.Mail.Buffers.map (co .own)),.s .own (h.Mail.Inbox.map (aD .own)),I h.Quar.Room,.s .own (h.Quar.Lst.map (aL.enc .own)),I h.Seed,I h.Clock,I h.Limit,I h.Next,B h.Meshing,I h.Job.Plan.Keep,I h.Job.Plan.Move,.s .own (h.Job.Plan.Cells.map (rI .own)),I h.Job.Phase,I h.Job.Next]
def oS (h:ab):C:=oE (h.Spans.map (au.enc .own))
def oL (h:ab):C:=oE (h.Larges.map (a8.enc .own))
def oO (h:ab):C:=oE (h.Objs.map (bJ.enc .own))
def wM (h:ab):List C:=cE h (oS h) (oL h) (oO h)
theorem JO (rows:List (List C)):fz (oE rows)=fz (.s .own rows):=by cases rows<;>rfl
theorem Nq (h:ab) {s l o:C} (hs:fz s=.s .imm (h.Spans.map (au.enc .imm))) (hl:fz l=.s .imm (h.Larges.map (a8.enc .imm))) (ho:fz o=.s .imm (h.Objs.map (bJ.enc .imm))):d3 (cE h s l o)=ab.enc .imm h:=by
 have h1:=ab.enc_fz h;have h2:d3 (cE h s l o)=(((d3 (ab.enc .own h)).set 6 (fz s)).set 7 (fz l)).set 8 (fz o):=rfl;rw[h2,h1,hs,hl,ho];rfl
theorem Nf (h:ab):fz (oS h)=.s .imm (h.Spans.map (au.enc .imm)):=(JO _).trans (vw _)
theorem Ni (h:ab):fz (oL h)=.s .imm (h.Larges.map (a8.enc .imm)):=(JO _).trans (rC _)
theorem MX (h:ab):fz (oO h)=.s .imm (h.Objs.map (bJ.enc .imm)):=(JO _).trans (tQ _)
theorem KX (h:ab):d3 (wM h)=ab.enc .imm h:=Nq h (Nf h) (Ni h) (MX h)
theorem EC {rows:List (List C)} (h:Mg rows):Mn (oE rows):=by cases rows with|nil=>exact⟨.inr rfl,trivial⟩|cons r rs=>exact⟨.inl fun e=>(by cases e),h⟩
theorem tJ (h:ab):gk (wM h):=by
 have h1:=ab.enc_fr h;simp only[ab.enc,gk]at h1;unfold wM cE;simp only[gk];refine⟨h1.1,h1.2.1,h1.2.2.1,h1.2.2.2.1,h1.2.2.2.2.1,h1.2.2.2.2.2.1,EC ?_,EC ?_,EC ?_,h1.2.2.2.2.2.2.2.2.2⟩
 ·exact h1.2.2.2.2.2.2.1.2
 ·exact h1.2.2.2.2.2.2.2.1.2
 ·exact h1.2.2.2.2.2.2.2.2.1.2
theorem DP {w:World} {S Y:ac} {rows:List (List C)} {v:Value} (h:dP w S Y (.s .own rows) v):dP w S Y (oE rows) v:=by
 cases rows with
 | cons=>exact h
 | nil=>
  cases h with
  | nil _ o a ho=>exact .nil _ .imm a trivial
  | own _ o g k n cap rows u f ho hn hk hcap hpos hF hu hf hd hc=>simp at hn;omega
theorem JQ {w:World} {S Y:ac} {h:ab} {u:Nat->Value} (hr:cF w S Y (ab.enc .own h) u):cF w S Y (wM h) u:=by
 obtain⟨f,h1,h2,h3⟩:=hr;refine⟨f,fun j c hj=>?_,h2,h3⟩;have hz:wM h=(((ab.enc .own h).set 6 (oS h)).set 7 (oL h)).set 8 (oO h):=rfl;rw[hz]at hj;by_cases e8:j=8
 ·subst e8
  have:c=oO h:=by simpa[ab.enc] using hj.symm
  rw[this];exact DP (h1 8 _ rfl)
 by_cases e7:j=7
 ·subst e7
  have:c=oL h:=by simpa[ab.enc] using hj.symm
  rw[this];exact DP (h1 7 _ rfl)
 by_cases e6:j=6
 ·subst e6
  have:c=oS h:=by simpa[ab.enc] using hj.symm
  rw[this];exact DP (h1 6 _ rfl)
 ·rw[List.getElem?_set_ne (by omega),List.getElem?_set_ne (by omega),List.getElem?_set_ne (by omega)]at hj
  exact h1 j c hj
theorem wz (h:ab) (hs:ab.sml h):ao Tryz.prog 65 false [.val (some 24) (ab.enc .imm h)] .agg (wM h):=by
 obtain⟨h1,h2⟩:=xv h hs;refine⟨h1,fun w S vs hS hA=>(h2 w S vs hS hA).mono fun e w1 hv=>?_⟩;obtain⟨v,he,hk,X,S1,a1,a2,a3,a4,a5⟩:=hv;exact⟨v,he,hk,X,S1,a1,a2,a3,a4,JQ a5⟩
theorem mI {c c':C} (h:c'=c):Lk c c':=by subst h;exact dL _
def Gd (c:aB) (k:Nat):aB:=⟨c.Lists.set k []⟩
theorem KZ (c:aB) (k:Nat):aB.enc .own (Gd c k)=[.s .own ((c.Lists.map (aD .own)).set k (aD .own []))]:=by simp[aB.enc,Gd,Q4]
theorem HA (xs:List Int):([]:List Int).map (rI .imm)=(xs.map (rI .imm)).drop xs.length:=by rw[List.drop_eq_nil_of_le (by rw[U0];omega)];rfl
theorem H7 (xs:List Int):xs.map (rI .imm)=(xs.map (rI .imm)).take xs.length:=by rw[t5 (by rw[U0];omega)]
def NQ (c:aB) (k:Nat):List C:=aB.enc .own (Gd c k)++aD .own (nth c.Lists k)
theorem MR (c:aB) (k:Nat):gk (NQ c k):=aN (aB.enc_fr _) (bF _)
theorem td (c:aB) (k:Nat) (ho:br c=true) (hk:k<=3):ao Tryz.prog 390 false [.val (some 1) (aB.enc .imm c),.val none [I (k:Nat)],.val none [I 8]] (.tup [some 1,none]) (NQ c k):=by
 obtain⟨h1,h2⟩:=ee ho;have hs:aB.sml c:=⟨by omega,fun l hl=>by have:=h2 l hl;show l.length<=1048576;omega⟩
 have c1:=vn c k hs;rw[ho,O0 (by omega)]at c1;have c2:=ik c hs;have hx:=rJ (c:=c) (k:=k) (by omega);have hxl:=h2 _ (am (xs:=c.Lists) (i:=k) (by omega));have hf:=MR c k;unfold NQ at hf |-;rw[KZ]at hf |-;refine fO 52 [(5,268,[29,30,31,32,33,34,35,36,37,38,39,41,0,1,2,3,4,5,6,7,8,9,10,11,1000,1001,1002,12,13]),(6,265,[42,43,44,45,46,47,48,49,50,0,1,2,3,4,5,6,7,8,9,1000,10,11])] Tryz.func390 rfl ?_ (.inr hf)
 repeat'(first|refine gO ?_|(conv=>whnf);first|with_reducible refine Ix.nat (aa hx) ?_|refine Sm.rf ?_|refine Rw.one rfl (aa hx) rfl ?_|refine Cl.mk (c1) ?_|refine Cl.mk (c2) ?_|refine Ev.mk (z:=((nth c.Lists k).length:Int)) (by simp;omega) ?_|refine Sl.suf (nth c.Lists k).length rfl (by rw[U0];omega) (aM fun _=>rfl) (HA _) ?_|refine Sl.pre (nth c.Lists k).length rfl (by rw[U0];omega) (aM fun _=>rfl) (H7 _) ?_|refine Sm.rf ?_|refine Fl.cp (fun _=>rfl) (fun _=>rfl) (by simp) (by decide) ?_|refine Ap.cp (fun _=>rfl) (fun _=>rfl) (by simp) (by decide) ?_|refine Fl.cp (fun _=>rfl) (fun _=>rfl) (by omega) (by decide) ?_|refine Ap.cp (fun _=>rfl) (fun _=>rfl) (by omega) (by decide) ?_|refine Pu.one rfl rfl (aa hx) rfl (W0 rfl) rfl ?_)
 rfl
theorem mL {k:Int} : ∀ {l s s2 s':List Int},(∀ x∈s2,x∈s)->pL k s l=some s'->(∀ x∈s,x∈s')/\∃ s2',pL k s2 l=some s2'/\∀ x∈s2',x∈s'
 | [],s,s2,s',h,e=>by
  simp only[pL,T0]at e |-;subst e;exact⟨fun _ h=>h,s2,rfl,h⟩
 | a::l,s,s2,s',h,e=>by
  simp only[pL]at e |-;split at e
  ·rename_i g
   rw[if_pos (show good k s2 a from⟨g.1,g.2.1,g.2.2.1,fun x=>g.2.2.2 (h a x)⟩)];obtain⟨h1,h2⟩:=mL (l:=l) (s:=s++[a]) (s2:=s2++[a]) (fun x hx=>by
     rcases C2.1 hx with hx|hx
     · exact C2.2 (.inl (h x hx))
     · exact C2.2 (.inr hx)) e
   exact⟨fun x hx=>h1 x (C2.2 (.inl hx)),h2⟩
  ·cases e
theorem qU:∀ {ls:List (List Int)} {k:Nat} {s s2:List Int},(∀ x∈s2,x∈s)->(fD k s ls).isSome=true->(fD k s2 ls).isSome=true
 | [],_,_,_,_,_=>rfl
 | l::ls,k,s,s2,h,e=>by
  simp only[fD,dR]at e |-;split at e
  ·rename_i g
   rw[if_pos g];cases e1:pL k s l with
   | none=>rw[e1]at e;cases e
   | some s'=>
    rw[e1]at e;obtain⟨-,s2',e2,h2⟩:=mL h e1;rw[e2];exact qU h2 e
  ·cases e
theorem Bb:∀ {ls:List (List Int)} {k:Nat} {s s2:List Int} (i:Nat),(∀ x∈s2,x∈s)->(fD k s ls).isSome=true->(fD k s2 (ls.set i [])).isSome=true
 | [],_,_,_,_,_,_=>rfl
 | l::ls,k,s,s2,i,h,e=>by
  simp only[fD,dR]at e;split at e
  ·rename_i g
   cases e1:pL k s l with
   | none=>rw[e1]at e;cases e
   | some s'=>
    rw[e1]at e;obtain⟨h1,s2',e2,h2⟩:=mL h e1;cases i with
    | zero=>
     simp only[List.set_cons_zero,fD,dR];rw[if_pos ⟨by simp,g.2⟩];exact qU (fun x hx=>h1 x (h x hx)) e
    | succ i=>
     simp only[List.set_cons_succ,fD,dR];rw[if_pos g,e2];exact Bb i h2 e
  ·cases e
theorem MP {c:aB} (h:br c=true) (k:Nat):br (Gd c k)=true:=by
 unfold br at h |-;simp only[I0,C0]at h |-;exact⟨by simp only[Gd,Z0];exact h.1,Bb k (fun _ h=>h) h.2⟩
def spilt (h:ab) (t k:Nat):ab:={h with Caches:=h.Caches.set t (Gd (nth h.Caches t) k)}
theorem bo.spilt {h:ab} {E:List Int} {t k:Nat} (hi:bo h E) (ht:t<h.Caches.length) (hk:k<(nth h.Caches t).Lists.length):bo (spilt h t k) (nth (nth h.Caches t).Lists k++E):=by
 have hp:(E++holders h).Perm (nth (nth h.Caches t).Lists k++E++holders (Ab.spilt h t k)):=by
  refine List.perm_iff_count.2 fun b=>?_
  have h1:=gZ (fun c:aB=>c.Lists.flatten) b h.Caches t (Gd (nth h.Caches t) k) ht;have h2:=gZ (fun x:List Int=>x) b (nth h.Caches t).Lists k [] hk;rw[<-jS,<-jS]at h2;simp only[List.count_nil]at h2;simp only[Gd]at h1;simp only[holders,ch,Ab.spilt,Gd,P4];omega
 have hsub:∀ c∈(Ab.spilt h t k).Caches,c∈h.Caches\/c=Gd (nth h.Caches t) k:=fun c hc=>U4 hc
 exact {hi with
   nc:=by show(h.Caches.set ..).length=_;rw[Z0];exact hi.nc
   cach:=fun c hcm=>by
     rcases hsub c hcm with hcm|rfl
     · exact hi.cach c hcm
     · exact MP (hi.cach _ (am ht)) k
   onu:=by show ∀ o∈h.Objs,1<=o.Id/\o.Id<=h.Next - 1/\0<=o.Thread/\o.Thread<=(h.Caches.set t _).length - 1;rw[Z0];exact hi.onu
   hca:=fun c hcm j hj b hb=>by
     rcases hsub c hcm with hcm|rfl
     · exact hi.hca c hcm j hj b hb
     · simp only[Gd,Z0]at hj
       simp only[Gd,cx]at hb;by_cases e:k=j
       · subst e
         rw[if_pos ⟨rfl,hj⟩]at hb;cases hb
       · rw[if_neg fun x=>e x.1]at hb
         exact hi.hca _ (am ht) _ hj b hb
   hin:=fun b hb=>by
     rcases C2.1 hb with hb|hb
     · exact(hi.hca _ (am ht) k hk b hb).any
     · exact hi.hin b hb
   nd:=hp.nodup_iff.1 hi.nd
   mem:=fun b=>by rw[<-hp.mem_iff];exact hi.mem b}
def freeAs (h:ab) (az:List Int):ab:=az.foldl freeA h
theorem kq:∀ (az:List Int) (h:ab),(freeAs h az).Caches=h.Caches/\(freeAs h az).Objs=h.Objs/\(freeAs h az).Kernel.Calls=h.Kernel.Calls/\(freeAs h az).Mail=h.Mail/\(freeAs h az).Job=h.Job/\(freeAs h az).Clock=h.Clock/\(freeAs h az).Quar=h.Quar/\(freeAs h az).Kernel.Refuse=h.Kernel.Refuse
 | [],h=>⟨rfl,rfl,rfl,rfl,rfl,rfl,rfl,rfl⟩
 | a::az,h=>by
  obtain⟨h1,h2,h3,h4,h5,h6,h7,h8⟩:=kq az (freeA h a);obtain⟨g1,g2,g3,g4,g5,g6,g7,g8⟩:=wn h (wb h a) a;exact⟨h1.trans g1,h2.trans g2,h3.trans g3,h4.trans g4,h5.trans g5,h6.trans g6,h7.trans g7,h8.trans g8⟩
theorem bo.freeAs {E:List Int} : ∀ {az:List Int} {h:ab},bo h (az++E)->bo (freeAs h az) E
 | [],_,hi=>hi
 | a::az,h,hi=>bo.freeAs (az:=az) (h:=Ab.freeA h a) hi.freeA
theorem sv (h:ab) (az:List Int) (k:Nat) (hk:k<az.length):freeAs h (az.take (k+1))=freeA (freeAs h (az.take k)) (nth az k):=by
 rw[v4,ah hk];simp[freeAs]
def flushN (t:Nat) (h:ab):Nat->ab × Nat
 | 0=>(h,0)
 | k+1=>(freeAs (spilt (flushN t h k).1 t k) (nth (nth (flushN t h k).1.Caches t).Lists k),(flushN t h k).2+(nth (nth (flushN t h k).1.Caches t).Lists k).length)
theorem jT {t:Nat} {h:ab} (hi:bo h []) (ht:t<h.Caches.length):∀ {k:Nat},k<=4->bo (flushN t h k).1 []/\(flushN t h k).1.Caches.length=h.Caches.length/\(flushN t h k).1.Kernel.Calls=h.Kernel.Calls/\(flushN t h k).1.Objs=h.Objs/\(flushN t h k).1.Mail=h.Mail/\(flushN t h k).1.Job=h.Job/\(flushN t h k).2<=8*k
 | 0,_=>⟨hi,rfl,rfl,rfl,rfl,rfl,Q0 _⟩
 | k+1,hk=>by
  obtain⟨h1,h2,h3,h4,h5,h6,h7⟩:=jT hi ht (k:=k) (by omega);have ht':t<(flushN t h k).1.Caches.length:=by omega
  obtain⟨c1,c2⟩:=ee (h1.cach _ (am ht'));have hk':k<(nth (flushN t h k).1.Caches t).Lists.length:=by omega
  have hs:=h1.spilt ht' hk';have hl:=c2 _ (am hk');obtain⟨g1,g2,g3,g4,g5,-⟩:=kq (nth (nth (flushN t h k).1.Caches t).Lists k) (Ab.spilt (flushN t h k).1 t k);refine⟨bo.freeAs hs,?_,g3.trans h3,g2.trans h4,g4.trans h5,g5.trans h6,?_⟩
  ·show(Ab.freeAs _ _).Caches.length=_
   rw[g1];simp only[Ab.spilt,Z0];exact h2
  ·simp only[flushN];omega
theorem B6 {h:ab} {t k:Nat} (hi:bo h []) (ht:t<h.Caches.length) (hk:k<4):t<(flushN t h k).1.Caches.length/\br (nth (flushN t h k).1.Caches t)=true/\k<(nth (flushN t h k).1.Caches t).Lists.length/\(nth (nth (flushN t h k).1.Caches t).Lists k).length<=8/\(flushN t h k).2<=8*k:=by
 obtain⟨h1,h2,-,-,-,-,h7⟩:=jT hi ht (k:=k) (by omega);have ht':t<(flushN t h k).1.Caches.length:=by omega
 have hc:=h1.cach _ (am ht');obtain⟨c1,c2⟩:=ee hc;have hk':k<(nth (flushN t h k).1.Caches t).Lists.length:=by omega
 exact⟨ht',hc,hk',c2 _ (am hk'),h7⟩
theorem K2 {h:ab} {t k j:Nat} (hi:bo h []) (ht:t<h.Caches.length) (hk:k<4) (hj:j<(nth (nth (flushN t h k).1.Caches t).Lists k).length):bo (freeAs (spilt (flushN t h k).1 t k) ((nth (nth (flushN t h k).1.Caches t).Lists k).take j)) (nth (nth (nth (flushN t h k).1.Caches t).Lists k) j::(nth (nth (flushN t h k).1.Caches t).Lists k).drop (j+1)):=by
 obtain⟨h1,h2⟩:=B6 hi ht hk;have hs:=((jT hi ht (k:=k) (by omega)).1).spilt h1 h2.2.1;rw[List.append_nil]at hs;refine bo.freeAs ?_;rw[<-iS hj,List.take_append_drop];exact hs
theorem wF (h:ab) (t:Nat) (hi:bo h []) (ht:t<h.Caches.length):aS Tryz.prog 362 false [.ptr (bt h),.val none [I (t:Nat)]] [.ptr (bt (flushN t h 4).1),.val none [I (t:Nat)]] .one [I ((flushN t h 4).2:Nat)]:=by
 refine fM 48 [(364,[2,0])] [(6,6,[26,27,28,29,30,31])] [(0,0),(0,0)] Tryz.func362 rfl (fun u q=>?_)
 repeat'(first|refine gO ?_|fail)
 (conv=>whnf)
 refine Lp.mk (ι:=Nat) (fun k=>[(0,.hold .box (bt (flushN t h k).1)),(1,.hold .one [I ((t:Nat):Int)]),(5,.hold .one [I (((flushN t h k).2:Nat):Int)]),(6,.hold .one [I ((k:Nat):Int)])]) (fun k=>k<=4) (fun k=>4 - k) (0) ?_ (Q0 _) fun k hk=>?_
 ·repeat'(first|exact trivial|rfl |exact mI hoo|exact dL _|refine And.intro ?_ ?_|(exact AG (by first|omega|(simp only;omega)|(simp;omega))))
 by_cases lk:k<4
 ·obtain⟨g1,g2,g3,g4,g5⟩:=B6 hi ht lk
  have c1:=td (nth (flushN t h k).1.Caches t) k g2 (by omega);have hin:=fun j=>K2 hi ht lk (j:=j)
  have hy:=ah g1;have hd:(flushN t h (k+1)).1=freeAs (spilt (flushN t h k).1 t k) (nth (nth (flushN t h k).1.Caches t).Lists k):=rfl;have hn:(flushN t h (k+1)).2=(flushN t h k).2+(nth (nth (flushN t h k).1.Caches t).Lists k).length:=rfl;have hoo:C.s dz.own ((spilt (flushN t h k).1 t k).Caches.map (aB.enc .own))=C.s dz.own (((flushN t h k).1.Caches.map (aB.enc .own)).set t (aB.enc .own (Gd (nth (flushN t h k).1.Caches t) k))):=by simp[spilt,Q4]
  repeat'(first|refine gD ?_|(conv=>whnf);first|refine Ix.nat (aa hy) ?_|refine Rw.one rfl (aa hy) rfl ?_|refine Cl.eq (c1) ⟨⟨rfl,aB.enc_fz _⟩,⟨rfl,rfl⟩,⟨rfl,rfl⟩,trivial⟩ ?_|refine Sm.rf ?_|refine Pu.one rfl rfl (aa hy) rfl (W0 rfl) rfl ?_)
  generalize (flushN t h k).1=d at *;generalize (flushN t h k).2=m at *
  (conv=>whnf)
  refine Lp.mk (ι:=Nat) (fun j=>[(0,.hold .box (bt (freeAs (spilt d t k) ((nth (nth d.Caches t).Lists k).take j)))),(1,.hold .one [I ((t:Nat):Int)]),(5,.hold .one [I (((m+j):Nat):Int)]),(6,.hold .one [I ((k:Nat):Int)]),(8,.hold .one (aD .own (nth (nth d.Caches t).Lists k))),(9,.hold .one [I ((j:Nat):Int)])]) (fun j=>j<=(nth (nth d.Caches t).Lists k).length) (fun j=>(nth (nth d.Caches t).Lists k).length - j) (0) ?_ (Q0 _) fun j hj=>?_
  ·repeat'(first|exact trivial|rfl |exact mI hoo|exact dL _|refine And.intro ?_ ?_|(exact AG (by first|omega|(simp only;omega)|(simp;omega))))
  by_cases lj:j<(nth (nth d.Caches t).Lists k).length
  ·have hxa:=ah lj
   have c2:=lQ _ _ _ (hin j lj)
   repeat'(first|refine gD ?_|(conv=>whnf);first|refine Ix.nat (aa hxa) ?_|refine Rw.one rfl (aa hxa) rfl ?_|refine cu.mk (c2) (.inl rfl) ?_)
   ((conv=>whnf);refine Nx.mk (j+1) (by omega) (by omega) ?_)
   rw[sv _ _ _ lj];exact wC
  ·obtain rfl:j=(nth (nth d.Caches t).Lists k).length:=by omega
   rw[X3]
   repeat'(first|refine gD ?_|fail)
   ((conv=>whnf);refine Nx.mk (k+1) (by omega) (by omega) ?_)
   rw[hd,hn];exact wC
 ·obtain rfl:k=4:=by omega
  repeat'(first|refine gD ?_|fail)
  refine aR.mk rfl rfl ?_;exact wC
def xp (s:Int):Int:=(1103515245*s+12345) % 1073741824
theorem zE (s:Int):0<=xp s/\xp s<=1073741823:=by unfold xp;omega
theorem xG (s:Int) (hs:0<=s/\s<=1073741823):ao Tryz.prog 377 false [.val none [I s]] .one [I (xp s)]:=by
 have c1:=aE s 0 1073741823;rw[O0 hs]at c1;refine fO 10 [] Tryz.func377 rfl ?_
 repeat'(first|refine gO ?_|(conv=>whnf);first|refine Sm.rf ?_|refine Ev.mk (z:=xp s) (dZ (by omega)) ?_|refine Cl.mk (c1) ?_|refine Cd.mk (by decide) ?_)
 rfl
theorem qK (s:Int) (hs:0<=s/\s<=1073741823):ao Tryz.prog 75 false [.val none [I s]] .one [B true]:=by
 have c1:=aJ s 0 1073741823;rw[O0 hs]at c1;refine fO 5 [] Tryz.func75 rfl ?_
 repeat'(first|refine gO ?_|(conv=>whnf);first|refine Sm.rf ?_|refine Cl.mk (c1) ?_)
 rfl
theorem xj (s:Int) (hs:0<=s/\s<=1073741823):ao Tryz.prog 324 false [.val none [I s]] .one [I (xp s)]:=by
 refine fO 10 [] Tryz.func324 rfl ?_
 repeat'(first|refine gO ?_|(conv=>whnf);first|refine Sm.rf ?_|refine Ev.mk (z:=xp s) (dZ (by omega)) ?_|refine Cl.mk (qK s hs) ?_|refine Cd.mk (by decide) ?_)
 rfl
def AU (s n:Int):Int:=xp s / 1024 % n
theorem oT (s:Int) {n:Int} (h:1<=n):0<=AU s n/\AU s n<n:=⟨Int.emod_nonneg _ (by omega),Int.emod_lt_of_pos _ (by omega)⟩
theorem sP (s n:Int) (hs:0<=s/\s<=1073741823) (hn:1<=n/\n<=1000):ao Tryz.prog 343 false [.val none [I s],.val none [I n]] (.tup [none,none]) [I (AU s n),I (xp s)]:=by
 have c1:=aE s 0 1073741823;have c2:=aE n 1 1000;rw[O0 hs]at c1;rw[O0 hn]at c2;have hb:=zE s;have hc:=oT s hn.1;have e1:(xp s).tdiv 1024=xp s / 1024:=Int.tdiv_eq_ediv_of_nonneg hb.1;have e2:((xp s).tdiv 1024).tmod n=AU s n:=by rw[e1];exact dZ (by omega)
 refine fO 23 [] Tryz.func343 rfl ?_ (.inr ⟨trivial,trivial,trivial⟩)
 repeat'(first|refine gO ?_|(conv=>whnf);first|refine Sm.rf ?_|refine Cl.mk (c1) ?_|refine Cl.mk (c2) ?_|refine Cl.mk (xG s hs) ?_|refine Cd.mk (by decide) ?_|refine Cd.mk (by omega) ?_|refine Ev.mk e2 ?_|refine Wr.mk (ed (by rw[e1];omega) (by rw[e1];omega)) ?_)
 rfl
theorem AN (s n:Int) (hs:0<=s/\s<=1073741823) (hn:1<=n/\n<=1000):ao Tryz.prog 256 false [.val none [I s],.val none [I n]] (.tup [none,none]) [I (AU s n),I (xp s)]:=by
 have c2:=aJ n 1 1000;rw[O0 hn]at c2;have hb:=zE s;have hc:=oT s hn.1;have e1:(xp s).tdiv 1024=xp s / 1024:=Int.tdiv_eq_ediv_of_nonneg hb.1;have e2:((xp s).tdiv 1024).tmod n=AU s n:=by rw[e1];exact dZ (by omega)
 refine fO 23 [] Tryz.func256 rfl ?_ (.inr ⟨trivial,trivial,trivial⟩)
 repeat'(first|refine gO ?_|(conv=>whnf);first|refine Sm.rf ?_|refine Cl.mk (qK s hs) ?_|refine Cl.mk (c2) ?_|refine Cl.mk (xj s hs) ?_|refine Cd.mk (by decide) ?_|refine Cd.mk (by omega) ?_|refine Ev.mk e2 ?_|refine Wr.mk (ed (by rw[e1];omega) (by rw[e1];omega)) ?_)
 rfl
def mZ (n:Nat):List Int:=(List.range n).map fun(i:Nat)=>(i:Int)
theorem vp (n:Nat):mZ (n+1)=mZ n++[(n:Int)]:=by unfold mZ;rw[List.range_succ,C4];rfl
theorem rO (n:Nat):(mZ n).length=n:=by simp[mZ]
def ta (xs:List Int) (i k:Nat):List Int:=(xs.set i (nth xs k)).set k (nth xs i)
theorem GH (xs:List Int) (i k:Nat):(ta xs i k).length=xs.length:=by simp[ta]
def dO (n:Nat) (s:Int):Nat->List Int × Int
 | 0=>(mZ n,s)
 | j+1=>(ta (dO n s j).1 (n - 1 - j) (AU (dO n s j).2 ((n - 1 - j:Nat)+1:Int)).toNat,xp (dO n s j).2)
theorem iJ (n:Nat) {s:Int} (hs:0<=s/\s<=1073741823):∀ j,(dO n s j).1.length=n/\0<=(dO n s j).2/\(dO n s j).2<=1073741823
 | 0=>⟨rO n,hs⟩
 | j+1=>⟨by simp only[dO,GH];exact(iJ n hs j).1,zE _⟩
def shuf (n:Nat) (s:Int):List Int × Int:=dO n s (n - 1)
theorem D1 (xs:List Int) (i k:Nat):(ta xs i k).map (rI .own)=((xs.map (rI .own)).set i (rI .own (nth xs k))).set k (rI .own (nth xs i)):=by simp[ta,Q4]
theorem yE {xs:List Int} {i k:Nat} (v:Int) (hk:k<xs.length):((xs.map (rI .own)).set i (rI .own v))[k]? = some (rI .own (nth (xs.set i v) k)):=by
 rw[<-Q4];exact aa (ah (by rw[Z0];exact hk))
theorem xu (n:Nat) (s:Int) (hs:0<=s/\s<=1073741823) (hn:n<=64):ao Tryz.prog 393 false [.val none [I s],.val none [I (n:Nat)]] (.tup [none,none]) (aD .own (shuf n s).1++[I (shuf n s).2]):=by
 have c1:=aE s 0 1073741823;have c2:=aE (n:Nat) 0 64;rw[O0 hs]at c1;rw[O0 (by omega)]at c2;refine fO 63 [] Tryz.func393 rfl ?_ (.inr (aN (bF _) ⟨trivial,trivial⟩))
 repeat'(first|refine gO ?_|(conv=>whnf);first|refine Sm.rf ?_|refine Cl.mk (c1) ?_|refine Cl.mk (c2) ?_)
 (conv=>whnf)
 refine Lp.mk (ι:=Nat) (fun k=>[(0,.hold .one [I (s)]),(1,.hold .one [I ((n:Nat):Int)]),(6,.hold .one (aD .own (mZ k))),(7,.hold .one [I ((k:Nat):Int)])]) (fun k=>k<=n) (fun k=>n - k) (0) ?_ (Q0 _) fun k hk=>?_
 ·exact wB
 have hkl:=rO k;by_cases lk:k<n
 ·repeat'(first|refine gD ?_|(conv=>whnf);first|refine Sm.rf ?_|refine Ap.sm (aM fun _=>rfl) rfl (by simp;omega) (by decide) (fg (rI .own) (mZ k) (k:Int)) ?_)
  ((conv=>whnf);refine Nx.mk (k+1) (by omega) (by omega) ?_)
  rw[vp];exact wB
 ·obtain rfl:k=n:=by omega
  repeat'(first|refine gD ?_|(conv=>whnf);first|refine Sm.rf ?_)
  (conv=>whnf)
  refine Lp.mk (ι:=Nat) (fun j=>[(0,.hold .one [I ((dO k s j).2)]),(6,.hold .one (aD .own (dO k s j).1)),(8,.hold .one [I (((k:Int) - 1 - j))])]) (fun j=>(j<=k - 1/\j<=k)) (fun j=>k - j) (0) ?_ (⟨Q0 _,Q0 _⟩) fun j hj=>?_
  ·exact wB
  obtain⟨b1,b2,b3⟩:=iJ k hs j;by_cases lj:j<k - 1
  ·have hi:(k:Int) - 1 - j=((k - 1 - j:Nat):Int):=by omega
   have hch:=oT (dO k s j).2 (n:=((k - 1 - j:Nat)+1:Int)) (by omega);have c3:=sP (dO k s j).2 ((k - 1 - j:Nat)+1:Int) ⟨b2,b3⟩ (by omega);have hd:dO k s (j+1)=(ta (dO k s j).1 (k - 1 - j) (AU (dO k s j).2 ((k - 1 - j:Nat)+1:Int)).toNat,xp (dO k s j).2):=rfl;rw[hi];generalize dO k s j=p at *;obtain⟨xs,z⟩:=p;simp only at *;generalize k - 1 - j=i at *;have hx1:=ah (xs:=xs) (i:=i) (by omega);have hx2:=ah (xs:=xs) (i:=(AU z (i+1)).toNat) (by omega);have hy1:=yE (xs:=xs) (i:=i) (k:=(AU z (i+1)).toNat) (nth xs (AU z (i+1)).toNat) (by omega)
   repeat'(first|refine gD ?_|(conv=>whnf);first|refine Sm.rf ?_|refine Cl.mk (c3) ?_|refine Ix.mk (by omega) (aa hx2) ?_|refine Ix.nat (aa hx1) ?_|refine Rw.one rfl (aa hx1) rfl ?_|refine Rw.one rfl (aa hx2) rfl ?_|refine Pu.one rfl rfl (aa hx1) rfl (W0 rfl) rfl ?_|refine Ix.mk (by omega) hy1 ?_|refine Pu.one rfl rfl hy1 rfl (W0 rfl) rfl ?_)
   ((conv=>whnf);refine Nx.mk (j+1) (by omega) (by omega) ?_)
   rw[hd];simp only[aD,D1];exact wB
  ·obtain rfl:j=k - 1:=by omega
   repeat'(first|refine gD ?_|(conv=>whnf);first|refine Sm.rf ?_)
   rfl
theorem xw (n:Nat) (s:Int) (hs:0<=s/\s<=1073741823) (hn:n<=64):ao Tryz.prog 189 false [.val none [I s],.val none [I (n:Nat)]] (.tup [none,none]) (aD .own (shuf n s).1++[I (shuf n s).2]):=by
 have c1:=qK s hs;have c2:=aJ (n:Nat) 0 64;rw[O0 (by omega)]at c2;refine fO 60 [(12,270,[43,44,45,46,47,48,49,50,51,52,53,54,55,56,0,1,2,3,4,5,6,7,8,9,10,11,12,13,1002,1003,14,15])] Tryz.func189 rfl ?_ (.inr (aN (bF _) ⟨trivial,trivial⟩))
 repeat'(first|refine gO ?_|(conv=>whnf);first|refine Sm.rf ?_|refine Cl.mk (c1) ?_|refine Cl.mk (c2) ?_)
 (conv=>whnf)
 refine Lp.mk (ι:=Nat) (fun k=>[(0,.hold .one [I (s)]),(1,.hold .one [I ((n:Nat):Int)]),(6,.hold .one (aD .own (mZ k))),(7,.hold .one [I ((k:Nat):Int)])]) (fun k=>k<=n) (fun k=>n - k) (0) ?_ (Q0 _) fun k hk=>?_
 ·exact wB
 have hkl:=rO k;by_cases lk:k<n
 ·repeat'(first|refine gD ?_|(conv=>whnf);first|refine Sm.rf ?_|refine Ap.sm (aM fun _=>rfl) rfl (by simp;omega) (by decide) (fg (rI .own) (mZ k) (k:Int)) ?_)
  ((conv=>whnf);refine Nx.mk (k+1) (by omega) (by omega) ?_)
  rw[vp];exact wB
 ·obtain rfl:k=n:=by omega
  repeat'(first|refine gD ?_|(conv=>whnf);first|refine Sm.rf ?_)
  (conv=>whnf)
  refine Lp.mk (ι:=Nat) (fun j=>[(0,.hold .one [I ((dO k s j).2)]),(6,.hold .one (aD .own (dO k s j).1)),(8,.hold .one [I (((k:Int) - 1 - j))])]) (fun j=>(j<=k - 1/\j<=k)) (fun j=>k - j) (0) ?_ (⟨Q0 _,Q0 _⟩) fun j hj=>?_
  ·exact wB
  obtain⟨b1,b2,b3⟩:=iJ k hs j;by_cases lj:j<k - 1
  ·have hi:(k:Int) - 1 - j=((k - 1 - j:Nat):Int):=by omega
   have hch:=oT (dO k s j).2 (n:=((k - 1 - j:Nat)+1:Int)) (by omega);have c3:=AN (dO k s j).2 ((k - 1 - j:Nat)+1:Int) ⟨b2,b3⟩ (by omega);have hd:dO k s (j+1)=(ta (dO k s j).1 (k - 1 - j) (AU (dO k s j).2 ((k - 1 - j:Nat)+1:Int)).toNat,xp (dO k s j).2):=rfl;rw[hi];generalize dO k s j=p at *;obtain⟨xs,z⟩:=p;simp only at *;generalize k - 1 - j=i at *;have hx1:=ah (xs:=xs) (i:=i) (by omega);have hx2:=ah (xs:=xs) (i:=(AU z (i+1)).toNat) (by omega);have hy1:=yE (xs:=xs) (i:=i) (k:=(AU z (i+1)).toNat) (nth xs (AU z (i+1)).toNat) (by omega)
   repeat'(first|refine gD ?_|(conv=>whnf);first|refine Sm.rf ?_|refine Cl.mk (c3) ?_|refine Ix.mk (by omega) (aa hx2) ?_|refine Ix.nat (aa hx1) ?_|refine Rw.one rfl (aa hx1) rfl ?_|refine Rw.one rfl (aa hx2) rfl ?_|refine Pu.one rfl rfl (aa hx1) rfl (W0 rfl) rfl ?_|refine Ix.mk (by omega) hy1 ?_|refine Pu.one rfl rfl hy1 rfl (W0 rfl) rfl ?_)
   ((conv=>whnf);refine Nx.mk (j+1) (by omega) (by omega) ?_)
   rw[hd];simp only[aD,D1];exact wB
  ·obtain rfl:j=k - 1:=by omega
   repeat'(first|refine gD ?_|(conv=>whnf);first|refine Sm.rf ?_)
   rfl
def p8 (b:Int):Nat->Nat
 | 0=>0
 | n+1=>p8 b n+(if aT b (n:Nat)=true then 1 else 0)
theorem qI (b:Int):∀ n,p8 b n<=n
 | 0=>I2 _
 | n+1=>by have:=qI b n;simp only[p8];split<;>omega
theorem tq (b:Int) (hb:b<=9223372036854775807):ao Tryz.prog 112 false [.val none [I b]] .one [I (p8 b 16:Nat)]:=by
 refine fO 15 [] Tryz.func112 rfl ?_
 repeat'(first|refine gO ?_|fail)
 (conv=>whnf)
 refine Lp.mk (ι:=Nat) (fun k=>[(0,.hold .one [I (b)]),(3,.hold .one [I ((p8 b k:Nat):Int)]),(4,.hold .one [I ((k:Nat):Int)])]) (fun k=>k<=16) (fun k=>16 - k) (0) ?_ (Q0 _) fun k hk=>?_
 ·exact wB
 have hc:=qI b k;by_cases lk:k<16
 ·have c1:=gX b (k:Nat) hb
  have hn:p8 b (k+1)=p8 b k+(if aT b (k:Nat)=true then 1 else 0):=rfl;cases e:aT b (k:Nat)<;>rw[e]at c1 hn
  all_goals
   repeat'(first|refine gD ?_|(conv=>whnf);first|refine Cl.mk (c1) ?_)
   ((conv=>whnf);refine Nx.mk (k+1) (by omega) (by omega) ?_)
   rw[hn];exact wB
 ·obtain rfl:k=16:=by omega
  repeat'(first|refine gD ?_|fail)
  rfl
theorem tg (b:Int) (hb:b<=9223372036854775807):ao Tryz.prog 106 false [.val none [I b]] .one [I (p8 b 16:Nat)]:=by
 refine fO 15 [] Tryz.func106 rfl ?_
 repeat'(first|refine gO ?_|fail)
 (conv=>whnf)
 refine Lp.mk (ι:=Nat) (fun k=>[(0,.hold .one [I (b)]),(3,.hold .one [I ((p8 b k:Nat):Int)]),(4,.hold .one [I ((k:Nat):Int)])]) (fun k=>k<=16) (fun k=>16 - k) (0) ?_ (Q0 _) fun k hk=>?_
 ·exact wB
 have hc:=qI b k;by_cases lk:k<16
 ·have c1:=jf b (k:Nat) hb
  have hn:p8 b (k+1)=p8 b k+(if aT b (k:Nat)=true then 1 else 0):=rfl;cases e:aT b (k:Nat)<;>rw[e]at c1 hn
  all_goals
   repeat'(first|refine gD ?_|(conv=>whnf);first|refine Cl.mk (c1) ?_)
   ((conv=>whnf);refine Nx.mk (k+1) (by omega) (by omega) ?_)
   rw[hn];exact wB
 ·obtain rfl:k=16:=by omega
  repeat'(first|refine gD ?_|fail)
  rfl
def kR (h:ab) (s:au):Bool:=decide (0<p8 s.Bits 16)&&decide ((aP h s.Page).length=1)
def gt (h:ab):Nat->List au
 | 0=>[]
 | n+1=>if kR h (nth h.Spans n)=true then gt h n++[nth h.Spans n] else gt h n
def dl (h:ab):List au:=gt h h.Spans.length
theorem l7 (h:ab):∀ n,(gt h n).length<=n
 | 0=>I2 _
 | n+1=>by have:=l7 h n;simp only[gt];split<;>simp<;>omega
theorem kS (h:ab):∀ {n:Nat},n<=h.Spans.length->∀ s∈gt h n,s∈h.Spans
 | 0,_,s,hs=>by cases hs
 | n+1,hn,s,hs=>by
  simp only[gt]at hs;split at hs
  ·rcases C2.1 hs with hs|hs
   ·exact kS h (by omega) s hs
   ·rw[X0.1 hs];exact am (by omega)
  ·exact kS h (by omega) s hs
theorem mG (h:ab) (hs:tB h) (hl:h.Spans.length<=1000) (hp:dQ h<=1000) (hb:∀ s∈h.Spans,s.Bits<=9223372036854775807):ao Tryz.prog 38 false [.val (some 24) (ab.enc .imm h)] .one (b6 .own (dl h)):=by
 refine fO 42 [(5,16,[13,14,15,16,17,18,19,20,21,22,23,24,25,26,27,28])] Tryz.func38 rfl ?_ (.inr (vU _))
 repeat'(first|refine gO ?_|fail)
 (conv=>whnf)
 refine Lp.mk (ι:=Nat) (fun k=>[(1,.hold .box (ab.enc .imm h)),(3,.hold .one (b6 .own (gt h k))),(4,.hold .one [I ((k:Nat):Int)])]) (fun k=>k<=h.Spans.length) (fun k=>h.Spans.length - k) (0) ?_ (Q0 _) fun k hk=>?_
 ·exact wB
 have hml:=l7 h k;by_cases lk:k<h.Spans.length
 ·have hx:=ah lk
  have c1:=tq (nth h.Spans k).Bits (hb _ (am lk));have c2:=fj h (nth h.Spans k).Page hs;have hfl:=fp h (nth h.Spans k).Page;have hcl:=qI (nth h.Spans k).Bits 16;have hn:gt h (k+1)=if kR h (nth h.Spans k)=true then gt h k++[nth h.Spans k] else gt h k:=rfl
  by_cases e1:0<p8 (nth h.Spans k).Bits 16
  ·by_cases e2:(aP h (nth h.Spans k).Page).length=1
   ·rw[if_pos (by unfold kR;simp[e1,e2])]at hn
    repeat'(first|refine gA ?_|(conv=>whnf);first|refine Ix.nat (aa hx) ?_|refine Cl.mk (c1) ?_|refine Cl.eq (c2) ⟨⟨rfl,rfl⟩,⟨rfl,rfl⟩,trivial⟩ ?_|refine Cl.mk (c2) ?_|refine Sm.rf ?_|refine Ap.sm (aM fun _=>rfl) rfl (by simp;omega) (by decide) (fg (au.enc .own) (gt h k) (nth h.Spans k)) ?_)
    ((conv=>whnf);refine Nx.mk (k+1) (by omega) (by omega) ?_)
    rw[hn];exact wB
   ·rw[if_neg (by unfold kR;simp[e2])]at hn
    repeat'(first|refine gA ?_|(conv=>whnf);first|refine Ix.nat (aa hx) ?_|refine Cl.mk (c1) ?_|refine Cl.mk (c2) ?_|refine Sm.rf ?_)
    ((conv=>whnf);refine Nx.mk (k+1) (by omega) (by omega) ?_)
    rw[hn];exact wB
  ·rw[if_neg (by unfold kR;simp[e1])]at hn
   repeat'(first|refine gD ?_|(conv=>whnf);first|refine Ix.nat (aa hx) ?_|refine Cl.mk (c1) ?_|refine Cl.mk (c2) ?_|refine Sm.rf ?_)
   ((conv=>whnf);refine Nx.mk (k+1) (by omega) (by omega) ?_)
   rw[hn];exact wB
 ·obtain rfl:k=h.Spans.length:=by omega
  repeat'(first|refine gD ?_|fail)
  rfl
theorem mT (h:ab) (hs:tB h) (hl:h.Spans.length<=1000) (hp:dQ h<=1000) (hb:∀ s∈h.Spans,s.Bits<=9223372036854775807):ao Tryz.prog 34 false [.val (some 24) (ab.enc .imm h)] .one (b6 .own (dl h)):=by
 refine fO 32 [] Tryz.func34 rfl ?_ (.inr (vU _))
 repeat'(first|refine gO ?_|fail)
 (conv=>whnf)
 refine Lp.mk (ι:=Nat) (fun k=>[(1,.hold .box (ab.enc .imm h)),(3,.hold .one (b6 .own (gt h k))),(8,.hold .one (b6 .imm h.Spans)),(9,.hold .one [I (h.Spans.length)]),(10,.hold .one [I ((k:Nat):Int)])]) (fun k=>k<=h.Spans.length) (fun k=>h.Spans.length - k) (0) ?_ (Q0 _) fun k hk=>?_
 ·exact wB
 have hml:=l7 h k;by_cases lk:k<h.Spans.length
 ·have hx:=ah lk
  have c1:=tg (nth h.Spans k).Bits (hb _ (am lk));have c2:=mw h (nth h.Spans k).Page hs;have hfl:=fp h (nth h.Spans k).Page;have hcl:=qI (nth h.Spans k).Bits 16;have hn:gt h (k+1)=if kR h (nth h.Spans k)=true then gt h k++[nth h.Spans k] else gt h k:=rfl
  by_cases e1:0<p8 (nth h.Spans k).Bits 16
  ·by_cases e2:(aP h (nth h.Spans k).Page).length=1
   ·rw[if_pos (by unfold kR;simp[e1,e2])]at hn
    repeat'(first|refine gA ?_|(conv=>whnf);first|refine Ix.nat (aa hx) ?_|refine Cl.mk (c1) ?_|refine Cl.mk (c2) ?_|refine Sm.rf ?_|refine Ap.sm (aM fun _=>rfl) rfl (by simp;omega) (by decide) (fg (au.enc .own) (gt h k) (nth h.Spans k)) ?_)
    ((conv=>whnf);refine Nx.mk (k+1) (by omega) (by omega) ?_)
    rw[hn];exact wB
   ·rw[if_neg (by unfold kR;simp[e2])]at hn
    repeat'(first|refine gA ?_|(conv=>whnf);first|refine Ix.nat (aa hx) ?_|refine Cl.mk (c1) ?_|refine Cl.mk (c2) ?_|refine Sm.rf ?_)
    ((conv=>whnf);refine Nx.mk (k+1) (by omega) (by omega) ?_)
    rw[hn];exact wB
  ·rw[if_neg (by unfold kR;simp[e1])]at hn
   repeat'(first|refine gD ?_|(conv=>whnf);first|refine Ix.nat (aa hx) ?_|refine Cl.mk (c1) ?_|refine Cl.mk (c2) ?_|refine Sm.rf ?_)
   ((conv=>whnf);refine Nx.mk (k+1) (by omega) (by omega) ?_)
   rw[hn];exact wB
 ·obtain rfl:k=h.Spans.length:=by omega
  repeat'(first|refine gD ?_|fail)
  rfl
def uH (s:au) (c:Nat):Bool:=aT s.Bits (((c:Nat):Int) / csz s.Class)
def so (s:au) (n:Nat):List Int:=((List.range n).filter (uH s)).map fun(i:Nat)=>(i:Int)
theorem EV {s:au} {n:Nat} (h:uH s n=true):so s (n+1)=so s n++[(n:Int)]:=by
 unfold so;rw[List.range_succ,List.filter_append,C4];simp[h]
theorem Ks {s:au} {n:Nat} (h:uH s n=false):so s (n+1)=so s n:=by
 unfold so;rw[List.range_succ,List.filter_append,C4];simp[h]
theorem kr (s:au) (n:Nat):(so s n).length<=n:=by
 unfold so;rw[U0];exact V3 (List.length_filter_le _ _) (by simp)
theorem FA {s:au} (hs:aY s=true) {c:Nat} (hc:c<16):0<=((c:Nat):Int) / csz s.Class/\((c:Nat):Int) / csz s.Class<=15:=by
 have h1:=aF hs;have h2:csz s.Class=1\/csz s.Class=2\/csz s.Class=4\/csz s.Class=8:=cg (by omega);rcases h2 with e|e|e|e<;>rw[e]<;>omega
theorem nk (s:au) (hs:aY s=true):ao Tryz.prog 394 false [.val (some 3) (au.enc .imm s)] .one (aD .own (so s 16)):=by
 have hk:=fG s;rw[hs]at hk;have hc:=aF hs;have hz:=cg hc.2.2;refine fO 27 [(5,7,[14,15,16,17,18,19,20])] Tryz.func394 rfl ?_ (.inr (bF _))
 repeat'(first|refine gO ?_|fail)
 (conv=>whnf)
 refine Lp.mk (ι:=Nat) (fun i=>[(1,.hold .box (au.enc .imm s)),(3,.hold .one (aD .own (so s i))),(4,.hold .one [I ((i:Nat):Int)])]) (fun i=>i<=16) (fun i=>16 - i) (0) ?_ (Q0 _) fun i hi=>?_
 ·exact wB
 have hle:=kr s i;by_cases li:i<16
 ·have hsl:=FA hs li
  have q1:IntKind.i64.wrap (((i:Nat):Int).tdiv (csz s.Class))=((i:Nat):Int) / csz s.Class:=by rw[kX (by omega)];exact ed (by omega) (by omega)
  have h2:=gX s.Bits (((i:Nat):Int) / csz s.Class) (dC hs).2;cases e:uH s i
  ·rw[show aT s.Bits (((i:Nat):Int) / csz s.Class)=false from e]at h2
   repeat'(first|refine gD ?_|(conv=>whnf);first|refine Cl.mk (hk) ?_|refine Cl.mk (dx _) ?_|refine Cd.mk (by omega) ?_|refine Wr.mk q1 ?_|refine Cl.mk (h2) ?_)
   ((conv=>whnf);refine Nx.mk (i+1) (by omega) (by omega) ?_)
   rw[Ks e];exact wB
  ·rw[show aT s.Bits (((i:Nat):Int) / csz s.Class)=true from e]at h2
   repeat'(first|refine gD ?_|(conv=>whnf);first|refine Cl.mk (hk) ?_|refine Cl.mk (dx _) ?_|refine Cd.mk (by omega) ?_|refine Wr.mk q1 ?_|refine Cl.mk (h2) ?_|refine Ap.mk cq (fun r hr=>by rw[X0.1 hr];rfl) (by simp[aV,d4]) (by simp;omega) (by simp only[U0];exact wI (by simp;omega) (by decide)) rfl ?_)
   ((conv=>whnf);refine Nx.mk (i+1) (by omega) (by omega) ?_)
   rw[EV e]
   (repeat'(first|exact trivial|rfl|exact And.intro rfl (And.intro (R0 (C.s dz.own) (by simp[rI])) trivial)|refine And.intro ?_ ?_))
 ·obtain rfl:i=16:=by omega
  repeat'(first|refine gD ?_|(conv=>whnf);first|refine Cl.mk (hk) ?_)
  rfl
theorem mW (s:au) (hs:aY s=true):ao Tryz.prog 181 false [.val (some 3) (au.enc .imm s)] .one (aD .own (so s 16)):=by
 have hk:=gN s;rw[hs]at hk;have hc:=aF hs;have hz:=cg hc.2.2;refine fO 26 [(7,7,[13,14,15,16,17,18,19])] Tryz.func181 rfl ?_ (.inr (bF _))
 repeat'(first|refine gO ?_|(conv=>whnf);first|refine Cl.mk (hk) ?_)
 (conv=>whnf)
 refine Lp.mk (ι:=Nat) (fun i=>[(1,.hold .box (au.enc .imm s)),(3,.hold .one (aD .own (so s i))),(4,.hold .one [I ((i:Nat):Int)])]) (fun i=>i<=16) (fun i=>16 - i) (0) ?_ (Q0 _) fun i hi=>?_
 ·exact wB
 have hle:=kr s i;by_cases li:i<16
 ·have hsl:=FA hs li
  have q1:IntKind.i64.wrap (((i:Nat):Int).tdiv (csz s.Class))=((i:Nat):Int) / csz s.Class:=by rw[kX (by omega)];exact ed (by omega) (by omega)
  have h2:=jf s.Bits (((i:Nat):Int) / csz s.Class) (dC hs).2;cases e:uH s i
  ·rw[show aT s.Bits (((i:Nat):Int) / csz s.Class)=false from e]at h2
   repeat'(first|refine gD ?_|(conv=>whnf);first|refine Cl.mk (dy _) ?_|refine Cd.mk (by omega) ?_|refine Wr.mk q1 ?_|refine Cl.mk (h2) ?_)
   ((conv=>whnf);refine Nx.mk (i+1) (by omega) (by omega) ?_)
   rw[Ks e];exact wB
  ·rw[show aT s.Bits (((i:Nat):Int) / csz s.Class)=true from e]at h2
   repeat'(first|refine gD ?_|(conv=>whnf);first|refine Cl.mk (dy _) ?_|refine Cd.mk (by omega) ?_|refine Wr.mk q1 ?_|refine Cl.mk (h2) ?_|refine Ap.mk cq (fun r hr=>by rw[X0.1 hr];rfl) (by simp[aV,d4]) (by simp;omega) (by simp only[U0];exact wI (by simp;omega) (by decide)) rfl ?_)
   ((conv=>whnf);refine Nx.mk (i+1) (by omega) (by omega) ?_)
   rw[EV e]
   (repeat'(first|exact trivial|rfl|exact And.intro rfl (And.intro (R0 (C.s dz.own) (by simp[rI])) trivial)|refine And.intro ?_ ?_))
 ·obtain rfl:i=16:=by omega
  repeat'(first|refine gD ?_|fail)
  rfl
structure dm where
 A:Int
 B:Int
deriving DecidableEq,Inhabited
def dm.enc (_:dz) (x:dm):List C:=[I x.A,I x.B]
def dM (o:dz) (x:List dm):List C:=[.s o (x.map (dm.enc o))]
theorem ux (x:List dm):gk (dM .own x):=⟨⟨.inl fun h=>(by cases h),bc _ _ fun _ _=>⟨trivial,trivial,trivial⟩⟩,trivial⟩
theorem uJ (xs:List dm) (pr:dm->Bool) (hl:xs.length<=9223372036854775807):ao Tryz.prog 325 false [.val none (dM .imm xs),.fn (mA Tryz.prog (y4 (some 2) (dm.enc .imm) pr xs))] .one [I (du pr xs)]:=by
 refine fO 19 [] Tryz.func325 rfl ?_
 repeat'(first|refine gO ?_|fail)
 (conv=>whnf)
 refine Lp.mk (ι:=Nat) (fun i=>[(0,.hold .one (dM .imm xs)),(1,.fv (mA Tryz.prog (y4 (some 2) (dm.enc .imm) pr xs))),(7,.hold .one [I xs.length]),(8,.hold .one [I (i:Nat)])]) (fun i=>i<=xs.length/\∀ (j:Nat) (z:dm),j<i->xs[j]? = some z->pr z=false) (fun i=>xs.length - i) 0 ?_ ⟨Q0 _,fun j z hj=>by omega⟩ fun i hi=>?_
 ·exact wB
 ·obtain⟨hi,ha⟩:=hi
  by_cases hlt:i<xs.length
  ·obtain⟨y,hy⟩ : ∃ y,xs[i]? = some y:=⟨_,Q1 hlt⟩
   repeat'(first|refine gD ?_|(conv=>whnf);first|with_reducible refine Ix.nat (aa hy) ?_|refine Fv.mk (k:=.one) (rcs:=[B (pr y)]) ⟨y,O1 hy,rfl,rfl,rfl⟩ ?_|refine Bf.P (fun hq=>?_) (fun hq=>?_))
   ·exact R0 (fun z=>[I z]) (dD hy ‹_› ha).symm
   ·(conv=>whnf)
    refine Nx.mk (i+1) ⟨by omega,dc hy (by assumption) ha⟩ (by omega) ?_;exact wB
  ·repeat'(first|refine gD ?_|fail)
   exact R0 (fun z=>[I z]) (fE (by omega) ha).symm
theorem qN (xs:List dm) (pr:dm->Bool) (hl:xs.length<=9223372036854775807):ao Tryz.prog 257 false [.val none (dM .imm xs),.fn (mA Tryz.prog (y4 (some 2) (dm.enc .imm) pr xs))] .one [B (xs.any pr)]:=by
 refine fO 9 [] Tryz.func257 rfl ?_
 repeat'(first|refine gO ?_|(conv=>whnf);first|refine Cl.mk (uJ xs pr hl) ?_)
 exact R0 (fun z=>[B z]) (jz pr xs)
def zx (i:Int) (p:dm):Bool:=decide (p.A=i) || decide (p.B=i)
theorem AK (p:dm) (i:Int):ao Tryz.prog 258 false [.val (some 2) (dm.enc .imm p),.ptr [I i]] .one [B (zx i p)]:=by
 refine fO 14 [] Tryz.func258 rfl ?_
 repeat'(first|refine gO ?_|(conv=>whnf);first|with_reducible refine Bf.E (fun hq=>?_) (fun hq=>?_))
 all_goals exact R0 (fun z=>[B z]) ((by unfold zx;first|(simp[*];done)|(simp[*];rw[U3];simp)))
theorem ui (xs:List dm) (i:Int) (hl:xs.length<=1048576):ao Tryz.prog 190 false [.val none (dM .imm xs),.val none [I i]] .one [B (xs.any (zx i))]:=by
 refine fO 8 [] Tryz.func190 rfl ?_
 repeat'(first|refine gO ?_|(conv=>whnf);first|refine Cq.mk (y4 (some 2) (dm.enc .imm) (zx i) xs) (AK default i).has (fun L k rcs hQ=>?_) ?_|refine Cl.mk (qN xs (zx i) (by omega)) ?_)
 ·obtain⟨y,-,rfl,rfl,rfl⟩:=hQ
  exact AK y i
 ·rfl
def cU (a b:au):bP:=if(so a 16).length<(so b 16).length then⟨b.Page,a.Page,so a 16⟩ else⟨a.Page,b.Page,so b 16⟩
theorem xz (a b:au) (hm:meshable a b=true) (ha:aY a=true) (hb:aY b=true):ao Tryz.prog 366 false [.val (some 3) (au.enc .imm a),.val (some 3) (au.enc .imm b)] (.tup [some 3,none]) (bP.enc .own (cU a b)++[B true]):=by
 have c1:=iB a b;rw[hm]at c1;have c2:=nk a ha;have c3:=nk b hb;have h1:=kr a 16;have h2:=kr b 16;unfold cU;split
 ·refine fO 27 [(3,6,[11,12,13,14,15,16]),(5,6,[20,21,22,23,24,25])] Tryz.func366 rfl ?_ (.inr (aN (bP.enc_fr _) ⟨trivial,trivial⟩))
  repeat'(first|refine gD ?_|(conv=>whnf);first|refine Cl.mk (c1) ?_|refine Cl.mk (c2) ?_|refine Cl.mk (c3) ?_|refine Sm.rf ?_)
  rfl
 ·refine fO 27 [(3,6,[11,12,13,14,15,16]),(5,6,[20,21,22,23,24,25])] Tryz.func366 rfl ?_ (.inr (aN (bP.enc_fr _) ⟨trivial,trivial⟩))
  repeat'(first|refine gD ?_|(conv=>whnf);first|refine Cl.mk (c1) ?_|refine Cl.mk (c2) ?_|refine Cl.mk (c3) ?_|refine Sm.rf ?_)
  rfl
theorem wJ (a b:au) (hm:meshable a b=true) (ha:aY a=true) (hb:aY b=true):ao Tryz.prog 108 false [.val (some 3) (au.enc .imm a),.val (some 3) (au.enc .imm b)] (.tup [some 3,none]) (bP.enc .own (cU a b)++[B true]):=by
 have c1:=kH a b;rw[hm]at c1;have c2:=mW a ha;have c3:=mW b hb;have h1:=kr a 16;have h2:=kr b 16;unfold cU;split
 ·refine fO 34 [(3,3,[13,14,15])] Tryz.func108 rfl ?_ (.inr (aN (bP.enc_fr _) ⟨trivial,trivial⟩))
  repeat'(first|refine gD ?_|(conv=>whnf);first|refine Cl.mk (c1) ?_|refine Cl.mk (c2) ?_|refine Cl.mk (c3) ?_|refine Sm.rf ?_)
  rfl
 ·refine fO 34 [(3,3,[13,14,15])] Tryz.func108 rfl ?_ (.inr (aN (bP.enc_fr _) ⟨trivial,trivial⟩))
  repeat'(first|refine gD ?_|(conv=>whnf);first|refine Cl.mk (c1) ?_|refine Cl.mk (c2) ?_|refine Cl.mk (c3) ?_|refine Sm.rf ?_)
  rfl
def rK (p:bP):cj:=⟨p,0,0⟩
theorem Dm (p:bP) (hp:ek p=true) (hs:bP.sml p):ao Tryz.prog 367 false [.val (some 3) (bP.enc .imm p)] (.tup [some 5,none]) (cj.enc .own (rK p)++[B true]):=by
 have c1:=ss p hs;rw[hp]at c1;have c2:=qe (rK p) hs;refine fO 11 [] Tryz.func367 rfl ?_ (.inr (aN (cj.enc_fr _) ⟨trivial,trivial⟩))
 repeat'(first|refine gO ?_|(conv=>whnf);first|refine Cl.mk (c1) ?_|refine Cl.mk (c2) ?_)
 rfl
theorem Bg (p:bP) (hp:ek p=true) (hs:bP.sml p):ao Tryz.prog 109 false [.val (some 3) (bP.enc .imm p)] (.tup [some 5,none]) (cj.enc .own (rK p)++[B true]):=by
 have c1:=sR p hs;rw[hp]at c1;have c2:=oD p hs;refine fO 11 [] Tryz.func109 rfl ?_ (.inr (aN (cj.enc_fr _) ⟨trivial,trivial⟩))
 repeat'(first|refine gO ?_|(conv=>whnf);first|refine Cl.mk (c1) ?_|refine Cl.mk (c2) ?_)
 rfl
theorem nR (n:Nat) {s:Int} (hs:0<=s/\s<=1073741823):∀ {j:Nat},j<=n - 1->∀ x∈(dO n s j).1,0<=x/\x<n
 | 0,_,x,hx=>by
  simp only[dO,mZ,O3,List.mem_range]at hx;obtain⟨i,hi,rfl⟩:=hx;omega
 | j+1,hj,x,hx=>by
  have hl:=(iJ n hs j).1;have ih:=nR n hs (j:=j) (by omega);have hc:=oT (dO n s j).2 (n:=((n - 1 - j:Nat)+1:Int)) (by omega);simp only[dO,ta]at hx;rcases U4 hx with hx|rfl
  ·rcases U4 hx with hx|rfl
   ·exact ih x hx
   ·exact ih _ (am (by omega))
  ·exact ih _ (am (by omega))
def tkn (out:List dm) (a:Int):Bool:=out.any (zx a)
def stp (ls:List au) (p:List Int) (t i:Nat) (out:List dm):List dm:=
 if tkn out (nth p i)=false/\tkn out (nth p (p.length / 2+(i+t) % (p.length - p.length / 2)))=false/\meshable (nth ls (nth p i).toNat) (nth ls (nth p (p.length / 2+(i+t) % (p.length - p.length / 2))).toNat)=true then out++[⟨nth p i,nth p (p.length / 2+(i+t) % (p.length - p.length / 2))⟩] else out
def ox (ls:List au) (p:List Int) (t:Nat) (out:List dm):Nat->List dm
 | 0=>out
 | i+1=>stp ls p t i (ox ls p t out i)
def jX (ls:List au) (p:List Int):Nat->List dm
 | 0=>[]
 | t+1=>ox ls p t (jX ls p t) (p.length / 2)
theorem Li (ls:List au) (p:List Int) (t i:Nat) (out:List dm):(stp ls p t i out).length<=out.length+1:=by unfold stp;split<;>simp
theorem qj (ls:List au) (p:List Int) (t:Nat) (out:List dm):∀ i,(ox ls p t out i).length<=out.length+i
 | 0=>I2 _
 | i+1=>by have h1:=qj ls p t out i;have h2:=Li ls p t i (ox ls p t out i);simp only[ox];omega
theorem vd (ls:List au) (p:List Int):∀ t,(jX ls p t).length<=t*(p.length / 2)
 | 0=>Q0 _
 | t+1=>by have h1:=vd ls p t;have h2:=qj ls p t (jX ls p t) (p.length / 2);simp only[jX];rw[Nat.add_mul];omega
def ig (ls:List au) (s:Int):List dm:=jX ls (shuf ls.length s).1 3
def mz (n:Nat) (out:List dm):List Bool:=(List.range n).map fun(i:Nat)=>tkn out (i:Nat)
theorem FI {n:Nat} {out:List dm} {a:Int} (h:0<=a/\a<n):(mz n out)[a.toNat]? = some (tkn out a):=by
 unfold mz;rw[O2,X4 (by omega)];show some (tkn out ((a.toNat:Nat):Int))=_;rw[Int.toNat_of_nonneg h.1]
theorem Hx {n:Nat} {out:List dm} {a b:Int} (ha:0<=a/\a<n) (hb:0<=b/\b<n):mz n (out++[⟨a,b⟩])=((mz n out).set a.toNat true).set b.toNat true:=by
 unfold mz;apply List.ext_getElem?;intro i;by_cases hi:i<n
 ·rw[O2,X4 hi]
  by_cases e2:b.toNat=i
  ·subst e2
   rw[U2 (by simp;omega)];simp only[Y3,tkn,List.any_append,List.any_cons,List.any_nil,zx];rw[Int.toNat_of_nonneg hb.1];simp
  ·rw[List.getElem?_set_ne e2]
   by_cases e1:a.toNat=i
   ·subst e1
    rw[U2 (by simp;omega)];simp only[Y3,tkn,List.any_append,List.any_cons,List.any_nil,zx];rw[Int.toNat_of_nonneg ha.1];simp
   ·rw[List.getElem?_set_ne e1,O2,X4 hi]
    simp only[Y3,tkn,List.any_append,List.any_cons,List.any_nil,zx];rw[P0 (by omega),P0 (by omega)];simp
 ·rw[U1 (by simp;omega),U1 (by simp;omega)]
theorem KH (n:Nat):(mz n []).map (rB .own)=List.replicate n [B false]:=by
 unfold mz;rw[List.map_map];apply List.ext_getElem?;intro i;rw[O2];by_cases hi:i<n
 ·rw[X4 hi,List.getElem?_replicate];simp[hi];rfl
 ·rw[U1 (by simp;omega),List.getElem?_replicate];simp[hi]
theorem Gw {xs:List Bool} {i k:Nat} (v:Bool) (hk:k<xs.length):((xs.map (rB .own)).set i (rB .own v))[k]? = some (rB .own (nth (xs.set i v) k)):=by
 rw[<-Q4];exact aa (ah (by rw[Z0];exact hk))
theorem tj (ls:List au) (s:Int) (hs:0<=s/\s<=1073741823) (hn:ls.length<=16):ao Tryz.prog 365 false [.val none (b6 .imm ls),.val none [I s],.val none [I 3]] (.tup [none,none]) (dM .own (ig ls s)++[I (shuf ls.length s).2]):=by
 have c1:=aE s 0 1073741823;rw[O0 hs]at c1;have c2:=aE 3 0 16;rw[O0 (by omega)]at c2;have c3:=xu ls.length s hs (by omega);have hpl:=(iJ ls.length hs (ls.length - 1)).1;have hpm:=nR ls.length hs (I2 _);unfold ig;change (shuf ls.length s).1.length=_ at hpl;change ∀ x∈(shuf ls.length s).1,_ at hpm
 have hfr:gk (dM .own (jX ls (shuf ls.length s).1 3)++[I (shuf ls.length s).2]):=aN (ux _) ⟨trivial,trivial⟩;generalize shuf ls.length s=q at *;obtain⟨p,z⟩:=q;simp only at *;have htd:((p.length:Nat):Int).tdiv 2=((p.length / 2:Nat):Int):=by rw[Int.tdiv_eq_ediv_of_nonneg (by omega)];omega
 have hoo:C.s dz.own ((mz ls.length []).map (rB .own))=C.s dz.own (List.replicate ls.length [B false]):=by rw[KH]
 have hpi:∀ i:Nat,i<p.length->0<=nth p i/\nth p i<ls.length:=fun i hi=>hpm _ (am hi)
 refine fO 110 [(15,21,[73,74,75,76,77,78,79,80,81,82,83,84,85,86,87,88,89,90,91,92,93])] Tryz.func365 rfl ?_ (.inr hfr)
 repeat'(first|refine gD ?_|(conv=>whnf);first|with_reducible refine Wr.mk ((R0 _ htd).trans (ed (by omega) (by omega))) ?_|refine Cl.mk (c1) ?_|refine Cl.mk (c2) ?_|refine Cl.mk (c3) ?_|refine Cd.mk (by decide) ?_|refine Mk.mk ls.length rfl rfl (by omega) (wI (by omega) (by decide)) rfl ?_)
 (conv=>whnf)
 refine Lp.mk (ι:=Nat) (fun t=>[(0,.hold .one (b6 .imm ls)),(2,.hold .one [I (3)]),(8,.hold .one (dM .own (jX ls p t))),(9,.hold .one (aD .own p)),(10,.hold .one [I (z)]),(11,.hold .one [I (((p.length / 2):Nat):Int)]),(12,.hold .one (yS .own (mz ls.length (jX ls p t)))),(13,.hold .one [I ((t:Nat):Int)])]) (fun t=>t<=3) (fun t=>3 - t) (0) ?_ (Q0 _) fun t ht=>?_
 ·repeat'(first|exact trivial|rfl |exact mI hoo|refine And.intro ?_ ?_|(exact AG (by first|omega|(simp only;omega)|(simp;omega))))
 have ol:=vd ls p t;have ol2:t*(p.length / 2)<=3*8:=Nat.mul_le_mul ht (by omega);by_cases lt:t<3
 ·repeat'(first|refine gD ?_|fail)
  (conv=>whnf)
  refine Lp.mk (ι:=Nat) (fun j=>[(0,.hold .one (b6 .imm ls)),(2,.hold .one [I (3)]),(8,.hold .one (dM .own (ox ls p t (jX ls p t) j))),(9,.hold .one (aD .own p)),(10,.hold .one [I (z)]),(11,.hold .one [I (((p.length / 2):Nat):Int)]),(12,.hold .one (yS .own (mz ls.length (ox ls p t (jX ls p t) j)))),(13,.hold .one [I ((t:Nat):Int)]),(14,.hold .one [I ((j:Nat):Int)])]) (fun j=>j<=p.length / 2) (fun j=>p.length / 2 - j) (0) ?_ (Q0 _) fun j hj=>?_
  ·repeat'(first|exact trivial|rfl |exact mI hoo|refine And.intro ?_ ?_|(exact AG (by first|omega|(simp only;omega)|(simp;omega))))
  have rl:=qj ls p t (jX ls p t) j;by_cases lj:j<p.length / 2
  ·have hmod:(j+t) % (p.length - p.length / 2)<p.length - p.length / 2:=Nat.mod_lt _ (by omega)
   have hev:((j:Int)+t).tmod ((p.length:Int) - (p.length / 2:Nat))=(((j+t) % (p.length - p.length / 2):Nat):Int):=by
    rw[dZ (by omega),Int.natCast_emod];congr 1;omega
   have hn2:ox ls p t (jX ls p t) (j+1)=stp ls p t j (ox ls p t (jX ls p t) j):=rfl;unfold stp at hn2;generalize ox ls p t (jX ls p t) j=out at *;have hk2:p.length / 2+(j+t) % (p.length - p.length / 2)<p.length:=by omega
   generalize hk:(j+t) % (p.length - p.length / 2)=k at *;have hxa:=ah (xs:=p) (i:=j) (by omega);have hxb:=ah (xs:=p) (i:=p.length / 2+k) hk2;have ba:=hpi j (by omega);have bb:=hpi _ hk2;generalize nth p j=a at *;generalize nth p (p.length / 2+k)=b at *;have ua:=FI (out:=out) ba;have ub:=FI (out:=out) bb;have sa:=ah (xs:=ls) (i:=a.toNat) (by omega);have sb:=ah (xs:=ls) (i:=b.toNat) (by omega);have c5:=iB (nth ls a.toNat) (nth ls b.toNat);have ub2:=Gw (xs:=mz ls.length out) (i:=a.toNat) (k:=b.toNat) true (by simp[mz];omega);cases e1:tkn out a<;>cases e2:tkn out b<;>cases e3:meshable (nth ls a.toNat) (nth ls b.toNat)
   all_goals
    rw[e1]at ua;rw[e2]at ub;rw[e3]at c5;rw[e1,e2,e3]at hn2;simp only[and_true,true_and,if_true,Bool.false_eq_true,Bool.true_eq_false,and_false,false_and,if_false]at hn2
    repeat'(first|refine gD ?_|(conv=>whnf);first|refine Ev.mk hev ?_|refine Cd.mk (by omega) ?_|refine Ix.nat (aa hxa) ?_|refine Ix.mk (by omega) (aa hxb) ?_|refine Ix.mk ba.1 (aa ua) ?_|refine Ix.mk bb.1 (aa ub) ?_|refine Ix.mk ba.1 (aa sa) ?_|refine Ix.mk bb.1 (aa sb) ?_|refine Rw.one rfl (aa hxa) rfl ?_|refine Rw.one rfl (aa hxb) rfl ?_|refine Rw.one rfl (aa ua) rfl ?_|refine Rw.one rfl (aa ub) rfl ?_|refine Cl.mk (c5) ?_|refine Sm.rf ?_|refine Pu.one rfl rfl (aa ua) rfl (W0 rfl) rfl ?_|refine Ix.mk bb.1 ub2 ?_|refine Pu.one rfl rfl ub2 rfl (W0 rfl) rfl ?_|refine Ap.sm (aM fun _=>rfl) rfl (by simp;omega) (by decide) (fg (dm.enc .own) out ⟨a,b⟩) ?_)
    ((conv=>whnf);refine Nx.mk (j+1) (by omega) (by omega) ?_)
    rw[hn2]
    first|(rw[Hx ba bb];simp only[yS,Q4])|skip
    exact wB
  ·obtain rfl:j=p.length / 2:=by omega
   repeat'(first|refine gD ?_|fail)
   ((conv=>whnf);refine Nx.mk (t+1) (by omega) (by omega) ?_;(exact wB))
 ·obtain rfl:t=3:=by omega
  repeat'(first|refine gD ?_|fail)
  rfl
theorem p7 (x:List dm):d3 (dM .own x)=dM .imm x:=by simp[d3,dM,dm.enc,<-bT,I4]
theorem tp (ls:List au) (s:Int) (hs:0<=s/\s<=1073741823) (hn:ls.length<=16):ao Tryz.prog 107 false [.val none (b6 .imm ls),.val none [I s],.val none [I 3]] (.tup [none,none]) (dM .own (ig ls s)++[I (shuf ls.length s).2]):=by
 have c1:=qK s hs;have c2:=aJ 3 0 16;rw[O0 (by omega)]at c2;have c3:=xw ls.length s hs (by omega);have hpl:=(iJ ls.length hs (ls.length - 1)).1;have hpm:=nR ls.length hs (I2 _);unfold ig;change (shuf ls.length s).1.length=_ at hpl;change ∀ x∈(shuf ls.length s).1,_ at hpm
 have hfr:gk (dM .own (jX ls (shuf ls.length s).1 3)++[I (shuf ls.length s).2]):=aN (ux _) ⟨trivial,trivial⟩;generalize shuf ls.length s=q at *;obtain⟨p,z⟩:=q;simp only at *;have htd:((p.length:Nat):Int).tdiv 2=((p.length / 2:Nat):Int):=by rw[Int.tdiv_eq_ediv_of_nonneg (by omega)];omega
 have hfz:fz (C.s dz.own (p.map (rI .own)))=C.s dz.imm (p.map (rI .imm)):=(List.cons.inj (dG p)).1;have hdl:(p.drop (p.length / 2)).length=p.length - p.length / 2:=Q2 ..;have htl:(p.take (p.length / 2)).length=p.length / 2:=by rw[C1];omega
 have hpi:∀ i:Nat,i<p.length->0<=nth p i/\nth p i<ls.length:=fun i hi=>hpm _ (am hi)
 have htl2:((ls.length:Nat):Int).tdiv 2=((p.length / 2:Nat):Int):=by rw[<-hpl];exact htd
 refine fO 99 [(5,264,[39,40,41,42,43,44,45,46,0,1,2,3,4,5,6,7,8,1004,1005,1006,1007,9]),(14,19,[69,70,71,72,73,74,75,76,77,78,79,80,81,82,83,84,85,86,87]),(1048581,9,[0])] Tryz.func107 rfl ?_ (.inr hfr)
 repeat'(first|refine gD ?_|(conv=>whnf);first|with_reducible refine Wr.mk ((R0 _ htl2).trans (ed (by omega) (by omega))) ?_|refine Sm.rf ?_|refine Cl.mk (c1) ?_|refine Cl.mk (c2) ?_|refine Cl.mk (c3) ?_|refine Cd.mk (by decide) ?_|refine D8.mk rfl hfz rfl ?_|refine Sl.pre (p.length / 2) htl2 (by rw[U0];omega) (aM fun _=>rfl) C3 ?_|refine Sl.suf (p.length / 2) htl2 (by rw[U0];omega) (aM fun _=>rfl) I3 ?_|refine Sm.rf ?_)
 (conv=>whnf)
 refine Lp.mk (ι:=Nat) (fun t=>[(0,.hold .one (b6 .imm ls)),(2,.hold .one [I (3)]),(10,.hold .one [I (z)]),(11,.hold .one (aD .imm (p.take (p.length / 2)))),(12,.hold .one (aD .imm (p.drop (p.length / 2)))),(13,.hold .one (dM .own (jX ls p t))),(14,.hold .one [I ((t:Nat):Int)])]) (fun t=>t<=3) (fun t=>3 - t) (0) ?_ (Q0 _) fun t ht=>?_
 ·exact wB
 have ol:=vd ls p t;have ol2:t*(p.length / 2)<=3*8:=Nat.mul_le_mul ht (by omega);by_cases lt:t<3
 ·repeat'(first|refine gD ?_|(conv=>whnf);first|refine Sm.rf ?_)
  (conv=>whnf)
  refine Lp.mk (ι:=Nat) (fun j=>[(0,.hold .one (b6 .imm ls)),(2,.hold .one [I (3)]),(10,.hold .one [I (z)]),(11,.hold .one (aD .imm (p.take (p.length / 2)))),(12,.hold .one (aD .imm (p.drop (p.length / 2)))),(13,.hold .one (dM .own (ox ls p t (jX ls p t) j))),(14,.hold .one [I ((t:Nat):Int)]),(53,.hold .one (aD .imm (p.take (p.length / 2)))),(54,.hold .one [I (((p.length / 2):Nat):Int)]),(55,.hold .one [I ((j:Nat):Int)])]) (fun j=>j<=p.length / 2) (fun j=>p.length / 2 - j) (0) ?_ (Q0 _) fun j hj=>?_
  ·exact wB
  have rl:=qj ls p t (jX ls p t) j;by_cases lj:j<p.length / 2
  ·have hmod:(j+t) % (p.length - p.length / 2)<p.length - p.length / 2:=Nat.mod_lt _ (by omega)
   have hev:((j:Int)+t).tmod ((p.length - p.length / 2:Nat):Int)=(((j+t) % (p.length - p.length / 2):Nat):Int):=by
    rw[dZ (by omega),Int.natCast_emod];congr 1
   have hn2:ox ls p t (jX ls p t) (j+1)=stp ls p t j (ox ls p t (jX ls p t) j):=rfl;unfold stp at hn2;generalize ox ls p t (jX ls p t) j=out at *;have hk2:p.length / 2+(j+t) % (p.length - p.length / 2)<p.length:=by omega
   generalize hk:(j+t) % (p.length - p.length / 2)=k at *;have hxa:(p.take (p.length / 2))[j]? = some (nth p j):=by rw[List.getElem?_take,if_pos lj];exact ah (by omega)
   have hxb:(p.drop (p.length / 2))[k]? = some (nth p (p.length / 2+k)):=by rw[List.getElem?_drop];exact ah hk2
   have ba:=hpi j (by omega);have bb:=hpi _ hk2;generalize nth p j=a at *;generalize nth p (p.length / 2+k)=b at *;have ca:=ui out a (by omega);have cb:=ui out b (by omega);have sa:=ah (xs:=ls) (i:=a.toNat) (by omega);have sb:=ah (xs:=ls) (i:=b.toNat) (by omega);have c5:=kH (nth ls a.toNat) (nth ls b.toNat);cases e1:tkn out a<;>cases e2:tkn out b<;>cases e3:meshable (nth ls a.toNat) (nth ls b.toNat)
   all_goals
    unfold tkn at e1 e2;rw[e1]at ca;rw[e2]at cb;change (tkn out a)=_ at e1;change (tkn out b)=_ at e2;rw[e3]at c5;rw[e1,e2,e3]at hn2;simp only[and_true,true_and,if_true,Bool.false_eq_true,Bool.true_eq_false,and_false,false_and,if_false]at hn2
    repeat'(first|refine gD ?_|(conv=>whnf);first|refine Sm.rf ?_|refine Ev.mk (z:=(k:Int)) (by rw[hdl];exact hev) ?_|refine Ln.mk (show List.length (List.map _ (p.drop (p.length / 2)))=p.length - p.length / 2 by rw[U0];exact hdl) ?_|refine Cd.mk (by omega) ?_|refine Ix.nat (aa hxa) ?_|refine Ix.mk (by omega) (aa hxb) ?_|refine Ix.mk ba.1 (aa sa) ?_|refine Ix.mk bb.1 (aa sb) ?_|refine Cl.eq (ca) ⟨⟨rfl,p7 _⟩,⟨rfl,rfl⟩,trivial⟩ ?_|refine Cl.eq (cb) ⟨⟨rfl,p7 _⟩,⟨rfl,rfl⟩,trivial⟩ ?_|refine Cl.mk (c5) ?_|refine Sm.rf ?_|refine Ap.sm (aM fun _=>rfl) rfl (by simp;omega) (by decide) (fg (dm.enc .own) out ⟨a,b⟩) ?_)
    ((conv=>whnf);refine Nx.mk (j+1) (by omega) (by omega) ?_)
    rw[hn2];exact wB
  ·obtain rfl:j=p.length / 2:=by omega
   repeat'(first|refine gD ?_|(conv=>whnf);first|refine Sm.rf ?_)
   ((conv=>whnf);refine Nx.mk (t+1) (by omega) (by omega) ?_;(exact wB))
 ·obtain rfl:t=3:=by omega
  repeat'(first|refine gD ?_|(conv=>whnf);first|refine Sm.rf ?_)
  rfl
theorem ao.fzR {P:Program} {f:Nat} {sh:Bool} {A:List RA} {k:Kd} {rcs:List C} (h:ao P f sh A k rcs):ao P f sh A k (d3 rcs):=by
 obtain⟨h1,h2⟩:=h;refine⟨h1,fun w S vs hS hA=>(h2 w S vs hS hA).mono fun e w1 hv=>?_⟩;obtain⟨v,he,hk,X,S1,a1,a2,a3,a4,a5⟩:=hv;refine⟨v,he,hk,NO,fun b o=>S1 b o\/X b o,fun _ _ h=>h.elim,fun b o hb=>?_,fun _ _ h=>h.elim,by rw[bT,U0];exact a4,a5.freeze⟩;rcases hb with hb|hb
 ·exact a2 b o hb
 ·exact .inr (a1 b o hb)
structure Lo (ls:List au) (q:dm):Prop where
 a:0<=q.A/\q.A<ls.length
 b:0<=q.B/\q.B<ls.length
 m:meshable (nth ls q.A.toNat) (nth ls q.B.toNat)=true
theorem F7 {ls:List au} {p:List Int} (hp:∀ x∈p,0<=x/\x<ls.length) (t:Nat) {out:List dm} (ho:∀ q∈out,Lo ls q):∀ {i:Nat},i<=p.length / 2->∀ q∈ox ls p t out i,Lo ls q
 | 0,_=>ho
 | i+1,hi=>fun q hq=>by
  have ih:=F7 hp t ho (i:=i) (by omega);simp only[ox,stp]at hq;split at hq
  ·rename_i hc
   rcases C2.1 hq with hq|hq
   ·exact ih q hq
   ·obtain rfl:=X0.1 hq
    have hmod:(i+t) % (p.length - p.length / 2)<p.length - p.length / 2:=Nat.mod_lt _ (by omega);exact⟨hp _ (am (by omega)),hp _ (am (by omega)),hc.2.2⟩
  ·exact ih q hq
theorem EW {ls:List au} {p:List Int} (hp:∀ x∈p,0<=x/\x<ls.length):∀ t,∀ q∈jX ls p t,Lo ls q
 | 0=>fun q hq=>by cases hq
 | t+1=>F7 hp t (EW hp t) (I2 _)
theorem jP (ls:List au) {s:Int} (hs:0<=s/\s<=1073741823):∀ q∈ig ls s,Lo ls q:=EW (nR ls.length hs (I2 _)) 3
theorem KV (s:au) (n:Nat):(so s n).Pairwise (· < ·):=by
 unfold so;rw[List.pairwise_map];exact(List.pairwise_lt_range.sublist List.filter_sublist).imp fun h=>by omega
theorem Mo {s:au} {n:Nat} : ∀ z∈so s n,0<=z/\z<n:=fun z hz=>by
 unfold so at hz;simp only[O3,P3,List.mem_range]at hz;obtain⟨c,⟨h1,-⟩,rfl⟩:=hz;omega
theorem vR (s:au):cA (so s 16).length (lO (so s 16))=true:=by
 refine bZ.2 fun j hj=>?_
 have h1:=Mo _ (am hj);unfold lO;refine O0 ⟨by omega,by omega,?_⟩;by_cases e:j=0
 ·exact .inl e
 ·refine .inr ?_
  have hp:=List.pairwise_iff_getElem.1 (KV s 16) (j - 1) j (by omega) hj (by omega);rw[show nth (so s 16) (j - 1)=(so s 16)[j - 1] from bn (Q1 (by omega)),show nth (so s 16) j=(so s 16)[j] from bn (Q1 hj)];exact hp
theorem nO {a b:au} (hm:meshable a b=true):ek (cU a b)=true/\aY a=true/\aY b=true:=by
 unfold meshable at hm;simp only[I0,C0]at hm;have h1:=aF hm.1.1;have h2:=aF hm.1.2;refine⟨?_,hm.1⟩;unfold cU ek;split
 ·simp only[I0,C0];exact⟨vR a,by omega⟩
 ·simp only[I0,C0];exact⟨vR b,by omega⟩
theorem vE (a b:au):bP.sml (cU a b):=by
 have h1:=kr a 16;have h2:=kr b 16;unfold cU bP.sml qp;split<;>simp only<;>omega
def aX (h:ab):List au:=(dl h).take 16
def started (h:ab):ab × Bool:=match ig (aX h) h.Seed with
 | []=>({h with Seed:=(shuf (aX h).length h.Seed).2},false)
 | q::_=>({h with Seed:=(shuf (aX h).length h.Seed).2,Meshing:=true,Job:=rK (cU (nth (aX h) q.A.toNat) (nth (aX h) q.B.toNat))},true)
theorem Bj {h:ab} {E:List Int} (hi:bo h E):h.Spans.length<=32/\dQ h<=32/\tB h/\∀ s∈h.Spans,s.Bits<=9223372036854775807:=by
 have hl:=hi.lens;refine⟨hl.spans,hl.ents,?_,fun s hs=>by have:=ew (hi.L.sok s hs);omega⟩;have:=(bG hi.ker).1.2;exact this
theorem vq (h:ab):(aX h).length<=16:=by unfold aX;rw[C1];omega
theorem JE (x:List dm) (z:Int):d3 (dM .own x++[I z])=dM .imm x++[I z]:=by
 have h:=p7 x;rw[bT]at h |-;rw[C4,h];simp[fz]
theorem MD (h:ab):(aX h).map (au.enc .imm)=((dl h).map (au.enc .imm)).take 16:=C3
theorem EG (p:bP) (hp:ek p=true) (hs:bP.sml p):ao Tryz.prog 367 false [.val (some 3) (bP.enc .imm p)] (.tup [some 5,none]) (tY (rK p)++[B true]):=by
 have h:=(Dm p hp hs).fzR;have e:d3 (cj.enc .own (rK p)++[B true])=tY (rK p)++[B true]:=by
  have e1:=cj.enc_fz (rK p);rw[bT]at e1 |-;rw[C4,e1];simp[fz,cj.enc,tY]
 rwa [e]at h
theorem wO (h:ab) (hi:bo h []):aS Tryz.prog 307 false [.ptr (bt h)] [.ptr (bt (started h).1)] .one [B (started h).2]:=by
 obtain⟨w1,w2,w3,w4⟩:=Bj hi;have hnum:=hi.nums;unfold bW at hnum;rw[C0]at hnum;have c1:=(mG h w3 (by omega) (by omega) w4).fzR;rw[jC]at c1;have hll:=vq h;have c2:=(tj (aX h) h.Seed ⟨hnum.1,hnum.2.1⟩ hll).fzR;rw[JE]at c2;have hpo:=jP (aX h) ⟨hnum.1,hnum.2.1⟩;have hml:=l7 h h.Spans.length;have hmle:(dl h).length<=32:=by unfold dl;omega
 have hse:=MD h;unfold started;cases hp:ig (aX h) h.Seed with
 | nil=>
  rw[hp]at c2;by_cases hl:16<(dl h).length
  ·refine fM 62 [] [(8,275,[34,35,36,37,38,39,40,41,42,43,44,45,46,47,48,33,49,50,6,0,1,2,3,4,5,6,7,8,9,10,11,12,13,14,15,16,17,18,19,1017,20])] [(0,0)] Tryz.func307 rfl (fun u q=>?_)
   repeat'(first|refine gD ?_|(conv=>whnf);first|refine Sm.rf ?_|refine Cl.eq (c1) ⟨⟨rfl,bz h⟩,trivial⟩ ?_|refine Cl.mk (c2) ?_|refine Sl.pre 16 rfl (by rw[U0];omega) (aM fun _=>rfl) hse ?_)
   refine aR.mk rfl rfl ?_;exact wC
  ·have he:aX h=dl h:=by unfold aX;exact t5 (by omega)
   rw[he]at c2;refine fM 62 [] [(8,275,[34,35,36,37,38,39,40,41,42,43,44,45,46,47,48,33,49,50,6,0,1,2,3,4,5,6,7,8,9,10,11,12,13,14,15,16,17,18,19,1017,20])] [(0,0)] Tryz.func307 rfl (fun u q=>?_);rw[he]
   repeat'(first|refine gD ?_|(conv=>whnf);first|refine Sm.rf ?_|refine Cl.eq (c1) ⟨⟨rfl,bz h⟩,trivial⟩ ?_|refine Cl.mk (c2) ?_)
   refine aR.mk rfl rfl ?_;exact wC
 | cons q qs=>
  rw[hp]at c2 hpo;obtain⟨k1,k2,k3⟩:=hpo q (I1 ..);obtain⟨p1,p2,p3⟩:=nO k3;have c3:=xz _ _ k3 p2 p3;have c4:=EG _ p1 (vE _ _);have hxa:=ah (xs:=aX h) (i:=q.A.toNat) (by omega);have hxb:=ah (xs:=aX h) (i:=q.B.toNat) (by omega);have hq0:(q::qs)[0]? = some q:=rfl;by_cases hl:16<(dl h).length
  ·refine fM 62 [] [(8,275,[34,35,36,37,38,39,40,41,42,43,44,45,46,47,48,33,49,50,6,0,1,2,3,4,5,6,7,8,9,10,11,12,13,14,15,16,17,18,19,1017,20])] [(0,0)] Tryz.func307 rfl (fun u r=>?_)
   repeat'(first|refine gD ?_|(conv=>whnf);first|with_reducible refine Bf.D (fun hq=>absurd hq (by simp)) (fun hq=>?_)|refine Sm.rf ?_|refine Cl.eq (c1) ⟨⟨rfl,bz h⟩,trivial⟩ ?_|refine Cl.mk (c2) ?_|refine Sl.pre 16 rfl (by rw[U0];omega) (aM fun _=>rfl) hse ?_|refine Ix.mk (by decide) (aa hq0) ?_|refine Ix.mk k1.1 (aa hxa) ?_|refine Ix.mk k2.1 (aa hxb) ?_|refine Cl.mk (c3) ?_|refine Cl.eq (c4) ⟨⟨rfl,bP.enc_fz _⟩,trivial⟩ ?_|refine Sm.rf ?_)
   refine aR.mk rfl rfl ?_;exact wC
  ·have he:aX h=dl h:=by unfold aX;exact t5 (by omega)
   rw[he]at c2 c3 c4 hxa hxb;refine fM 62 [] [(8,275,[34,35,36,37,38,39,40,41,42,43,44,45,46,47,48,33,49,50,6,0,1,2,3,4,5,6,7,8,9,10,11,12,13,14,15,16,17,18,19,1017,20])] [(0,0)] Tryz.func307 rfl (fun u r=>?_);rw[he]
   repeat'(first|refine gD ?_|(conv=>whnf);first|with_reducible refine Bf.D (fun hq=>absurd hq (by simp)) (fun hq=>?_)|refine Sm.rf ?_|refine Cl.eq (c1) ⟨⟨rfl,bz h⟩,trivial⟩ ?_|refine Cl.mk (c2) ?_|refine Ix.mk (by decide) (aa hq0) ?_|refine Ix.mk k1.1 (aa hxa) ?_|refine Ix.mk k2.1 (aa hxb) ?_|refine Cl.mk (c3) ?_|refine Cl.eq (c4) ⟨⟨rfl,bP.enc_fz _⟩,trivial⟩ ?_|refine Sm.rf ?_)
   refine aR.mk rfl rfl ?_;exact wC
def fF (h:ab):ab × Bool:=if h.Meshing=false/\eC h=true then started h else(h,false)
theorem zz (h:ab) (hs:ab.sml h) (hn:¬(h.Meshing=false/\eC h=true)):ao Tryz.prog 35 false [.val (some 24) (ab.enc .imm h)] (.tup [some 24,none]) (wM h++[B false]):=by
 have c1:=mV h hs;rw[ru]at c1;have c2:=wz h hs;have hz:ab.enc .imm h=(ab.enc .imm h).set 18 (B h.Meshing):=rfl;cases e1:h.Meshing
 ·have e2:eC h=false:=by
   rcases Bool.eq_false_or_eq_true (eC h) with e|e
   ·exact absurd ⟨e1,e⟩ hn
   ·exact e
  rw[e2]at c1;rw[e1]at hz;rw[hz]at c1 c2 |-;refine fO 66 [(10,275,[41,42,43,44,45,46,47,48,49,50,51,52,53,54,55,40,56,57,8,0,1,2,3,4,5,6,7,8,9,10,11,12,13,14,15,16,17,18,19,1017,20])] Tryz.func35 rfl ?_ (.inr (aN (tJ _) ⟨trivial,trivial⟩))
  repeat'(first|refine gO ?_|(conv=>whnf);first|refine Sm.rf ?_|refine Cl.mk (c1) ?_|refine Cl.mk (c2) ?_)
  rfl
 ·rw[e1]at hz
  rw[hz]at c1 c2 |-;refine fO 66 [(10,275,[41,42,43,44,45,46,47,48,49,50,51,52,53,54,55,40,56,57,8,0,1,2,3,4,5,6,7,8,9,10,11,12,13,14,15,16,17,18,19,1017,20])] Tryz.func35 rfl ?_ (.inr (aN (tJ _) ⟨trivial,trivial⟩))
  repeat'(first|refine gO ?_|(conv=>whnf);first|refine Sm.rf ?_|refine Cl.mk (c1) ?_|refine Cl.mk (c2) ?_)
  rfl
theorem wE (h:ab) (hs:ab.sml h) (e0:h.Meshing=false) (e1:eC h=true):ao Tryz.prog 35 false [.val (some 24) (ab.enc .imm h)] (.tup [some 24,none]) (wM (started h).1++[B (started h).2]):=by
 have hi:=bo.of e1;obtain⟨w1,w2,w3,w4⟩:=Bj hi;have hnum:=hi.nums;unfold bW at hnum;rw[C0]at hnum;have c0:=mV h hs;rw[ru,e1]at c0;have c9:=wz h hs;have c1:=(mT h w3 (by omega) (by omega) w4).fzR;rw[jC]at c1;have hll:=vq h;have c2:=(tp (aX h) h.Seed ⟨hnum.1,hnum.2.1⟩ hll).fzR;rw[JE]at c2;have hpo:=jP (aX h) ⟨hnum.1,hnum.2.1⟩;have hml:=l7 h h.Spans.length;have hmle:(dl h).length<=32:=by unfold dl;omega
 have hse:(aX h).map (au.enc .imm)=((dl h).map (au.enc .imm)).take (aX h).length:=by
  unfold aX;rw[C3,C1];by_cases e:16<=(dl h).length
  ·rw[Nat.min_eq_left e]
  ·rw[Nat.min_eq_right (by omega),t5 (by rw[U0];omega),t5 (by rw[U0];omega)]
 have hsl:(aX h).length=if(dl h).length<=16 then(dl h).length else 16:=by unfold aX;rw[C1];split<;>omega
 have hz:ab.enc .imm h=(ab.enc .imm h).set 18 (B h.Meshing):=rfl;rw[e0]at hz;rw[hz]at c0 c9 c1 |-;unfold started;cases hp:ig (aX h) h.Seed with
 | nil=>
  rw[hp]at c2;refine fO 66 [(10,275,[41,42,43,44,45,46,47,48,49,50,51,52,53,54,55,40,56,57,8,0,1,2,3,4,5,6,7,8,9,10,11,12,13,14,15,16,17,18,19,1017,20])] Tryz.func35 rfl ?_ (.inr (aN (tJ _) ⟨trivial,trivial⟩))
  repeat'(first|refine gO ?_|(conv=>whnf);first|refine Sm.rf ?_|refine Cl.mk (c0) ?_|refine Cl.mk (c9) ?_|refine Cl.mk (c1) ?_|refine Cl.mk (c2) ?_|refine Ev.mk (z:=((aX h).length:Int)) (by rw[hsl];simp;split<;>split<;>omega) ?_|refine Sl.pre (aX h).length rfl (by rw[U0,hsl];split<;>omega) (aM fun _=>rfl) hse ?_)
  rfl
 | cons q qs=>
  rw[hp]at c2 hpo;obtain⟨k1,k2,k3⟩:=hpo q (I1 ..);obtain⟨p1,p2,p3⟩:=nO k3;have c3:=wJ _ _ k3 p2 p3;have c4:=Bg _ p1 (vE _ _);have hxa:=ah (xs:=aX h) (i:=q.A.toNat) (by omega);have hxb:=ah (xs:=aX h) (i:=q.B.toNat) (by omega);have hq0:(q::qs)[0]? = some q:=rfl;refine fO 66 [(10,275,[41,42,43,44,45,46,47,48,49,50,51,52,53,54,55,40,56,57,8,0,1,2,3,4,5,6,7,8,9,10,11,12,13,14,15,16,17,18,19,1017,20])] Tryz.func35 rfl ?_ (.inr (aN (tJ _) ⟨trivial,trivial⟩))
  repeat'(first|refine gO ?_|(conv=>whnf);first|with_reducible refine Bf.D (fun hq=>absurd hq (by simp)) (fun hq=>?_)|refine Sm.rf ?_|refine Cl.mk (c0) ?_|refine Cl.mk (c9) ?_|refine Cl.mk (c1) ?_|refine Cl.mk (c2) ?_|refine Ev.mk (z:=((aX h).length:Int)) (by rw[hsl];simp;split<;>split<;>omega) ?_|refine Sl.pre (aX h).length rfl (by rw[U0,hsl];split<;>omega) (aM fun _=>rfl) hse ?_|refine Ix.mk (by decide) (aa hq0) ?_|refine Ix.mk k1.1 (aa hxa) ?_|refine Ix.mk k2.1 (aa hxb) ?_|refine Cl.mk (c3) ?_|refine Cl.eq (c4) ⟨⟨rfl,bP.enc_fz _⟩,trivial⟩ ?_|refine Sm.rf ?_)
  rfl
theorem uQ (h:ab) (hs:ab.sml h):ao Tryz.prog 35 false [.val (some 24) (ab.enc .imm h)] (.tup [some 24,none]) (wM (fF h).1++[B (fF h).2]):=by
 unfold fF;split
 ·rename_i e;exact wE h hs e.1 e.2
 ·rename_i e;exact zz h hs e
def df (k:af):af:={k with Calls:=k.Calls+1}
def refd (k:af):Bool:=decide (k.Calls∈k.Refuse)
def vT (k:af) (p:Int) (m:Int):af:={k with Machine:=⟨k.Machine.Frames,⟨k.Machine.Table.Entries.set p.toNat {nth k.Machine.Table.Entries p.toNat with Mode:=m}⟩⟩}
def jG (k:af) (p m:Int):af × Bool:=if refd k=true then(df k,false) else(vT (df k) p m,true)
theorem GF (k:af) (p m:Int):af.enc .own (vT k p m)=(af.enc .own k).set 2 (.s .own ((k.Machine.Table.Entries.map (bj.enc .own)).set p.toNat (bj.enc .own {nth k.Machine.Table.Entries p.toNat with Mode:=m}))):=by
 simp[af.enc,vT,Q4]
theorem row16 {k:af} (hk:aA k=true) {f:Nat} (hf:f<k.Machine.Frames.Cells.length):(nth k.Machine.Frames.Cells f).length=16:=by
 have:=(bg.1 (aC.1 hk).2.1).2.2.2 f hf;unfold gQ at this;simp only[I0,C0]at this;omega
def setCell (k:af) (f:Nat) (c v:Int):af:={k with Machine:=⟨⟨k.Machine.Frames.Cells.set f ((nth k.Machine.Frames.Cells f).set c.toNat v),k.Machine.Frames.Used⟩,k.Machine.Table⟩}
theorem BP (k:af) (f:Nat) (c v:Int):af.enc .own (setCell k f c v)=(af.enc .own k).set 0 (.s .own ((k.Machine.Frames.Cells.map (aD .own)).set f [.s .own (((nth k.Machine.Frames.Cells f).map (rI .own)).set c.toNat [I v])])):=by
 simp[af.enc,setCell,Q4,aD,rI]
def mn (k:af) (p:Int):Nat:=(ar k.Machine.Table p).Frame.toNat
def xV (k:af) (a b c:Int):af:=setCell k (mn k b) c (nth (nth k.Machine.Frames.Cells (mn k a)) c.toNat)
def LZ (k:af) (a b c:Int):Nat->af
 | 0=>k
 | _+1=>xV k a b c
def uh (k:af) (p:Nat) (e:bj):af:={k with Machine:=⟨k.Machine.Frames,⟨k.Machine.Table.Entries.set p e⟩⟩}
theorem HV (k:af) (p:Nat) (e:bj):af.enc .own (uh k p e)=(af.enc .own k).set 2 (.s .own ((k.Machine.Table.Entries.map (bj.enc .own)).set p (bj.enc .own e))):=by
 simp[af.enc,uh,Q4]
theorem Ju {k:af} (p:Nat) (e:bj) (h:aG.sml k.Machine.Table):aG.sml (uh k p e).Machine.Table:=by
 refine⟨?_,fun x _=>trivial⟩;show(k.Machine.Table.Entries.set p e).length<=_;rw[Z0];exact h.1
def yN (k:af) (p o:Int):af × Bool:=if refd k=true then(df k,false) else(hO (uh (df k) p.toNat ⟨2,(nth k.Machine.Table.Entries o.toNat).Frame⟩) (nth k.Machine.Table.Entries p.toNat).Frame,true)
def kE (m:aQ) (a v:Int):aQ × Int:=
 if(ar m.Table (a / 16)).Mode=0 then(m,1) else if(ar m.Table (a / 16)).Mode=1 then(m,2) else
 (⟨⟨m.Frames.Cells.set (ar m.Table (a / 16)).Frame.toNat ((nth m.Frames.Cells (ar m.Table (a / 16)).Frame.toNat).set (a % 16).toNat v),m.Frames.Used⟩,m.Table⟩,0)
theorem ES (m:aQ) (f:Nat) (c v:Int):aQ.enc .own ⟨⟨m.Frames.Cells.set f ((nth m.Frames.Cells f).set c.toNat v),m.Frames.Used⟩,m.Table⟩ = (aQ.enc .own m).set 0 (.s .own ((m.Frames.Cells.map (aD .own)).set f [.s .own (((nth m.Frames.Cells f).map (rI .own)).set c.toNat [I v])])):=by
 simp[aQ.enc,Q4,aD,rI]
def jmay (k:af) (j:cj):Bool:=(aA k&&decide (k.Calls≠100000))&&(iH j&&decide ((ar k.Machine.Table j.Plan.Keep).Mode≠0/\(ar k.Machine.Table j.Plan.Move).Mode≠0/\(ar k.Machine.Table j.Plan.Keep).Frame≠(ar k.Machine.Table j.Plan.Move).Frame))
def jstep (k:af) (j:cj):af × cj:=
 if j.Phase=0 then((jG k j.Plan.Move 1).1,{j with Phase:=if(jG k j.Plan.Move 1).2=true then 1 else 5})
 else if j.Phase=1 then(if j.Next=j.Plan.Cells.length then(k,{j with Phase:=2}) else(xV k j.Plan.Move j.Plan.Keep (nth j.Plan.Cells j.Next.toNat),{j with Next:=j.Next+1}))
 else if j.Phase=2 then((yN k j.Plan.Move j.Plan.Keep).1,{j with Phase:=if(yN k j.Plan.Move j.Plan.Keep).2=true then 4 else 3})
 else if j.Phase=3 then(if 0<j.Next then({k with Machine:=(kE k.Machine (j.Plan.Keep*16+nth j.Plan.Cells (j.Next - 1).toNat) 0).1},{j with Next:=j.Next - 1}) else((jG k j.Plan.Move 2).1,{j with Phase:=if(jG k j.Plan.Move 2).2=true then 5 else 3}))
 else(k,j)
theorem Jv {k:af} {f:Int} (h1:∀ j,j<k.Refuse.length->0<=nth k.Refuse j) (h2:cZ k.Machine.Frames=true) (h3:f9 k.Machine.Table k.Machine.Frames.Used.length=true)
  (h4:∀ j:Nat,j<k.Machine.Frames.Used.length->(j:Int)≠f->nth k.Machine.Frames.Used j=decide (0<(pagesOn k.Machine.Table (j:Int)).length)) (h5:0<=f/\f<k.Machine.Frames.Used.length) (h6:nth k.Machine.Frames.Used f.toNat=true) (h7:0<=k.Calls/\k.Calls<=100000/\k.Refuse.length<=40):aA (hO k f)=true:=by
 obtain⟨g1,g2,g3,g4⟩:=bg.1 h2;unfold hO;split
 ·rename_i hz
  rw[aC];simp only[Z0];refine⟨h1,?_,h3,fun j hj=>?_,h7⟩
  ·rw[bg]
   simp only[Z0,cx];refine⟨g1,g2,g3,fun j hj=>?_⟩;by_cases hjf:f.toNat=j
   ·rw[if_pos ⟨hjf,hj⟩,if_pos ⟨hjf,by omega⟩];decide
   ·rw[if_neg (fun e=>hjf e.1),if_neg (fun e=>hjf e.1)];exact g4 j hj
  ·rw[cx]
   by_cases hjf:f.toNat=j
   ·rw[if_pos ⟨hjf,hj⟩]
    have:(j:Int)=f:=by omega
    rw[this];exact(P0 fun hh=>absurd hz (Nat.ne_of_gt hh)).symm
   ·rw[if_neg (fun e=>hjf e.1)];exact h4 j hj (by omega)
 ·rename_i hz
  rw[aC];refine⟨h1,h2,h3,fun j hj=>?_,h7⟩;by_cases hjf:(j:Int)=f
  ·rw[hjf,show j=f.toNat by omega,h6]
   exact(O0 (Nat.pos_of_ne_zero hz)).symm
  ·exact h4 j hj hjf
def tEq (t t':aG):Prop:=t'.Entries.length=t.Entries.length/\∀ q:Nat,((nth t'.Entries q).Mode≠0↔(nth t.Entries q).Mode≠0)/\(nth t'.Entries q).Frame=(nth t.Entries q).Frame
theorem tEq.refl (t:aG):tEq t t:=⟨rfl,fun _=>⟨Iff.rfl,rfl⟩⟩
theorem tEq.of {t t':aG} (h:t'=t):tEq t t':=by rw[h];exact tEq.refl t
theorem tEq.pagesOn {t t':aG} (h:tEq t t') (f:Int):Ab.pagesOn t' f=Ab.pagesOn t f:=by
 unfold Ab.pagesOn iG;rw[h.1]
 congr 1
 refine List.filter_congr fun q _=>?_
 obtain⟨h1,h2⟩:=h.2 q;unfold Hu;rw[h2];exact decide_eq_decide.2 (and_congr h1 Iff.rfl)
theorem Aw {k:af} (h:aA k=true) {t':aG} (he:tEq k.Machine.Table t') (hm:∀ q,q<t'.Entries.length->0<=(nth t'.Entries q).Mode/\(nth t'.Entries q).Mode<=2):aA {k with Machine:=⟨k.Machine.Frames,t'⟩} = true:=by
 obtain⟨h1,h2,h3,h4,h5⟩:=aC.1 h;obtain⟨t1,t2,t3⟩:=bx.1 h3;rw[aC];refine⟨h1,h2,bx.2 ⟨fun j hj=>?_,?_,?_⟩,fun j hj=>?_,h5⟩
 ·replace hj:j<t'.Entries.length:=hj
  have h6:=t1 j (by rw[<-he.1];exact hj);have hmm:=hm j hj;obtain⟨e1,e2⟩:=he.2 j;show jV _ (nth t'.Entries j)=true;unfold jV at h6 |-;rw[C0]at h6 |-;rw[e2];refine⟨hmm.1,hmm.2,fun hz=>h6.2.2.1 (Classical.byContradiction fun hn=>(e1.2 hn) hz),fun hz=>h6.2.2.2 (e1.1 hz)⟩
 ·show 1<=t'.Entries.length;rw[he.1];exact t2
 ·show t'.Entries.length<=32;rw[he.1];exact t3
 ·show nth k.Machine.Frames.Used j=decide (0<(Ab.pagesOn t' (j:Int)).length)
  rw[he.pagesOn];exact h4 j hj
theorem kZ {k:af} (h:aA k=true) (hc:k.Calls≠100000):aA (df k)=true:=by
 obtain⟨h1,h2,h3,h4,h5,h6,h7⟩:=aC.1 h;rw[aC];exact⟨h1,h2,h3,h4,by show 0<=k.Calls+1;omega,by show k.Calls+1<=100000;omega,h7⟩
theorem qW {k:af} {p m:Int} (hm:(nth k.Machine.Table.Entries p.toNat).Mode≠0) (h12:m=1\/m=2):tEq k.Machine.Table (vT k p m).Machine.Table:=by
 refine⟨by simp[vT],fun q=>?_⟩;simp only[vT,cx];split
 ·rename_i e
  rw[<-e.1];exact⟨⟨fun _=>hm,fun _=>by show m≠0;omega⟩,rfl⟩
 ·exact⟨Iff.rfl,rfl⟩
theorem Kj {k:af} (h:aA k=true) {p m:Int} (hm:(nth k.Machine.Table.Entries p.toNat).Mode≠0) (h12:m=1\/m=2):aA (vT k p m)=true:=by
 refine Aw h (qW hm h12) fun q hq=>?_
 obtain⟨h1,h2,h3,h4,h5⟩:=aC.1 h;obtain⟨t1,t2,t3⟩:=bx.1 h3;have hq':q<k.Machine.Table.Entries.length:=by rw[<-(qW hm h12).1];exact hq
 have h6:=t1 q hq';unfold jV at h6;rw[C0]at h6;simp only[cx];split
 ·show 0<=m/\m<=2;omega
 ·exact⟨h6.1,h6.2.1⟩
theorem BW {k:af} {p m:Int} (h:aA k=true) (hc:k.Calls≠100000) (hp:(ar k.Machine.Table p).Mode≠0) (h12:m=1\/m=2):aA (jG k p m).1=true/\tEq k.Machine.Table (jG k p m).1.Machine.Table:=by
 obtain⟨m1,m2,m3,-⟩:=cv h hp;rw[m3]at hp;unfold jG;split
 ·exact⟨kZ h hc,tEq.refl _⟩
 ·exact⟨Kj (kZ h hc) hp h12,qW (k:=df k) hp h12⟩
theorem i6 {k:af} (h:aA k=true) {p:Int} (hp:(ar k.Machine.Table p).Mode≠0):mn k p<k.Machine.Frames.Cells.length/\nth k.Machine.Frames.Used (mn k p)=true/\((mn k p:Nat):Int)=(nth k.Machine.Table.Entries p.toNat).Frame:=by
 obtain⟨m1,m2,m3,m4,m5⟩:=cv h hp;obtain⟨h1,h2,h3,h4,h5⟩:=aC.1 h;obtain⟨g1,g2,g3,g4⟩:=bg.1 h2;have hf:((mn k p:Nat):Int)=(ar k.Machine.Table p).Frame:=by unfold mn;omega
 refine⟨by omega,?_,by rw[hf,m3]⟩;rw[h4 _ (by omega),hf];refine O0 (ef.2 ⟨p.toNat,by omega,?_,?_⟩)
 ·rw[<-m3];exact hp
 ·rw[<-m3]
theorem HN {k:af} (h:aA k=true) {f:Nat} {r':List Int} (hl:r'.length=16) (hr:∀ v∈r',0<=v/\v<=999) (hu:nth k.Machine.Frames.Used f=true):aA {k with Machine:=⟨⟨k.Machine.Frames.Cells.set f r',k.Machine.Frames.Used⟩,k.Machine.Table⟩} = true:=by
 obtain⟨h1,h2,h3,h4,h5⟩:=aC.1 h;obtain⟨g1,g2,g3,g4⟩:=bg.1 h2;refine aC.2 ⟨h1,bg.2 ⟨?_,?_,?_,fun j hj=>?_⟩,h3,h4,h5⟩
 ·simp only[Z0];exact g1
 ·simp only[Z0];exact g2
 ·simp only[Z0];exact g3
 ·simp only[Z0]at hj |-
  simp only[cx];split
  ·rename_i e
   obtain⟨rfl,-⟩:=e;unfold gQ;simp only[I0,C0,v3];refine⟨hl,fun v hv=>?_⟩;have:=hr v hv;unfold ir;simp[hu,this]
  ·exact g4 j hj
theorem zI {k:af} (h:aA k=true) {f:Nat} (hf:f<k.Machine.Frames.Cells.length):(nth k.Machine.Frames.Cells f).length=16/\∀ v∈nth k.Machine.Frames.Cells f,0<=v/\v<=999:=by
 obtain⟨h1,h2,h3,h4,h5⟩:=aC.1 h;obtain⟨g1,g2,g3,g4⟩:=bg.1 h2;have h6:=g4 f hf;unfold gQ at h6;simp only[I0,C0,v3]at h6;refine⟨h6.1,fun v hv=>?_⟩;have:=h6.2 v hv;unfold ir at this;simp only[I0,C0]at this;exact this.1
theorem pq {k:af} (h:aA k=true) {f:Nat} (hf:f<k.Machine.Frames.Cells.length) (hu:nth k.Machine.Frames.Used f=true) {c v:Int} (hv:0<=v/\v<=999):aA (setCell k f c v)=true:=by
 obtain⟨r1,r2⟩:=zI h hf;refine HN h (by rw[Z0];exact r1) (fun z hz=>?_) hu;rcases U4 hz with hz|rfl
 ·exact r2 z hz
 ·exact hv
theorem JU {k:af} (h:aA k=true) {a b c:Int} (ha:(ar k.Machine.Table a).Mode≠0) (hb:(ar k.Machine.Table b).Mode≠0) (hc:0<=c/\c<=15):aA (xV k a b c)=true:=by
 obtain⟨a1,a2,-⟩:=i6 h ha;obtain⟨b1,b2,-⟩:=i6 h hb;obtain⟨r1,r2⟩:=zI h a1;exact pq h b1 b2 (r2 _ (am (by omega)))
theorem Mq {k:af} {p o:Int} (h:aA k=true) (hc:k.Calls≠100000) (hp:(ar k.Machine.Table p).Mode≠0) (ho:(ar k.Machine.Table o).Mode≠0) (hpo:p≠o):aA (yN k p o).1=true:=by
 unfold yN;split
 ·exact kZ h hc
 obtain⟨p1,p2,p3⟩:=i6 h hp;obtain⟨o1,o2,o3⟩:=i6 h ho;obtain⟨m1,m2,m3,m4,m5⟩:=cv h hp;obtain⟨n1,n2,n3,n4,n5⟩:=cv h ho;obtain⟨h1,h2,h3,h4,h5,h6,h7⟩:=aC.1 h;obtain⟨t1,t2,t3⟩:=bx.1 h3;rw[n3]at n4 n5 ho;rw[m3]at m4 m5 hp;have hent:∀ q,nth (k.Machine.Table.Entries.set p.toNat ⟨2,(nth k.Machine.Table.Entries o.toNat).Frame⟩) q=if p.toNat=q then⟨2,(nth k.Machine.Table.Entries o.toNat).Frame⟩ else nth k.Machine.Table.Entries q:=fun q=>by
  rw[cx];by_cases hq:p.toNat=q
  ·rw[if_pos ⟨hq,by omega⟩,if_pos hq]
  ·rw[if_neg (fun e=>hq e.1),if_neg hq]
 refine Jv h1 h2 (bx.2 ⟨fun j hj=>?_,?_,?_⟩) (fun j hj hjf=>?_) ⟨m4,m5⟩ (by rw[<-p3];exact p2) ⟨by show 0<=k.Calls+1;omega,by show k.Calls+1<=100000;omega,h7⟩
 ·simp only[uh,df,Z0]at hj |-
  rw[hent];split
  ·unfold jV;rw[C0];simp only;omega
  ·exact t1 j hj
 ·simp only[uh,df,Z0];exact t2
 ·simp only[uh,df,Z0];exact t3
 ·replace hj:j<k.Machine.Frames.Used.length:=hj
  show nth k.Machine.Frames.Used j=_;rw[h4 j hj];refine decide_eq_decide.2 ?_;rw[ef,ef];simp only[uh,df,Z0,hent];constructor
  ·rintro⟨q,q1,q2,q3⟩
   refine⟨q,q1,?_⟩;rw[if_neg (fun e=>hjf (by rw[<-q3,<-e]))];exact⟨q2,q3⟩
  ·rintro⟨q,q1,q2,q3⟩
   by_cases e:p.toNat=q
   ·rw[if_pos e]at q3
    exact⟨o.toNat,by omega,ho,q3⟩
   ·rw[if_neg e]at q2 q3
    exact⟨q,q1,q2,q3⟩
theorem KU {k:af} {p o:Int} (h:aA k=true) (hp:(ar k.Machine.Table p).Mode≠0) (hr:(yN k p o).2=true) (q:Nat):(yN k p o).1.Machine.Table.Entries.length=k.Machine.Table.Entries.length/\nth (yN k p o).1.Machine.Table.Entries q=if(q:Int)=p then⟨2,(nth k.Machine.Table.Entries o.toNat).Frame⟩ else nth k.Machine.Table.Entries q:=by
 obtain⟨m1,m2,-⟩:=cv h hp;unfold yN at hr |-;split at hr
 ·cases hr
 rename_i hn;rw[if_neg hn];simp only[(od _ _).1];simp only[uh,df,Z0,cx];refine⟨trivial,?_⟩;by_cases e:(q:Int)=p
 ·rw[if_pos ⟨by omega,by omega⟩,if_pos e]
 ·rw[if_neg fun z=>e (by omega),if_neg e]
theorem MM {k:af} {p o:Int} (hr:(yN k p o).2=false):(yN k p o).1=df k:=by
 unfold yN at hr |-;split
 ·rfl
 ·rename_i hn;rw[if_neg hn]at hr;cases hr
theorem GP {k:af} {a v:Int} (h:aA k=true) (ha:0<=a) (hv:0<=v/\v<=999):aA {k with Machine:=(kE k.Machine a v).1} = true/\(kE k.Machine a v).1.Table=k.Machine.Table:=by
 unfold kE;split
 ·exact⟨h,rfl⟩
 rename_i hm;split
 ·exact⟨h,rfl⟩
 ·obtain⟨b1,b2,-⟩:=i6 h hm
  exact⟨pq h b1 b2 (c:=a % 16) hv,rfl⟩
def mJ (t:aG) (p:Int):Prop:=∀ q:Nat,(nth t.Entries q).Mode≠0->(nth t.Entries q).Frame=(nth t.Entries p.toNat).Frame->(q:Int)=p
structure JI (h:ab):Prop where
 ph:h.Meshing=true->0<=h.Job.Phase/\h.Job.Phase<=3
 sp:h.Meshing=true->∃ a∈h.Spans,∃ b∈h.Spans,a.Page=h.Job.Plan.Keep/\b.Page=h.Job.Plan.Move/\meshable a b=true
 sk:h.Meshing=true->mJ (tbl h) h.Job.Plan.Keep
 sm:h.Meshing=true->mJ (tbl h) h.Job.Plan.Move
theorem mJ.tEq {t t':aG} {p:Int} (h:mJ t p) (he:tEq t t'):mJ t' p:=fun q h1 h2=>by
 obtain⟨e1,e2⟩:=he.2 q;exact h q (e1.1 h1) (by rw[<-e2,<-(he.2 p.toNat).2];exact h2)
theorem Pg.tEq {t t':aG} {fr:List a7} {sp:List au} {la:List a8} (h:Pg t fr sp la) (he:tEq t t'):Pg t' fr sp la where
 one l hl p hp q hq h1 h2:=h.one l hl p hp q (by rw[<-he.1];exact hq) ((he.2 q).1.1 h1) (by rw[<-(he.2 q).2,<-(he.2 p).2];exact h2)
 bnd p hp:=by rw[he.1];exact h.bnd p hp
 own p hp:=(he.2 p).1.trans (h.own p (by rw[<-he.1];exact hp))
 fre p hp:=(he.2 p).1.trans (h.fre p (by rw[<-he.1];exact hp))
 mesh s hs u hu hne hf:=h.mesh s hs u hu hne (by rw[<-(he.2 _).2,<-(he.2 u.Page.toNat).2];exact hf)
theorem bo.step {h:ab} {E:List Int} (hi:bo h E) {k:af} (hk:aA k=true) (hl:k.Machine.Table.Entries.length=(tbl h).Entries.length) (hg:Pg k.Machine.Table h.Free h.Spans h.Larges) {j:cj} {m:Bool}
  (h1:m=true->iH j=true/\(∃ s∈h.Spans,s.Page=j.Plan.Keep)/\∃ s∈h.Spans,s.Page=j.Plan.Move) (h2:m=false->qC j=true):bo {h with Kernel:=k,Meshing:=m,Job:=j} E:=
 {hi with
   ker:=hk
   rng:=by show bv ((k.Machine.Table.Entries.length:Nat):Int) h.Free=true;rw[hl];exact hi.rng
   pg:=hg
   job:=h1
   noj:=h2}
theorem q8.apart {sp:List au} {la:List a8} (hL:q8 sp la) {s:au} (hs:s∈sp) {l:a8} (hl:l∈la) {p:Int} (hp:p∈lpgs l l.Pages.toNat):s.Page≠p:=by
 unfold lpgs at hp;simp only[O3,List.mem_range]at hp;obtain⟨k,hk,rfl⟩:=hp;exact hL.dis s hs l hl k hk
theorem Pg.on {t t':aG} {fr:List a7} {sp:List au} {la:List a8} (hg:Pg t fr sp la) (hL:q8 sp la) {a b:au} (ha:a∈sp) (hb:b∈sp) (hm:meshable a b=true) (hsa:mJ t a.Page)
  (hma:(nth t.Entries a.Page.toNat).Mode≠0) (hmb:(nth t.Entries b.Page.toNat).Mode≠0) (hb0:0<=b.Page) (hl:t'.Entries.length=t.Entries.length)
  (he:∀ q:Nat,nth t'.Entries q=if(q:Int)=b.Page then⟨2,(nth t.Entries a.Page.toNat).Frame⟩ else nth t.Entries q):Pg t' fr sp la:=by
 have hmode:∀ q:Nat,(nth t'.Entries q).Mode≠0↔(nth t.Entries q).Mode≠0:=fun q=>by
  rw[he];split
  ·rename_i e
   rw[show q=b.Page.toNat by omega];exact⟨fun _=>hmb,fun _=>by show(2:Int)≠0;omega⟩
  ·rfl
 have ha0:0<=a.Page:=by have:=hL.sok a ha;unfold aY at this;rw[C0]at this;omega
 refine⟨fun l hl' p hp q hq h1 h2=>?_,fun p hp=>by rw[hl];exact hg.bnd p hp,fun p hp=>(hmode p).trans (hg.own p (by rw[<-hl];exact hp)),fun p hp=>(hmode p).trans (hg.fre p (by rw[<-hl];exact hp)),fun s hs u hu hne hf=>?_⟩
 ·have hpb:¬(p:Int)=b.Page:=fun e=>hL.apart hb hl' hp e.symm
  rw[he p,if_neg hpb,he q]at h2;rw[hmode]at h1;by_cases e:(q:Int)=b.Page
  ·rw[if_pos e]at h2
   have h3:=hg.one l hl' p hp a.Page.toNat (by have:=hg.bnd _ (dv (la:=la) ha);omega) hma h2;exact absurd (show a.Page=(p:Int) by omega) (hL.apart ha hl' hp)
  ·rw[if_neg e]at h2
   exact hg.one l hl' p hp q (by rw[<-hl];exact hq) h1 h2
 ·have hs0:0<=s.Page:=by have:=hL.sok s hs;unfold aY at this;rw[C0]at this;omega
  have hu0:0<=u.Page:=by have:=hL.sok u hu;unfold aY at this;rw[C0]at this;omega
  have hinj:∀ x∈sp,∀ y∈sp,x.Page=y.Page->x=y:=fun x hx y hy e=>by
   obtain⟨i,hi,rfl⟩:=bf hx;obtain⟨j,hj,rfl⟩:=bf hy;rw[gx (f:=(·.Page)) hL.nd hi hj e]
  have hmap:∀ x∈sp,(nth t.Entries x.Page.toNat).Mode≠0:=fun x hx=>by
   have hx0:0<=x.Page:=by have:=hL.sok x hx;unfold aY at this;rw[C0]at this;omega
   refine(hg.own x.Page.toNat (by have:=hg.bnd _ (dv (la:=la) hx);omega)).2 ?_;rw[show((x.Page.toNat:Nat):Int)=x.Page by omega];exact dv hx
  rw[he,he]at hf;simp only[show((s.Page.toNat:Nat):Int)=s.Page by omega,show((u.Page.toNat:Nat):Int)=u.Page by omega]at hf;by_cases es:s.Page=b.Page
  ·rw[if_pos es,if_neg (fun e=>hne (es.trans e.symm))]at hf
   have h3:=hsa u.Page.toNat (hmap u hu) hf.symm;rw[hinj s hs b hb es,hinj u hu a ha (by omega),iv];exact hm
  ·rw[if_neg es]at hf
   by_cases eu:u.Page=b.Page
   ·rw[if_pos eu]at hf
    have h3:=hsa s.Page.toNat (hmap s hs) hf;rw[hinj u hu b hb eu,hinj s hs a ha (by omega)];exact hm
   ·rw[if_neg eu]at hf
    exact hg.mesh s hs u hu hne hf
def over (j:cj):Bool:=decide (j.Phase=4\/j.Phase=5)
def iT (k:af) (j:cj):af × cj:=if jmay k j=true then jstep k j else(k,j)
def mStep (h:ab):ab:={h with Kernel:=(iT h.Kernel h.Job).1,Meshing:=if over (iT h.Kernel h.Job).2=true then false else h.Meshing,Job:=if over (iT h.Kernel h.Job).2=true then⟨⟨0,0,[]⟩,0,0⟩ else(iT h.Kernel h.Job).2}
def Ds (h:ab):Bool:=decide ((iT h.Kernel h.Job).2.Phase=4)
theorem fm {j:cj} : iH j=true↔ek j.Plan=true/\0<=j.Phase/\j.Phase<=5/\0<=j.Next/\j.Next<=j.Plan.Cells.length:=by
 unfold iH;simp only[I0,C0]
theorem kO {p:bP} (h:ek p=true) {i:Nat} (hi:i<p.Cells.length):0<=nth p.Cells i/\nth p.Cells i<=15:=by
 unfold ek at h;simp only[I0]at h;have:=d9 h.1 hi;unfold lO at this;rw[C0]at this;exact⟨this.1,this.2.1⟩
structure JS (h:ab) (k:af) (j:cj):Prop where
 ker:aA k=true
 len:k.Machine.Table.Entries.length=(tbl h).Entries.length
 pg:j.Phase≠4\/JI h->Pg k.Machine.Table h.Free h.Spans h.Larges
 ph:0<=j.Phase/\j.Phase<=5
 plan:j.Plan=h.Job.Plan
 nxt:0<=j.Next/\j.Next<=j.Plan.Cells.length
 eq:j.Phase≠4->tEq (tbl h) k.Machine.Table
 calls:h.Kernel.Calls<=k.Calls/\k.Calls<=h.Kernel.Calls+1/\k.Refuse=h.Kernel.Refuse
theorem uF (k:af) (p m:Int):(jG k p m).1.Calls=k.Calls+1/\(jG k p m).1.Refuse=k.Refuse:=by
 unfold jG;split<;>exact⟨rfl,rfl⟩
theorem Js (k:af) (p o:Int):(yN k p o).1.Calls=k.Calls+1/\(yN k p o).1.Refuse=k.Refuse:=by
 unfold yN;split
 ·exact⟨rfl,rfl⟩
 ·obtain⟨-,h1,h2,-⟩:=od (uh (df k) p.toNat ⟨2,(nth k.Machine.Table.Entries o.toNat).Frame⟩) (nth k.Machine.Table.Entries p.toNat).Frame
  simp only[h1,h2];exact⟨rfl,rfl⟩
theorem JS.of {h:ab} {E:List Int} (hi:bo h E) (hm:h.Meshing=true):JS h (iT h.Kernel h.Job).1 (iT h.Kernel h.Job).2:=by
 obtain⟨j1,-,-⟩:=hi.job hm;obtain⟨j2,j3,j4,j5,j6⟩:=fm.1 j1;unfold iT;split
 case isFalse=>exact⟨hi.ker,rfl,fun _=>hi.pg,⟨j3,j4⟩,rfl,⟨j5,j6⟩,fun _=>tEq.refl _,W3 _,by show h.Kernel.Calls<=h.Kernel.Calls+1;omega,rfl⟩
 rename_i hmay;unfold jmay at hmay;simp only[I0,C0]at hmay;obtain⟨⟨-,hc⟩,-,hk,hv,hne⟩:=hmay;have fin:∀ (k:af) (j:cj),aA k=true->tEq (tbl h) k.Machine.Table->0<=j.Phase/\j.Phase<=5->j.Plan=h.Job.Plan->0<=j.Next/\j.Next<=j.Plan.Cells.length->h.Kernel.Calls<=k.Calls/\k.Calls<=h.Kernel.Calls+1/\k.Refuse=h.Kernel.Refuse->JS h k j:=
  fun k j h1 h2 h3 h4 h5 h6=>⟨h1,h2.1,fun _=>hi.pg.tEq h2,h3,h4,h5,fun _=>h2,h6⟩
 have hcal:=(aC.1 hi.ker).2.2.2.2;unfold jstep;split
 ·obtain⟨q1,q2⟩:=BW hi.ker hc hv (m:=1) (.inl rfl)
  obtain⟨q3,q4⟩:=uF h.Kernel h.Job.Plan.Move 1;refine fin _ _ q1 q2 ?_ rfl ⟨j5,j6⟩ ⟨by rw[q3];omega,by rw[q3];omega,q4⟩;show 0<=(if _ then _ else _:Int)/\(if _ then _ else _:Int)<=5;split<;>omega
 split
 ·split
  ·exact fin _ _ hi.ker (tEq.refl _) ⟨by show(0:Int)<=2;omega,by show(2:Int)<=5;omega⟩ rfl ⟨j5,j6⟩ ⟨W3 _,by show h.Kernel.Calls<=h.Kernel.Calls+1;omega,rfl⟩
  ·have hc15:=kO j2 (i:=h.Job.Next.toNat) (by omega)
   refine fin _ _ (JU hi.ker hv hk hc15) (tEq.refl _) ⟨j3,j4⟩ rfl ⟨by show 0<=h.Job.Next+1;omega,by show h.Job.Next+1<=h.Job.Plan.Cells.length;omega⟩ ⟨W3 _,by show h.Kernel.Calls<=h.Kernel.Calls+1;omega,rfl⟩
 split
 ·have hpo:h.Job.Plan.Move≠h.Job.Plan.Keep:=fun e=>hne (by rw[e])
  have q1:=Mq hi.ker hc hv hk hpo;obtain⟨q3,q4⟩:=Js h.Kernel h.Job.Plan.Move h.Job.Plan.Keep;cases e:(yN h.Kernel h.Job.Plan.Move h.Job.Plan.Keep).2 with
  | false=>
   rw[if_neg (by simp)];refine fin _ _ q1 (tEq.of ?_) ⟨by show(0:Int)<=3;omega,by show(3:Int)<=5;omega⟩ rfl ⟨j5,j6⟩ ⟨by rw[q3];omega,by rw[q3];omega,q4⟩;rw[MM e];rfl
  | true=>
   rw[if_pos rfl];obtain⟨m1,m2,m3,-⟩:=cv hi.ker hv;obtain⟨n1,n2,n3,-⟩:=cv hi.ker hk;have hent:=KU hi.ker hv e;refine⟨q1,(hent 0).1,fun hor=>?_,⟨by show(0:Int)<=4;omega,by show(4:Int)<=5;omega⟩,rfl,⟨j5,j6⟩,fun hn=>absurd rfl hn,by rw[q3];omega,by rw[q3];omega,q4⟩;have hj:JI h:=hor.elim (fun hn=>absurd rfl hn) id;obtain⟨a,ha,b,hb,ea,eb,hab⟩:=hj.sp hm;refine hi.pg.on hi.L ha hb hab (by rw[ea];exact hj.sk hm) (by rw[ea];show(nth h.Kernel.Machine.Table.Entries _).Mode≠0;rw[<-n3];exact hk) (by rw[eb];show(nth h.Kernel.Machine.Table.Entries _).Mode≠0;rw[<-m3];exact hv) (by rw[eb];exact m1) (hent 0).1 fun q=>?_
   rw[(hent q).2,eb,ea];rfl
 split
 ·split
  ·rename_i hn0
   have hc15:=kO j2 (i:=(h.Job.Next - 1).toNat) (by omega);have hk0:=(cv hi.ker hk).1;obtain⟨q1,q2⟩:=GP hi.ker (a:=h.Job.Plan.Keep*16+nth h.Job.Plan.Cells (h.Job.Next - 1).toNat) (v:=0) (by omega) ⟨by omega,by omega⟩;exact fin _ _ q1 (tEq.of q2) ⟨j3,j4⟩ rfl ⟨by show 0<=h.Job.Next - 1;omega,by show h.Job.Next - 1<=h.Job.Plan.Cells.length;omega⟩ ⟨W3 _,by show h.Kernel.Calls<=h.Kernel.Calls+1;omega,rfl⟩
  ·obtain⟨q1,q2⟩:=BW hi.ker hc hv (m:=2) (.inr rfl)
   obtain⟨q3,q4⟩:=uF h.Kernel h.Job.Plan.Move 2;refine fin _ _ q1 q2 ?_ rfl ⟨j5,j6⟩ ⟨by rw[q3];omega,by rw[q3];omega,q4⟩;show 0<=(if _ then _ else _:Int)/\(if _ then _ else _:Int)<=5;split<;>omega
 ·exact fin _ _ hi.ker (tEq.refl _) ⟨j3,j4⟩ rfl ⟨j5,j6⟩ ⟨W3 _,by show h.Kernel.Calls<=h.Kernel.Calls+1;omega,rfl⟩
theorem bo.mStep {h:ab} {E:List Int} (hi:bo h E) (hj:JI h) (hm:h.Meshing=true):bo (mStep h) E/\JI (mStep h):=by
 have s:=JS.of hi hm;unfold Ab.mStep;generalize (iT h.Kernel h.Job).1=k at s |-;generalize (iT h.Kernel h.Job).2=j at s |-;cases e:over j with
 | true=>
  refine⟨hi.step s.ker s.len (s.pg (.inr hj)) (fun h=>by simp at h) (fun _=>by simp[qC]),?_⟩;exact⟨fun h=>by simp at h,fun h=>by simp at h,fun h=>by simp at h,fun h=>by simp at h⟩
 | false=>
  simp only[Bool.false_eq_true,if_false];unfold over at e;simp only[T3,not_or]at e;have he:=s.eq e.1;have hph:=s.ph;refine⟨hi.step s.ker s.len (s.pg (.inr hj)) (fun _=>⟨fm.2 ⟨by rw[s.plan];exact(fm.1 (hi.job hm).1).1,s.ph.1,s.ph.2,s.nxt⟩,by rw[s.plan];exact(hi.job hm).2⟩) (fun h=>by rw[hm]at h;cases h),?_⟩;refine⟨fun _=>⟨s.ph.1,by show j.Phase<=3;omega⟩,fun _=>?_,fun _=>?_,fun _=>?_⟩
  ·show ∃ a∈h.Spans,∃ b∈h.Spans,a.Page=j.Plan.Keep/\b.Page=j.Plan.Move/\meshable a b=true
   rw[s.plan];exact hj.sp hm
  ·show mJ k.Machine.Table j.Plan.Keep
   rw[s.plan];exact(hj.sk hm).tEq he
  ·show mJ k.Machine.Table j.Plan.Move
   rw[s.plan];exact(hj.sm hm).tEq he
def M6 (k:af) (a:Int):Int:=nth (nth k.Machine.Frames.Cells (ar k.Machine.Table (a / 16)).Frame.toNat) (a % 16).toNat
def cellsOf (k:af) (a:Int) (n:Nat):List Int:=(List.range n).map fun(i:Nat)=>M6 k (a+i)
theorem pK {n:Int} (h:0<=aO n):1<=n/\n<=8:=by
 unfold aO at h;split at h
 ·omega
 ·split at h
  ·omega
  ·split at h
   ·omega
   ·split at h
    ·omega
    ·split at h<;>omega
def NI {α:Type} [Inhabited α] (f:α->Int) (xs:List α):Nat->Int
 | 0=>0
 | i+1=>NI f xs i+f (nth xs i)
def bor (n m:Int):Int:=((n.toNat ||| m.toNat:Nat):Int)
def pQ (sp:List au) (p:Int) (b:Int):Nat->Int
 | 0=>b
 | j+1=>if(nth sp j).Page=p then bor (pQ sp p b j) (nth sp j).Bits else pQ sp p b j
def jc (sp:List au) (ps:List Int) (b:Int):Nat->Int
 | 0=>b
 | k+1=>pQ sp (nth ps k) (jc sp ps b k) sp.length
def gr (h:ab) (i:Nat):Int:=jc h.Spans (aP h (nth h.Spans i).Page) (nth h.Spans i).Bits (aP h (nth h.Spans i).Page).length
theorem H3 {n m:Int} (h1:0<=n/\n<=65535) (h2:0<=m/\m<=65535):0<=bor n m/\bor n m<=65535:=by
 have h3:n.toNat ||| m.toNat<2 ^ 16:=Nat.or_lt_two_pow (by omega) (by omega)
 unfold bor;omega
theorem tV {sp:List au} (h:∀ s∈sp,aY s=true) {j:Nat} (hj:j<sp.length):0<=(nth sp j).Bits/\(nth sp j).Bits<=65535:=by
 have h1:=h _ (am hj);have h2:=EI (nth sp j).Class;unfold aY at h1;rw[C0]at h1;omega
theorem tH {sp:List au} (h:∀ s∈sp,aY s=true) {p b:Int} (hb:0<=b/\b<=65535):∀ j,j<=sp.length->0<=pQ sp p b j/\pQ sp p b j<=65535
 | 0,_=>hb
 | j+1,hj=>by
  have h1:=tH h (p:=p) hb j (by omega);simp only[pQ];split
  ·exact H3 h1 (tV h (by omega))
  ·exact h1
theorem qJ {sp:List au} (h:∀ s∈sp,aY s=true) {ps:List Int} {b:Int} (hb:0<=b/\b<=65535):∀ k,0<=jc sp ps b k/\jc sp ps b k<=65535
 | 0=>hb
 | k+1=>by simp only[jc];exact tH h (qJ h hb k) _ (I2 _)
theorem md {b i:Int} (hb:0<=b) (hi:0<=i/\i<=15):aT b i=b.toNat.testBit i.toNat:=by
 unfold aT;rw[Nat.testBit_eq_decide_div_mod_eq];refine decide_eq_decide.2 ?_;obtain⟨n,rfl⟩ : ∃ n:Nat,b=n:=⟨b.toNat,by omega⟩
 rw[W1];have h1:((n / 2 ^ i.toNat:Nat):Int)=(n:Int) / 2 ^ i.toNat:=by simp
 omega
theorem EK {n m i:Int} (hn:0<=n) (hm:0<=m) (hi:0<=i/\i<=15):aT (bor n m) i=(aT n i || aT m i):=by
 rw[md (by unfold bor;omega) hi,md hn hi,md hm hi];unfold bor;rw[W1,Nat.testBit_or]
theorem A6 {sp:List au} (h:∀ s∈sp,aY s=true) {p b i:Int} (hb:0<=b/\b<=65535) (hi:0<=i/\i<=15):∀ j,j<=sp.length->(aT (pQ sp p b j) i=true↔aT b i=true\/∃ q,q<j/\(nth sp q).Page=p/\aT (nth sp q).Bits i=true)
 | 0,_=>by simp[pQ]
 | j+1,hj=>by
  have h1:=A6 h (p:=p) hb hi j (by omega);have h2:=tH h (p:=p) hb j (by omega);have h3:=tV h (j:=j) (by omega);simp only[pQ];split
  ·rename_i hp
   rw[EK h2.1 h3.1 hi,R4,h1];constructor
   ·rintro((e|⟨q,e1,e2⟩)|e)
    ·exact .inl e
    ·exact .inr ⟨q,by omega,e2⟩
    ·exact .inr ⟨j,by omega,hp,e⟩
   ·rintro(e|⟨q,e1,e2,e3⟩)
    ·exact .inl (.inl e)
    ·by_cases hq:q=j
     ·subst hq;exact .inr e3
     ·exact .inl (.inr ⟨q,by omega,e2,e3⟩)
  ·rename_i hp
   rw[h1];constructor
   ·rintro(e|⟨q,e1,e2⟩)
    ·exact .inl e
    ·exact .inr ⟨q,by omega,e2⟩
   ·rintro(e|⟨q,e1,e2,e3⟩)
    ·exact .inl e
    ·by_cases hq:q=j
     ·subst hq;exact absurd e2 hp
     ·exact .inr ⟨q,by omega,e2,e3⟩
theorem y3 {sp:List au} (h:∀ s∈sp,aY s=true) {ps:List Int} {b i:Int} (hb:0<=b/\b<=65535) (hi:0<=i/\i<=15):∀ k,(aT (jc sp ps b k) i=true↔aT b i=true\/∃ u,u<k/\∃ q,q<sp.length/\(nth sp q).Page=nth ps u/\aT (nth sp q).Bits i=true)
 | 0=>by simp[jc]
 | k+1=>by
  have h1:=y3 h (ps:=ps) hb hi k;have h2:=qJ h (ps:=ps) hb k;simp only[jc];rw[A6 h h2 hi _ (I2 _),h1];constructor
  ·rintro((e|⟨u,e1,e2⟩)|⟨q,e1,e2⟩)
   ·exact .inl e
   ·exact .inr ⟨u,by omega,e2⟩
   ·exact .inr ⟨k,by omega,q,e1,e2⟩
  ·rintro(e|⟨u,e1,e2⟩)
   ·exact .inl (.inl e)
   ·by_cases hq:u=k
    ·subst hq;exact .inr e2
    ·exact .inl (.inr ⟨u,by omega,e2⟩)
end Go.Proofs.YtembpgjjnioagaaGreat.Ab
