/- Pages mapped for new spans and large objects: a heap stays whole. No condition. -/
import Derived.Test.YtembpgjjnioagaaGreatMd
import Derived.Test.YtembpgjjnioagaaGreatMf
import Derived.Test.YtembpgjjnioagaaGreatMc
import Derived.Test.YtembpgjjnioagaaGreatMe
set_option linter.unusedVariables false
set_option linter.unusedSimpArgs false
set_option linter.constructorNameAsVariable false
namespace Go.Proofs.YtembpgjjnioagaaGreat.Ab
def io (xs:List a7) (n:Int):Nat->Int
 | 0=>-1
 | i+1=>if n<=(nth xs i).Len/\(io xs n i<0\/(nth xs i).Len<(nth xs (io xs n i).toNat).Len) then(i:Nat) else io xs n i
def gw (xs:List a7) (n:Int):Int:=io xs n xs.length
def ay (xs:List a7) (n:Int):List a7 × Int × Bool:=
 if gw xs n<0 then(xs,-1,false)
 else if(nth xs (gw xs n).toNat).Len=n then(dele xs (gw xs n).toNat,(nth xs (gw xs n).toNat).At,true)
 else(xs.set (gw xs n).toNat ⟨(nth xs (gw xs n).toNat).At+n,(nth xs (gw xs n).toNat).Len - n⟩,(nth xs (gw xs n).toNat).At,true)
theorem vW (xs:List a7) (n:Int):∀ i,i<=xs.length->io xs n i = -1\/(0<=io xs n i/\io xs n i<i/\n<=(nth xs (io xs n i).toNat).Len)
 | 0,_=>.inl rfl
 | i+1,hi=>by
  have ih:=vW xs n i (by omega);unfold io;split
  ·rename_i h;right;rw[W1];exact⟨by omega,by omega,h.1⟩
  ·rcases ih with h|h
   ·exact .inl h
   ·exact .inr ⟨h.1,by omega,h.2.2⟩
theorem uX {xs:List a7} (h:nH xs) {i j:Nat} (hij:i<j) (hj:j<xs.length):(nth xs i).At+(nth xs i).Len<(nth xs j).At:=by
 have:=List.pairwise_iff_getElem.1 h.1 i j (by omega) hj hij
 rwa [<-bq (Q1 (show i<xs.length by omega)),<-bq (Q1 hj)]at this
theorem vg {xs:List a7} {p:Int} : RH xs p↔∃ j,j<xs.length/\(nth xs j).At<=p/\p<(nth xs j).At+(nth xs j).Len:=by
 unfold RH;constructor
 ·rintro⟨r,hr,h⟩
  obtain⟨j,hj,rfl⟩:=bc hr;exact⟨j,hj,h⟩
 ·rintro⟨j,hj,h⟩
  exact⟨_,am hj,h⟩
theorem lV {pages:Int} {xs:List a7} {n:Int} (h:bx pages xs=true) (hn:1<=n) (ho:(ay xs n).2.2=true) :
  bx pages (ay xs n).1=true/\0<=(ay xs n).2.1/\(ay xs n).2.1+n<=pages/\(∀ p,RH (ay xs n).1 p↔RH xs p/\¬((ay xs n).2.1<=p/\p<(ay xs n).2.1+n))/\∀ p,(ay xs n).2.1<=p->p<(ay xs n).2.1+n->RH xs p:=by
 obtain⟨h1,h2,h3⟩:=eU.1 h;have hb:=vW xs n xs.length (I2 _);unfold ay at ho |-;change gw xs n = -1\/_ at hb;split at ho
 ·cases ho
 rename_i hb0;rw[if_neg hb0];obtain⟨b0,b1,b2⟩:=hb.resolve_left (by omega);change 0<=gw xs n at b0;change gw xs n<xs.length at b1;change n<=(nth xs (gw xs n).toNat).Len at b2;generalize hbe:(gw xs n).toNat=b at b2 |-;have hbl:b<xs.length:=by omega
 have hr:=h2 _ (am hbl);have hap:∀ j,j<xs.length->j≠b->(nth xs j).At+(nth xs j).Len<(nth xs b).At\/(nth xs b).At+(nth xs b).Len<(nth xs j).At:=fun j hj hne=>by
  rcases Nat.lt_or_gt_of_ne hne with hlt|hgt
  ·exact .inl (uX h1 hlt hbl)
  ·exact .inr (uX h1 hgt hj)
 split
 ·rename_i he
  have hd:(dele xs b).Sublist xs:=fe ..;refine⟨eU.2 ⟨⟨h1.1.sublist hd,fun y hy=>h1.2 y (hd.subset hy)⟩,fun y hy=>h2 y (hd.subset hy),h3⟩,hr.1,by show(nth xs b).At+n<=pages;omega,fun p=>?_,fun p p1 p2=>vg.2 ⟨b,hbl,p1,by show p<_;simp only at p2;omega⟩⟩;simp only;rw[vg (xs:=xs)];constructor
  ·rintro⟨r,hr',q1,q2⟩
   obtain⟨j,hj,hne,rfl⟩:=dU.1 hr';refine⟨⟨j,hj,q1,q2⟩,fun e=>?_⟩;have:=hap j hj hne;omega
  ·rintro⟨⟨j,hj,q1,q2⟩,hno⟩
   exact⟨_,dU.2 ⟨j,hj,fun e=>by subst e;omega,rfl⟩,q1,q2⟩
 ·rename_i he
  have hset:∀ j,nth (xs.set b ⟨(nth xs b).At+n,(nth xs b).Len - n⟩) j=if j=b then⟨(nth xs b).At+n,(nth xs b).Len - n⟩ else nth xs j:=fun j=>by
   rw[cx];by_cases e:j=b
   ·rw[if_pos ⟨e.symm,by omega⟩,if_pos e]
   ·rw[if_neg fun z=>e z.1.symm,if_neg e]
  refine⟨eU.2 ⟨⟨?_,fun y hy=>?_⟩,fun y hy=>?_,h3⟩,hr.1,by show(nth xs b).At+n<=pages;omega,fun p=>?_,fun p p1 p2=>vg.2 ⟨b,hbl,p1,by simp only at p2;omega⟩⟩
  ·rw[List.pairwise_iff_getElem]
   intro i j hi hj hij;rw[<-bq (Q1 hi),<-bq (Q1 hj),hset,hset];simp only[Z0]at hi hj;have hg:=uX h1 hij hj;split
   ·rename_i e;subst e
    rw[if_neg (by omega)];simp only;omega
   ·split
    ·rename_i e;subst e
     simp only;omega
    ·exact hg
  ·rcases eI hy with rfl|⟨j,hj,-,rfl⟩
   ·simp only;omega
   ·exact h1.2 _ (am hj)
  ·rcases eI hy with rfl|⟨j,hj,-,rfl⟩
   ·simp only;omega
   ·exact h2 _ (am hj)
  ·simp only
   rw[vg,vg,Z0];constructor
   ·rintro⟨j,hj,q1,q2⟩
    rw[hset]at q1 q2;split at q1
    ·rename_i e;subst e
     rw[if_pos rfl]at q2;simp only at q1 q2;exact⟨⟨j,hj,by omega,by omega⟩,by omega⟩
    ·rename_i e
     rw[if_neg e]at q2;have:=hap j hj e;exact⟨⟨j,hj,q1,q2⟩,by omega⟩
   ·rintro⟨⟨j,hj,q1,q2⟩,hno⟩
    refine⟨j,hj,?_⟩;rw[hset];split
    ·rename_i e;subst e
     simp only;omega
    ·exact⟨q1,q2⟩
def qd (k:af):Int:=dw (fun u=>!u) k.Machine.Frames.Used
def pE (k:af) (p:Int) (f:Nat):af:={k with Machine:=⟨⟨k.Machine.Frames.Cells,k.Machine.Frames.Used.set f true⟩,⟨k.Machine.Table.Entries.set p.toNat ⟨2,(f:Nat)⟩⟩⟩}
def fB (k:af) (p:Int):af × Bool:=if refd k=true\/qd k<0 then(dh k,false) else(pE (dh k) p (qd k).toNat,true)
theorem AO {k:af} (h:¬qd k<0):(qd k).toNat<k.Machine.Frames.Used.length/\nth k.Machine.Frames.Used (qd k).toNat=false:=by
 unfold qd at h |-;rcases nq (fun u=>!u) k.Machine.Frames.Used with e|⟨n,hn,e,hp⟩
 ·omega
 ·rw[e,W1]
  exact⟨hn,by simpa using hp⟩
theorem yw {k:af} (h:a8 k=true) {f:Nat} (hf:f<k.Machine.Frames.Used.length) (hu:nth k.Machine.Frames.Used f=false) (q:Nat) (hq:q<k.Machine.Table.Entries.length) (hm:(nth k.Machine.Table.Entries q).Mode≠0):(nth k.Machine.Table.Entries q).Frame≠(f:Nat):=by
 obtain⟨h1,h2,h3,h4,h5⟩:=aB.1 h;intro e;have h6:=h4 f hf;rw[hu]at h6;have:=of_decide_eq_false h6.symm;exact this (ed.2 ⟨q,hq,hm,e⟩)
theorem KR {k:af} {p:Int} {f:Nat} (h:a8 k=true) (hp:0<=p/\p<k.Machine.Table.Entries.length) (hm:(nth k.Machine.Table.Entries p.toNat).Mode=0) (hf:f<k.Machine.Frames.Used.length) (hu:nth k.Machine.Frames.Used f=false):a8 (pE k p f)=true:=by
 have hno:=yw h hf hu;obtain⟨h1,h2,h3,h4,h5⟩:=aB.1 h;obtain⟨g1,g2,g3,g4⟩:=aU.1 h2;obtain⟨t1,t2,t3⟩:=bt.1 h3;have hent:∀ q,nth (k.Machine.Table.Entries.set p.toNat ⟨2,(f:Nat)⟩) q=if p.toNat=q then⟨2,(f:Nat)⟩ else nth k.Machine.Table.Entries q:=fun q=>by
  rw[cx];by_cases hq:p.toNat=q
  ·rw[if_pos ⟨hq,by omega⟩,if_pos hq]
  ·rw[if_neg (fun e=>hq e.1),if_neg hq]
 refine aB.2 ⟨h1,aU.2 ⟨g1,g2,by simp only[pE,Z0];exact g3,fun j hj=>?_⟩,bt.2 ⟨fun j hj=>?_,?_,?_⟩,fun j hj=>?_,h5⟩
 ·replace hj:j<k.Machine.Frames.Cells.length:=hj
  show gM (nth k.Machine.Frames.Cells j) (nth (k.Machine.Frames.Used.set f true) j)=true;have h6:=g4 j hj;rw[cx];split
  ·unfold gM at h6 |-
   simp only[I0,C0,z3]at h6 |-;refine⟨h6.1,fun v hv=>?_⟩;have:=h6.2 v hv;unfold ir at this |-;simp only[I0]at this;rw[this.1];rfl
  ·exact h6
 ·simp only[pE,Z0]at hj |-
  rw[hent];split
  ·unfold jQ;rw[C0];simp only;omega
  ·exact t1 j hj
 ·simp only[pE,Z0];exact t2
 ·simp only[pE,Z0];exact t3
 ·simp only[pE,Z0]at hj
  show nth (k.Machine.Frames.Used.set f true) j=_;rw[cx];by_cases e:f=j
  ·subst e
   rw[if_pos ⟨rfl,hj⟩];refine(O0 (ed.2 ⟨p.toNat,?_,?_,?_⟩)).symm
   ·simp only[pE,Z0];omega
   ·simp only[pE,hent,if_pos];decide
   ·simp only[pE,hent,if_pos]
  ·rw[if_neg fun z=>e z.1,h4 j hj]
   refine decide_eq_decide.2 ?_;rw[ed,ed];simp only[pE,Z0,hent];constructor
   ·rintro⟨q,q1,q2,q3⟩
    refine⟨q,q1,?_⟩;rw[if_neg fun z=>q2 (by rw[<-z];exact hm)];exact⟨q2,q3⟩
   ·rintro⟨q,q1,q2,q3⟩
    by_cases z:p.toNat=q
    ·rw[if_pos z]at q3
     simp only at q3;omega
    ·rw[if_neg z]at q2 q3
     exact⟨q,q1,q2,q3⟩
structure zN (k:af) (p:Int) (r:af × Bool):Prop where
 ker:a8 r.1=true
 len:r.1.Machine.Table.Entries.length=k.Machine.Table.Entries.length
 calls:r.1.Calls=k.Calls+1
 ref:r.1.Refuse=k.Refuse
 cells:r.1.Machine.Frames.Cells=k.Machine.Frames.Cells
 no:r.2=false->r.1=dh k
 yes:r.2=true->∃ f:Nat,f<k.Machine.Frames.Used.length/\nth k.Machine.Frames.Used f=false/\(∀ q:Nat,nth r.1.Machine.Table.Entries q=if(q:Int)=p then⟨2,(f:Nat)⟩ else nth k.Machine.Table.Entries q)/\∀ q,q<k.Machine.Table.Entries.length->(nth k.Machine.Table.Entries q).Mode≠0->(nth k.Machine.Table.Entries q).Frame≠(f:Nat)
theorem zN.of {k:af} {p:Int} (h:a8 k=true) (hc:k.Calls≠100000) (hp:0<=p/\p<k.Machine.Table.Entries.length) (hm:(nth k.Machine.Table.Entries p.toNat).Mode=0):zN k p (fB k p):=by
 unfold fB;split
 ·exact⟨kR h hc,rfl,rfl,rfl,rfl,fun _=>rfl,fun e=>by cases e⟩
 ·rename_i hn
  rw[not_or]at hn;obtain⟨f1,f2⟩:=AO hn.2;refine⟨KR (kR h hc) hp hm f1 f2,by simp[pE,dh],rfl,rfl,rfl,fun e=>(by cases e),fun _=>⟨_,f1,f2,fun q=>?_,fun q=>yw h f1 f2 q⟩⟩;simp only[pE,dh,cx];by_cases e:(q:Int)=p
  ·rw[if_pos ⟨by omega,by omega⟩,if_pos e]
  ·rw[if_neg fun z=>e (by omega),if_neg e]
def cr (k:af) (p:Int):Nat->af × Nat
 | 0=>(k,0)
 | i+1=>if(cr k p i).2=i then((fB (cr k p i).1 (p+(i:Nat))).1,if(fB (cr k p i).1 (p+(i:Nat))).2=true then i+1 else i) else cr k p i
structure nu (k:af) (p:Int) (i:Nat) (r:af × Nat):Prop where
 ker:a8 r.1=true
 len:r.1.Machine.Table.Entries.length=k.Machine.Table.Entries.length
 calls:k.Calls<=r.1.Calls/\r.1.Calls<=k.Calls+i
 ref:r.1.Refuse=k.Refuse
 cells:r.1.Machine.Frames.Cells=k.Machine.Frames.Cells
 le:r.2<=i
 out:∀ q:Nat,¬(p<=q/\(q:Int)<p+r.2)->nth r.1.Machine.Table.Entries q=nth k.Machine.Table.Entries q
 new:∀ q:Nat,p<=q->(q:Int)<p+r.2->(nth r.1.Machine.Table.Entries q).Mode=2/\∀ u:Nat,u<k.Machine.Table.Entries.length->(nth r.1.Machine.Table.Entries u).Mode≠0->(nth r.1.Machine.Table.Entries u).Frame=(nth r.1.Machine.Table.Entries q).Frame->u=q
theorem nu.of {k:af} {p:Int} {n:Nat} (h:a8 k=true) (hc:k.Calls+n<=100000) (hp:0<=p/\p+n<=k.Machine.Table.Entries.length) (hm:∀ q:Nat,p<=q->(q:Int)<p+n->(nth k.Machine.Table.Entries q).Mode=0):∀ i,i<=n->nu k p i (cr k p i)
 | 0,_=>⟨h,rfl,⟨Y3 _,by show k.Calls<=k.Calls+((0:Nat):Int);omega⟩,rfl,rfl,I2 _,fun _ _=>rfl,fun q q1 q2=>by simp only[cr]at q2;omega⟩
 | i+1,hi=>by
  have ih:=nu.of h hc hp hm i (by omega);unfold cr;split
  case isFalse=>exact⟨ih.ker,ih.len,⟨ih.calls.1,by have:=ih.calls.2;omega⟩,ih.ref,ih.cells,by have:=ih.le;omega,ih.out,ih.new⟩
  rename_i hr;generalize cr k p i=r at ih hr |-;have hcc:=ih.calls;have hmp:(nth r.1.Machine.Table.Entries (p+(i:Nat)).toNat).Mode=0:=by
   rw[ih.out _ (by omega)];exact hm _ (by omega) (by omega)
  have s:=zN.of (p:=p+(i:Nat)) ih.ker (by omega) ⟨by omega,by rw[ih.len];omega⟩ hmp;generalize fB r.1 (p+(i:Nat))=w at s |-;refine⟨s.ker,s.len.trans ih.len,⟨by simp only[s.calls];omega,by simp only[s.calls];omega⟩,s.ref.trans ih.ref,s.cells.trans ih.cells,by simp only;split<;>omega,fun q hq=>?_,fun q q1 q2=>?_⟩
  ·simp only at hq |-
   cases e:w.2 with
   | false=>
    rw[s.no e];rw[e]at hq;exact ih.out q (by rw[hr];simpa using hq)
   | true=>
    obtain⟨f,-,-,f3,-⟩:=s.yes e;rw[e,if_pos rfl]at hq;rw[f3,if_neg (by omega)];exact ih.out q (by omega)
  ·simp only at q2 |-
   cases e:w.2 with
   | false=>
    rw[s.no e];rw[e]at q2;exact ih.new q q1 (by rw[hr];simpa using q2)
   | true=>
    obtain⟨f,-,-,f3,f4⟩:=s.yes e;rw[e,if_pos rfl]at q2;have hql:q<k.Machine.Table.Entries.length:=by omega
    rw[f3];by_cases eq:(q:Int)=p+(i:Nat)
    ·rw[if_pos eq]
     refine⟨rfl,fun u hu hum huf=>?_⟩;rw[f3]at hum huf;by_cases eu:(u:Int)=p+(i:Nat)
     ·omega
     ·rw[if_neg eu]at hum huf
      exact absurd huf (f4 u (by rw[ih.len];exact hu) hum)
    ·rw[if_neg eq]
     obtain⟨n1,n2⟩:=ih.new q q1 (by omega);refine⟨n1,fun u hu hum huf=>?_⟩;rw[f3]at hum huf;by_cases eu:(u:Int)=p+(i:Nat)
     ·rw[if_pos eu]at huf
      exact absurd huf.symm (f4 q (by rw[ih.len];exact hql) (by rw[n1];decide))
     ·rw[if_neg eu]at hum huf
      exact n2 u hu hum huf
theorem nu.undo {k:af} {p:Int} {i:Nat} {r:af × Nat} (s:nu k p i r) (h:a8 k=true) (hp:0<=p/\p+i<=k.Machine.Table.Entries.length) (hm:∀ q:Nat,p<=q->(q:Int)<p+i->(nth k.Machine.Table.Entries q).Mode=0):a8 (dL r.1 p r.2)=true/\tEq k.Machine.Table (dL r.1 p r.2).Machine.Table:=by
 have hle:=s.le;have he:=lh s.ker hp.1 r.2 (by rw[s.len];omega);refine⟨jY s.ker p r.2,((gY r.1 p r.2).1).trans s.len,fun q=>?_⟩;rw[he];split
 ·rename_i hq
  have h1:=hm q hq.1 (by omega);obtain⟨-,-,h3,-⟩:=aB.1 h;have h4:=(bt.1 h3).1 q (by omega);unfold jQ at h4;rw[C0]at h4;exact⟨⟨fun z=>absurd rfl z,fun z=>absurd h1 z⟩,(h4.2.2.1 h1).symm⟩
 ·rename_i hq
  rw[s.out q hq];exact⟨Iff.rfl,rfl⟩
theorem Pg.add {t t':aE} {fr fr':List a7} {sp sp':List au} {la la':List aA} {p:Int} {n:Nat} (hg:Pg t fr sp la) (hl:t'.Entries.length=t.Entries.length) (hlt:p+n<=t.Entries.length) (hp:0<=p)
  (he:∀ q:Nat,¬(p<=q/\(q:Int)<p+n)->nth t'.Entries q=nth t.Entries q)
  (hnew:∀ q:Nat,p<=q->(q:Int)<p+n->(nth t'.Entries q).Mode=2/\∀ u:Nat,u<t.Entries.length->(nth t'.Entries u).Mode≠0->(nth t'.Entries u).Frame=(nth t'.Entries q).Frame->u=q)
  (hfr:∀ q,RH fr' q↔RH fr q/\¬(p<=q/\q<p+n)) (hm:∀ q,q∈pgs sp' la'↔q∈pgs sp la\/(p<=q/\q<p+n))
  (hsp:∀ s∈sp',0<=s.Page/\(s∈sp\/(p<=s.Page/\s.Page<p+n))) (hla:∀ l∈la',l∈la\/∀ q∈lpgs l l.Pages.toNat,p<=q/\q<p+n):Pg t' fr' sp' la':=by
 have hown:∀ q:Nat,q<t.Entries.length->((nth t'.Entries q).Mode≠0↔(q:Int)∈pgs sp' la'):=fun q hq=>by
  rw[hm];by_cases e:p<=q/\(q:Int)<p+n
  ·have:=(hnew q e.1 e.2).1
   exact⟨fun _=>.inr e,fun _=>by rw[this];decide⟩
  ·rw[he q e,hg.own q hq]
   exact⟨.inl,fun z=>z.resolve_right e⟩
 refine⟨fun l hl' q hq u hu h1 h2=>?_,fun q hq=>?_,fun q hq=>hown q (by rw[<-hl];exact hq),fun q hq=>?_,fun s hs u hu hne hf=>?_⟩
 ·rw[hl]at hu
  have hqm:=eY (sp:=sp') hl' hq;have hqb:q<t.Entries.length:=by
   rcases(hm _).1 hqm with h3|h3
   ·have:=hg.bnd _ h3;omega
   ·omega
  by_cases e:p<=q/\(q:Int)<p+n
  ·exact(hnew q e.1 e.2).2 u hu h1 h2
  ·have hll:=(hla l hl').resolve_right fun h3=>e (h3 _ hq)
   by_cases eu:p<=u/\(u:Int)<p+n
   ·exact((hnew u eu.1 eu.2).2 q hqb ((hown q hqb).2 hqm) h2.symm).symm
   ·rw[he q e,he u eu]at h2
    rw[he u eu]at h1;exact hg.one l hll q hq u hu h1 h2
 ·rw[hl]
  rcases(hm _).1 hq with h3|h3
  ·exact hg.bnd _ h3
  ·omega
 ·rw[hl]at hq
  rw[hfr];by_cases e:p<=q/\(q:Int)<p+n
  ·have:=(hnew q e.1 e.2).1
   exact⟨fun _ z=>z.2 e,fun _=>by rw[this];decide⟩
  ·rw[he q e,hg.fre q hq]
   exact⟨fun z y=>z y.1,fun z y=>z ⟨y,e⟩⟩
 ·obtain⟨s0,s1⟩:=hsp s hs
  obtain⟨u0,u1⟩:=hsp u hu;have hbd:∀ y∈sp',0<=y.Page->y.Page.toNat<t.Entries.length/\((y.Page.toNat:Nat):Int)=y.Page/\(nth t'.Entries y.Page.toNat).Mode≠0:=fun y hy hy0=>by
   have h3:=du (la:=la') hy;have h4:y.Page.toNat<t.Entries.length:=by
    rcases(hm _).1 h3 with h5|h5
    ·have:=hg.bnd _ h5;omega
    ·omega
   exact⟨h4,by omega,(hown _ h4).2 (by rw[show((y.Page.toNat:Nat):Int)=y.Page by omega];exact h3)⟩
  obtain⟨sb,sc,sd⟩:=hbd s hs s0;obtain⟨ub,uc,ud⟩:=hbd u hu u0;by_cases es:p<=s.Page/\s.Page<p+n
  ·have:=(hnew s.Page.toNat (by omega) (by omega)).2 _ ub ud hf.symm
   omega
  ·by_cases eu:p<=u.Page/\u.Page<p+n
   ·have:=(hnew u.Page.toNat (by omega) (by omega)).2 _ sb sd hf
    omega
   ·rw[he _ (by omega),he _ (by omega)]at hf
    exact hg.mesh s (s1.resolve_right es) u (u1.resolve_right eu) hne hf
theorem Dq {sp sp':List au} {la la':List aA} (hs:sp'.Perm sp) (hl:la'.Perm la):(pgs sp' la').Perm (pgs sp la):=by
 unfold pgs;exact(hs.map _).append (hl.flatMap_right _)
def Hk (p:Int) (s:au):Bool:=decide (p<=s.Page)
def Mm (p:Int) (l:aA):Bool:=decide (p<=l.Page)
def addS (h:ab) (k:af) (fr:List a7) (p c:Int):ab:={h with Kernel:=k,Free:=fr,Spans:=iK (Hk p) h.Spans ⟨p,c,0⟩}
theorem ko {h:ab} {E:List Int} (hi:bm h E) {n:Int} (hn:1<=n) (ho:(ay h.Free n).2.2=true):0<=(ay h.Free n).2.1/\(ay h.Free n).2.1+n<=(tbl h).Entries.length/\(∀ q:Nat,(ay h.Free n).2.1<=q->(q:Int)<(ay h.Free n).2.1+n->(nth (tbl h).Entries q).Mode=0)/\∀ q:Int,(ay h.Free n).2.1<=q->q<(ay h.Free n).2.1+n->q∉pgs h.Spans h.Larges:=by
 obtain⟨r1,r2,r3,r4,r5⟩:=lV hi.rng hn ho;have hm:∀ q:Nat,(ay h.Free n).2.1<=q->(q:Int)<(ay h.Free n).2.1+n->(nth (tbl h).Entries q).Mode=0:=fun q q1 q2=>by
  have hql:q<(tbl h).Entries.length:=by
   have:(ay h.Free n).2.1+n<=((tbl h).Entries.length:Nat):=r3;omega
  by_cases e:(nth (tbl h).Entries q).Mode=0
  ·exact e
  ·exact absurd (r5 q q1 q2) ((hi.pg.fre q hql).1 e)
 refine⟨r2,r3,hm,fun q q1 q2 hq=>?_⟩;have hb:=hi.pg.bnd q hq;obtain⟨m,rfl⟩:=Z1 (show 0<=q by omega);have h3:=(hi.pg.own m (by omega)).2 hq;exact h3 (hm m q1 q2)
theorem bm.addS {h:ab} {E:List Int} {c:Int} (hi:bm h E) (hc:0<=c/\c<=3) (ho:(ay h.Free 1).2.2=true) {k:af} (s:zN h.Kernel (ay h.Free 1).2.1 (k,true)):bm (addS h k (ay h.Free 1).1 (ay h.Free 1).2.1 c) E:=by
 obtain⟨r1,r2,r3,r4,r5⟩:=lV hi.rng (Y3 _) ho;obtain⟨-,u2,u3,u4⟩:=ko hi (Y3 _) ho;generalize (ay h.Free 1).2.1=p at r2 r3 r4 r5 u2 u3 u4 s |-;generalize (ay h.Free 1).1=fr at r1 r4 |-;obtain⟨f,f1,f2,f3,f4⟩:=s.yes rfl;have h32:=(bt.1 (aB.1 hi.ker).2.2.1).2.2;change (tbl h).Entries.length<=32 at h32;have hL:=hi.L;have hpi:=jx (Hk p) h.Spans ⟨p,c,0⟩;have hpp:=Dq hpi (List.Perm.refl h.Larges);have hpp':(pgs (iK (Hk p) h.Spans ⟨p,c,0⟩) h.Larges).Perm (p::pgs h.Spans h.Larges):=hpp;have hnp:p∉pgs h.Spans h.Larges:=u4 p (Y3 _) (by omega);have hne:∀ z∈h.Spans,z.Page≠p:=fun z hz e=>hnp (by rw[<-e];exact du hz)
 have hSl:∀ b d,iU (iK (Hk p) h.Spans ⟨p,c,0⟩) b d↔iU h.Spans b d:=fun b d=>by
  constructor
  ·rintro⟨s,hs,h1,h2⟩
   rcases cY.1 hs with rfl|hs
   ·exact absurd h1 (yK rfl b)
   ·exact⟨s,hs,h1,h2⟩
  ·rintro⟨s,hs,h1⟩
   exact⟨s,cY.2 (.inr hs),h1⟩
 exact {hi with
   ker:=s.ker
   rng:=by show bx ((k.Machine.Table.Entries.length:Nat):Int) fr=true;rw[s.len];exact r1
   lay:=by
     obtain⟨l1,l2,l3⟩:=cZ hi.lay;unfold bg;simp only[I0,C0];refine⟨⟨z3.2 fun z hz=>?_,l2⟩,hpp'.nodup_iff.2 (List.nodup_cons.2 ⟨hnp,l3⟩)⟩;rcases cY.1 hz with rfl|hz
     · have hl0:0<=lim c:=by
         have:=(ge hc).1;obtain rfl|rfl|rfl|rfl:c=0\/c=1\/c=2\/c=3:=by omega
         all_goals decide
       exact O0 ⟨r2,by show p<=31;omega,hc.1,hc.2,Y3 _,hl0⟩
     · exact hL.sok z hz
   srs:=ka (f:=fun z:au=>z.Page) (y:=⟨p,c,0⟩) hi.srs hne
   pg:=by
     refine hi.pg.add (p:=p) (n:=1) s.len (by exact u2) r2 (fun q hq=>?_) (fun q q1 q2=>?_) (fun q=>r4 q) (fun q=>?_) (fun z hz=>?_) (fun l hl=>.inl hl)
     · exact(f3 q).trans (if_neg (by omega))
     · have hq:(q:Int)=p:=by omega
       have fq:nth k.Machine.Table.Entries q = ⟨2,(f:Nat)⟩:=(f3 q).trans (if_pos hq);refine⟨R0 bj.Mode fq,fun u hu hum huf=>?_⟩;have fu:nth k.Machine.Table.Entries u=if(u:Int)=p then⟨2,(f:Nat)⟩ else nth h.Kernel.Machine.Table.Entries u:=f3 u
       change (nth k.Machine.Table.Entries u).Mode≠0 at hum;change (nth k.Machine.Table.Entries u).Frame=(nth k.Machine.Table.Entries q).Frame at huf;rw[fu]at hum huf;rw[fq]at huf;by_cases eu:(u:Int)=p
       · omega
       · rw[if_neg eu]at hum huf
         exact absurd huf (f4 u hu hum)
     · show q∈pgs (iK (Hk p) h.Spans ⟨p,c,0⟩) h.Larges↔_
       rw[hpp'.mem_iff,List.mem_cons];constructor
       · rintro(e|e)
         · exact .inr ⟨by omega,by omega⟩
         · exact .inl e
       · rintro(e|e)
         · exact .inr e
         · exact .inl (by omega)
     · rcases cY.1 hz with rfl|hz
       · exact⟨r2,.inr ⟨Y3 _,by show p<p+((1:Nat):Int);omega⟩⟩
       · exact⟨(aG (hL.sok z hz)).1,.inl hz⟩
   oow:=fun o ho=>by
     rcases hi.oow o ho with⟨z,hz,h1,h2⟩|h1
     · exact .inl ⟨z,cY.2 (.inr hz),h1,h2⟩
     · exact .inr h1
   hca:=fun d hd j hj b hb=>(hSl b j).2 (hi.hca d hd j hj b hb)
   hqu:=fun y hy=>(hSl _ _).2 (hi.hqu y hy)
   hfl:=fun b hb=>(hSl _ _).2 (hi.hfl b hb)
   hin:=fun b hb=>(hSl _ _).2 (hi.hin b hb)
   mem:=fun b=>(hi.mem b).trans (by
     show lw h.Spans h.Larges b↔lw (iK (Hk p) h.Spans ⟨p,c,0⟩) h.Larges b;unfold lw;rw[hSl])
   job:=fun hm=>by
     obtain⟨j1,⟨y,hy,e1⟩,⟨u,hu,e2⟩⟩:=hi.job hm;exact⟨j1,⟨y,cY.2 (.inr hy),e1⟩,⟨u,cY.2 (.inr hu),e2⟩⟩}
def addL (h:ab) (k:af) (fr:List a7) (p n size t:Int):ab:={h with Kernel:=k,Free:=fr,Larges:=iK (Mm p) h.Larges ⟨p,n,size⟩,Objs:=iK (KH (16*p)) h.Objs ⟨h.Next,16*p,size,t⟩,Next:=h.Next+1}
theorem bm.addL {h:ab} {E:List Int} {size t:Int} {n:Nat} (hi:bm h E) (hz:9<=size/\size<=1000) (hnz:(n:Int)=(size+15) / 16) (ho:(ay h.Free n).2.2=true) {k:af} (s:nu h.Kernel (ay h.Free n).2.1 n (k,n)) (hn:h.Next<1000000) (ht:0<=t/\t<=h.Caches.length - 1) :
  bm (addL h k (ay h.Free n).1 (ay h.Free n).2.1 n size t) E:=by
 have hn1:(1:Int)<=n:=by omega
 obtain⟨r1,r2,r3,r4,r5⟩:=lV hi.rng hn1 ho;obtain⟨-,u2,u3,u4⟩:=ko hi hn1 ho;generalize (ay h.Free n).2.1=p at r2 r3 r4 r5 u2 u3 u4 s |-;generalize (ay h.Free n).1=fr at r1 r4 |-;have h32:=(bt.1 (aB.1 hi.ker).2.2.1).2.2;change (tbl h).Entries.length<=32 at h32;have hL:=hi.L;have hpi:=jx (Mm p) h.Larges ⟨p,n,size⟩;have hpo:=jx (KH (16*p)) h.Objs ⟨h.Next,16*p,size,t⟩;have hlp:lpgs ⟨p,n,size⟩ ((n:Nat):Int).toNat=lpgs ⟨p,n,size⟩ n:=by rw[W1]
 have hpp:(pgs h.Spans (iK (Mm p) h.Larges ⟨p,n,size⟩)).Perm (lpgs ⟨p,n,size⟩ n++pgs h.Spans h.Larges):=by
  refine(Dq (List.Perm.refl h.Spans) hpi).trans ?_;unfold pgs;rw[List.flatMap_cons];simp only[hlp];rw[<-List.append_assoc,<-List.append_assoc];exact List.perm_append_comm.append_right _
 have hlm:∀ q,q∈lpgs ⟨p,n,size⟩ n↔p<=q/\q<p+n:=fun q=>by
  rw[dc];constructor
  ·rintro⟨j,hj,rfl⟩;exact⟨by show p<=p+(j:Int);omega,by show p+(j:Int)<_;omega⟩
  ·rintro⟨q1,q2⟩;exact⟨(q - p).toNat,by omega,by show q=p+_;omega⟩
 have hln:(lpgs ⟨p,n,size⟩ n).Nodup:=by
  unfold lpgs List.Nodup;rw[List.pairwise_map];exact List.nodup_range.imp fun hne e=>hne (by simp only at e;omega)
 have hne:∀ z∈h.Larges,z.Page≠p:=fun z hz e=>u4 p (Y3 _) (by omega) (by rw[<-e];exact eY hz (dc.2 ⟨0,by have:=aV (hL.lok z hz);omega,by omega⟩))
 have hnl:¬lw h.Spans h.Larges (16*p):=by
  rintro(⟨z,hz,h1,-⟩|⟨l,hl,e⟩)
  ·exact u4 p (Y3 _) (by omega) (by rw[show p=z.Page by have a1:=h1.1;have a2:=h1.2.1;omega];exact du hz)
  ·exact hne l hl (by omega)
 have hna:(16*p)∉E++holders h:=fun hm=>hnl ((hi.mem _).1 hm)
 have hno:∀ o∈h.Objs,o.Addr≠16*p:=fun o ho e=>hna (C2.2 (.inr (by unfold holders;simp only[C2];exact .inl (.inl (.inl (P3.2 ⟨o,ho,e⟩))))))
 have hp:(E++holders (Ab.addL h k fr p n size t)).Perm ((16*p)::(E++holders h)):=by
  have h0:=hpo.map (·.Addr);refine List.perm_iff_count.2 fun b=>?_
  have h1:=h0.count_eq b;simp only[List.map_cons,List.count_cons]at h1;simp only[holders,ch,Ab.addL,List.count_append,List.count_cons];omega
 exact {hi with
   ker:=s.ker
   rng:=by show bx ((k.Machine.Table.Entries.length:Nat):Int) fr=true;rw[s.len];exact r1
   lay:=by
     obtain⟨l1,l2,l3⟩:=cZ hi.lay;unfold bg;simp only[I0,C0];refine⟨⟨l1,z3.2 fun z hz'=>?_⟩,hpp.nodup_iff.2 (List.nodup_append.2 ⟨hln,l3,fun q hq b hb e=>?_⟩)⟩
     · rcases cY.1 hz' with rfl|hz'
       · exact O0 ⟨hz.1,hz.2,hnz,r2,by show p<=32 - (n:Int);omega⟩
       · exact hL.lok z hz'
     · subst e
       have:=(hlm q).1 hq;exact u4 q this.1 this.2 hb
   srl:=ka (f:=fun z:aA=>z.Page) (y:=⟨p,n,size⟩) hi.srl hne
   pg:=by
     refine hi.pg.add (p:=p) (n:=n) s.len (by exact u2) r2 (fun q hq=>s.out q hq) (fun q q1 q2=>s.new q q1 q2) (fun q=>r4 q) (fun q=>?_) (fun z hz=>⟨(aG (hL.sok z hz)).1,.inl hz⟩) (fun l hl=>?_)
     · show q∈pgs h.Spans (iK (Mm p) h.Larges ⟨p,n,size⟩)↔_
       rw[hpp.mem_iff,C2,hlm];exact Or.comm
     · rcases cY.1 hl with rfl|hl
       · exact .inr fun q hq=>(hlm q).1 (by simpa using hq)
       · exact .inl hl
   nums:=yE hi.nums hn
   osr:=ka (f:=fun o:bO=>o.Addr) (y:=⟨h.Next,16*p,size,t⟩) hi.osr hno
   onu:=fun o ho=>by
     rcases cY.1 ho with rfl|ho
     · have:=hi.nums
       unfold bU at this;rw[C0]at this;exact⟨by show 1<=h.Next;omega,by show h.Next<=h.Next+1 - 1;omega,ht⟩
     · have:=hi.onu o ho
       exact⟨this.1,by show o.Id<=h.Next+1 - 1;omega,this.2.2⟩
   oid:=by
     show((iK (KH (16*p)) h.Objs ⟨h.Next,16*p,size,t⟩).map (·.Id)).Nodup;rw[(hpo.map _).nodup_iff,List.map_cons];refine List.nodup_cons.2 ⟨fun hm=>?_,hi.oid⟩;obtain⟨o,ho,e⟩:=P3.1 hm;have:=(hi.onu o ho).2.1;simp only at e;omega
   oow:=fun o ho'=>by
     rcases cY.1 ho' with rfl|ho'
     · exact .inr ⟨_,cY.2 (.inl rfl),rfl,rfl⟩
     · rcases hi.oow o ho' with h1|⟨l,hl,h1⟩
       · exact .inl h1
       · exact .inr ⟨l,cY.2 (.inr hl),h1⟩
   nd:=hp.nodup_iff.2 (List.nodup_cons.2 ⟨hna,hi.nd⟩)
   mem:=fun b=>by
     rw[hp.mem_iff,List.mem_cons,hi.mem b];show _↔lw h.Spans (iK (Mm p) h.Larges ⟨p,n,size⟩) b;unfold lw;constructor
     · rintro(rfl|h1|⟨l,hl,e⟩)
       · exact .inr ⟨_,cY.2 (.inl rfl),rfl⟩
       · exact .inl h1
       · exact .inr ⟨l,cY.2 (.inr hl),e⟩
     · rintro(h1|⟨l,hl,e⟩)
       · exact .inr (.inl h1)
       · rcases cY.1 hl with rfl|hl
         · exact .inl e
         · exact .inr (.inr ⟨l,hl,e⟩)}
structure JK (h h':ab):Prop where
 job:h'.Job=h.Job
 msh:h'.Meshing=h.Meshing
 sp:∀ s∈h.Spans,gv h s.Page=true->∃ s'∈h'.Spans,s'.Page=s.Page/\∀ u,meshable s u=true->meshable s' u=true
 ent:∀ q:Nat,(nth (tbl h').Entries q).Mode≠0->((nth (tbl h).Entries q).Mode≠0/\(nth (tbl h').Entries q).Frame=(nth (tbl h).Entries q).Frame)\/∀ u:Nat,(nth (tbl h').Entries u).Mode≠0->(nth (tbl h').Entries u).Frame=(nth (tbl h').Entries q).Frame->u=q
theorem JK.refl (h:ab):JK h h:=⟨rfl,rfl,fun s hs _=>⟨s,hs,rfl,fun _ z=>z⟩,fun _ hq=>.inl ⟨hq,rfl⟩⟩
theorem JK.pg {h h':ab} (k:JK h h') (p:Int):gv h' p=gv h p:=by unfold gv;rw[k.job,k.msh]
theorem JK.trans {h h1 h2:ab} (a:JK h h1) (b:JK h1 h2):JK h h2:=by
 refine⟨b.job.trans a.job,b.msh.trans a.msh,fun s hs hj=>?_,fun q hq=>?_⟩
 ·obtain⟨s1,g1,g2,g3⟩:=a.sp s hs hj
  obtain⟨s2,k1,k2,k3⟩:=b.sp s1 g1 (by rw[a.pg,g2];exact hj);exact⟨s2,k1,k2.trans g2,fun u hu=>k3 u (g3 u hu)⟩
 ·rcases b.ent q hq with⟨b1,b2⟩|b1
  ·rcases a.ent q b1 with⟨a1,a2⟩|a1
   ·exact .inl ⟨a1,b2.trans a2⟩
   ·refine .inr fun u hu hf=>?_
    rcases b.ent u hu with⟨c1,c2⟩|c1
    ·exact a1 u c1 (by rw[<-c2,<-b2];exact hf)
    ·exact(c1 q hq hf.symm).symm
  ·exact .inr b1
theorem ny.keep {h h':ab} {p:Int} (hp0:0<=p) (hm:(nth (tbl h').Entries p.toNat).Mode≠0) (hs:ny (tbl h) p) (k:JK h h'):ny (tbl h') p:=fun q h1 h2=>by
 rcases k.ent p.toNat hm with⟨a1,a2⟩|a
 ·rcases k.ent q h1 with⟨b1,b2⟩|b
  ·exact hs q b1 (by rw[<-b2,h2,a2])
  ·have:=b p.toNat hm h2.symm;omega
 ·have:=a q h1 h2;omega
theorem bm.mapped {h:ab} {E:List Int} (hi:bm h E) {s:au} (hs:s∈h.Spans):0<=s.Page/\s.Page<(tbl h).Entries.length/\(nth (tbl h).Entries s.Page.toNat).Mode≠0:=by
 have h0:=(aG (hi.L.sok s hs)).1;have h1:=hi.pg.bnd _ (du (la:=h.Larges) hs);refine⟨h0,h1,(hi.pg.own s.Page.toNat (by omega)).2 ?_⟩;rw[show((s.Page.toNat:Nat):Int)=s.Page by omega];exact du hs
theorem JI.keep {h h':ab} {E:List Int} (hj:JI h) (hi:bm h' E) (k:JK h h'):JI h':=by
 have hsp:h.Meshing=true->∃ a∈h'.Spans,∃ b∈h'.Spans,a.Page=h.Job.Plan.Keep/\b.Page=h.Job.Plan.Move/\meshable a b=true:=fun hm=>by
  obtain⟨a,ha,b,hb,ea,eb,hab⟩:=hj.sp hm;obtain⟨a',a1,a2,a3⟩:=k.sp a ha (by unfold gv;rw[hm,ea];simp);obtain⟨b',b1,b2,b3⟩:=k.sp b hb (by unfold gv;rw[hm,eb];simp);refine⟨a',a1,b',b1,a2.trans ea,b2.trans eb,?_⟩;have h1:=a3 b hab;rw[iv]at h1 |-;exact b3 a' h1
 refine⟨fun hm=>?_,fun hm=>?_,fun hm=>?_,fun hm=>?_⟩
 ·rw[k.msh]at hm;rw[k.job];exact hj.ph hm
 ·rw[k.msh]at hm;rw[k.job];exact hsp hm
 ·rw[k.msh]at hm
  obtain⟨a,ha,b,hb,ea,eb,hab⟩:=hsp hm;obtain⟨m1,m2,m3⟩:=hi.mapped ha;rw[k.job];rw[ea]at m1 m3;exact(hj.sk hm).keep m1 m3 k
 ·rw[k.msh]at hm
  obtain⟨a,ha,b,hb,ea,eb,hab⟩:=hsp hm;obtain⟨m1,m2,m3⟩:=hi.mapped hb;rw[k.job];rw[eb]at m1 m3;exact(hj.sm hm).keep m1 m3 k
theorem JK.less {h h':ab} (h1:h'.Job=h.Job) (h2:h'.Meshing=h.Meshing) (h3:h'.Spans=h.Spans) (h4:∀ q:Nat,(nth (tbl h').Entries q).Mode≠0->nth (tbl h').Entries q=nth (tbl h).Entries q):JK h h':=
 ⟨h1,h2,fun s hs _=>⟨s,by rw[h3];exact hs,rfl,fun _ z=>z⟩,fun q hq=>.inl ⟨by rw[<-h4 q hq];exact hq,by rw[h4 q hq]⟩⟩
theorem JK.eq {h h':ab} (h1:h'.Job=h.Job) (h2:h'.Meshing=h.Meshing) (h3:h'.Spans=h.Spans) (h4:tbl h'=tbl h):JK h h':=.less h1 h2 h3 fun q _=>by rw[h4]
theorem JK.clrS {h:ab} {E:List Int} {a:Int} {i:Nat} (hi:bm h E) (li:i<h.Spans.length) (ha:eP (nth h.Spans i) a):JK h (clrS h i a):=by
 refine⟨rfl,rfl,fun s hs _=>?_,fun q hq=>.inl ⟨hq,rfl⟩⟩;obtain⟨j,hj,rfl⟩:=bc hs;by_cases e:j=i
 ·subst e
  have hok:=hi.L.sok _ (am li);exact⟨_,ij _ li,rfl,fun u hu=>rE hok (rC hok ⟨ha.1,ha.2.1⟩) hu⟩
 ·exact⟨_,iP _ hj e,rfl,fun _ z=>z⟩
theorem JK.giveP {h:ab} {E:List Int} {i:Nat} (hi:bm h E) (li:i<h.Spans.length) (hno:gv h (nth h.Spans i).Page=false):JK h (giveP h i):=by
 obtain⟨m1,m2,-⟩:=hi.mapped (am li);refine⟨rfl,rfl,fun s hs hjp=>?_,fun q hq=>.inl ?_⟩
 ·obtain⟨j,hj,rfl⟩:=bc hs
  exact⟨_,dU.2 ⟨j,hj,fun e=>(by subst e;rw[hno]at hjp;cases hjp),rfl⟩,rfl,fun _ z=>z⟩
 ·have he:=pu hi.ker (p:=(nth h.Spans i).Page) ⟨m1,m2⟩ q
  change (nth (bZ h.Kernel (nth h.Spans i).Page).Machine.Table.Entries q).Mode≠0 at hq;show(nth h.Kernel.Machine.Table.Entries q).Mode≠0/\(nth (bZ h.Kernel (nth h.Spans i).Page).Machine.Table.Entries q).Frame=(nth h.Kernel.Machine.Table.Entries q).Frame;rw[he]at hq |-;split at hq
  ·exact absurd rfl hq
  ·rename_i e
   rw[if_neg e];exact⟨hq,rfl⟩
theorem JK.freeS {h:ab} {E:List Int} {a:Int} {i:Nat} (hi:bm h (a::E)) (li:i<h.Spans.length) (ha:eP (nth h.Spans i) a):JK h (freeS h i a):=by
 have h1:=hi.give li ha;have k1:=JK.clrS hi li ha;unfold Ab.freeS;split
 ·rename_i e
  have hn:nth (Ab.clrS h i a).Spans i=lK (nth h.Spans i) (dN (nth h.Spans i) a):=by unfold Ab.clrS;simp only[cx,true_and];rw[if_pos li]
  exact k1.trans (JK.giveP (h:=Ab.clrS h i a) h1 (by unfold Ab.clrS;simp only[Z0];exact li) (by rw[hn];exact e.2))
 ·exact k1
theorem JK.freeA {h:ab} {E:List Int} {a:Int} (hi:bm h (a::E)):JK h (freeA h a):=by
 obtain⟨h1,h2,-⟩:=hi.at (hi.hin a (I1 ..));exact JK.freeS hi h1 h2
theorem JK.recyc {h:ab} {E:List Int} {a:Int} {t:Nat} (hi:bm h (a::E)):JK h (recyc t h a):=by
 unfold Ab.recyc;split
 ·exact JK.eq rfl rfl rfl rfl
 ·exact JK.freeA hi
theorem JK.recycs {t:Nat} {E:List Int} : ∀ {az:List Int} {h:ab},bm h (az++E)->t<h.Caches.length->JK h (recycs t h az)
 | [],h,_,_=>JK.refl h
 | a::az,h,hi,ht=>(JK.recyc (t:=t) hi).trans (JK.recycs (az:=az) (h:=Ab.recyc t h a) (hi.recyc ht) (by rw[(pM t h a).1];exact ht))
theorem JK.freeAs {E:List Int} : ∀ {az:List Int} {h:ab},bm h (az++E)->JK h (freeAs h az)
 | [],h,_=>JK.refl h
 | a::az,h,hi=>(JK.freeA hi).trans (JK.freeAs (az:=az) (h:=Ab.freeA h a) hi.freeA)
theorem JK.flushN {t:Nat} {h:ab} (hi:bm h []) (ht:t<h.Caches.length):∀ {k:Nat},k<=4->JK h (flushN t h k).1
 | 0,_=>JK.refl h
 | k+1,hk=>by
  obtain⟨h1,h2,-⟩:=jG hi ht (k:=k) (by omega);have ht':t<(Ab.flushN t h k).1.Caches.length:=by omega
  have hk':k<(nth (Ab.flushN t h k).1.Caches t).Lists.length:=by rw[(dY (h1.cach _ (am ht'))).1];omega
  exact JK.trans (h1:=Ab.spilt (Ab.flushN t h k).1 t k) ((JK.flushN hi ht (k:=k) (by omega)).trans (JK.eq rfl rfl rfl rfl)) (JK.freeAs (h1.spilt ht' hk'))
theorem zl {h:ab} {E:List Int} (hi:bm h E) {k:Nat} (lk:k<h.Larges.length):0<=(nth h.Larges k).Page/\(nth h.Larges k).Page+((nth h.Larges k).Pages.toNat:Nat)<=(tbl h).Entries.length:=by
 have h1:=aV (hi.L.lok _ (am lk));have h2:=hi.pg.bnd _ (eY (sp:=h.Spans) (am lk) (dc.2 ⟨(nth h.Larges k).Pages.toNat - 1,by omega,rfl⟩));exact⟨by omega,by omega⟩
theorem JK.freeL {h:ab} {E:List Int} {i k:Nat} (hi:bm h E) (lk:k<h.Larges.length):JK h (freeL h i k):=by
 obtain⟨b1,b2⟩:=zl hi lk;refine JK.less rfl rfl rfl fun q hq=>?_
 have he:=lh hi.ker b1 (nth h.Larges k).Pages.toNat b2 q;change (nth (dL h.Kernel (nth h.Larges k).Page (nth h.Larges k).Pages.toNat).Machine.Table.Entries q).Mode≠0 at hq;show nth (dL h.Kernel (nth h.Larges k).Page (nth h.Larges k).Pages.toNat).Machine.Table.Entries q=nth h.Kernel.Machine.Table.Entries q;rw[he]at hq |-;split at hq
 ·exact absurd rfl hq
 ·rename_i e;rw[if_neg e]
theorem JK.freeOb {h:ab} {t i:Nat} (hi:bm h []) (li:i<h.Objs.length) (ht:t<h.Caches.length):JK h (freeOb h t i).1:=by
 unfold Ab.freeOb;split
 ·rename_i hc
  obtain⟨l,hl,h1,-⟩:=(eR hi (am li)).1 hc;exact JK.freeL hi (Aa hl h1).1
 ·rename_i hc
  split
  ·exact JK.refl h
  ·have h1:=hi.inQuar li hc
   exact JK.trans (h1:=Ab.inQuar h i) (JK.eq rfl rfl rfl rfl) (JK.recycs (E:=[]) (by rw[List.append_nil];exact h1) ht)
theorem JK.take {h:ab} {i:Nat} {k sd:Int} (hno:gv h (nth h.Spans i).Page=false):JK h {h with Seed:=sd,Spans:=h.Spans.set i (pB (nth h.Spans i) k)}:=by
 refine⟨rfl,rfl,fun s hs hjp=>?_,fun q hq=>.inl ⟨hq,rfl⟩⟩;obtain⟨j,hj,rfl⟩:=bc hs;exact⟨_,iP _ hj fun e=>(by subst e;rw[hno]at hjp;cases hjp),rfl,fun _ z=>z⟩
theorem Ac {t:aE} {q:Nat} (h:(nth t.Entries q).Mode≠0):q<t.Entries.length:=by
 by_cases e:q<t.Entries.length
 ·exact e
 ·exfalso
  apply h;unfold nth;rw[V1,U1 (by omega)]
  rfl
theorem JK.addS {h:ab} {k:af} {fr:List a7} {p c:Int} (s:zN h.Kernel p (k,true)):JK h (addS h k fr p c):=by
 obtain⟨f,f1,f2,f3,f4⟩:=s.yes rfl;have hlen:k.Machine.Table.Entries.length=h.Kernel.Machine.Table.Entries.length:=s.len;refine⟨rfl,rfl,fun z hz _=>⟨z,cY.2 (.inr hz),rfl,fun _ y=>y⟩,fun q hq=>?_⟩;change (nth k.Machine.Table.Entries q).Mode≠0 at hq;show((nth h.Kernel.Machine.Table.Entries q).Mode≠0/\(nth k.Machine.Table.Entries q).Frame=(nth h.Kernel.Machine.Table.Entries q).Frame)\/∀ u:Nat,(nth k.Machine.Table.Entries u).Mode≠0->(nth k.Machine.Table.Entries u).Frame=(nth k.Machine.Table.Entries q).Frame->u=q
 by_cases e:(q:Int)=p
 ·refine .inr fun u hu huf=>?_
  have hul:=Ac hu;have f3u:=f3 u;have f3q:=f3 q;simp only at f3u f3q;rw[if_pos e]at f3q;rw[f3q]at huf;by_cases eu:(u:Int)=p
  ·omega
  ·rw[if_neg eu]at f3u
   rw[f3u]at hu huf;exact absurd huf (f4 u (by rw[<-hlen];exact hul) hu)
 ·have f3q:=f3 q
  simp only at f3q;rw[if_neg e]at f3q;rw[f3q]at hq |-;exact .inl ⟨hq,rfl⟩
theorem JK.addL {h:ab} {k:af} {fr:List a7} {p size t:Int} {n:Nat} (s:nu h.Kernel p n (k,n)):JK h (addL h k fr p n size t):=by
 have hlen:k.Machine.Table.Entries.length=h.Kernel.Machine.Table.Entries.length:=s.len;refine⟨rfl,rfl,fun z hz _=>⟨z,hz,rfl,fun _ y=>y⟩,fun q hq=>?_⟩;change (nth k.Machine.Table.Entries q).Mode≠0 at hq;show((nth h.Kernel.Machine.Table.Entries q).Mode≠0/\(nth k.Machine.Table.Entries q).Frame=(nth h.Kernel.Machine.Table.Entries q).Frame)\/∀ u:Nat,(nth k.Machine.Table.Entries u).Mode≠0->(nth k.Machine.Table.Entries u).Frame=(nth k.Machine.Table.Entries q).Frame->u=q
 by_cases e:p<=q/\(q:Int)<p+n
 ·exact .inr fun u hu huf=>(s.new q e.1 e.2).2 u (by rw[<-hlen];exact Ac hu) hu huf
 ·have h3:=s.out q e
  simp only at h3;rw[h3]at hq |-;exact .inl ⟨hq,rfl⟩
theorem rc (h:ab):∀ {n:Nat},n<=h.Spans.length->∀ s∈kr h n,(aS h s.Page).length=1
 | 0,_,s,hs=>by cases hs
 | n+1,hn,s,hs=>by
  unfold kr at hs;split at hs
  ·rename_i e
   rcases C2.1 hs with hs|hs
   ·exact rc h (by omega) s hs
   ·unfold yk at e
    simp only[I0,C0]at e;rw[X0.1 hs];exact e.2
  ·exact rc h (by omega) s hs
theorem bm.sole {h:ab} {E:List Int} (hi:bm h E) {s:au} (hs:s∈h.Spans) (h1:(aS h s.Page).length=1):ny (tbl h) s.Page:=fun q hq hf=>by
 obtain⟨m1,m2,m3⟩:=hi.mapped hs;have hp:s.Page=((s.Page.toNat:Nat):Int):=by omega
 rw[hp,ef (by show s.Page.toNat<(tbl h).Entries.length;omega) m3]at h1;obtain⟨z,hz⟩:=List.length_eq_one_iff.1 h1;have g1:(s.Page.toNat:Int)∈pagesOn (tbl h) (nth (tbl h).Entries s.Page.toNat).Frame:=dx.2 ⟨by omega,m3,rfl⟩;have g2:(q:Int)∈pagesOn (tbl h) (nth (tbl h).Entries s.Page.toNat).Frame:=dx.2 ⟨Ac hq,hq,hf⟩;rw[hz]at g1 g2;simp only[X0]at g1 g2;omega
theorem EC {h:ab} (hi:bm h []) (hm:h.Meshing=false):bm (started h).1 []/\JI (started h).1:=by
 have hn:=hi.nums;unfold bU at hn;rw[C0]at hn;have hsd:=(lg (bL h).length (show 0<=h.Seed/\h.Seed<=1073741823 by omega) ((bL h).length - 1)).2;have hpo:=pD (bL h) (show 0<=h.Seed/\h.Seed<=1073741823 by omega);have hnum:bU {h with Seed:=(shuf (bL h).length h.Seed).2} = true:=by
  unfold bU;rw[C0];unfold shuf;simp only;omega
 cases hp:lP (bL h) h.Seed with
 | nil=>
  have hst:Ab.started h=({h with Seed:=(shuf (bL h).length h.Seed).2},false):=by unfold Ab.started;rw[hp]
  rw[hst];exact⟨{hi with nums:=hnum},⟨fun e=>by simp[hm]at e,fun e=>by simp[hm]at e,fun e=>by simp[hm]at e,fun e=>by simp[hm]at e⟩⟩
 | cons q qs=>
  obtain⟨k1,k2,k3⟩:=hpo q (by rw[hp];exact I1 ..);have hst:Ab.started h=({h with Seed:=(shuf (bL h).length h.Seed).2,Meshing:=true,Job:=vm (d2 (nth (bL h) q.A.toNat) (nth (bL h) q.B.toNat))},true):=by unfold Ab.started;rw[hp]
  rw[hst];have hmem:∀ s∈bL h,s∈h.Spans/\ny (tbl h) s.Page:=fun s hs=>by
   have h1:=List.mem_of_mem_take hs;have h2:=o7 h (I2 _) s h1;exact⟨h2,hi.sole h2 (rc h (I2 _) s h1)⟩
  have ha:=hmem _ (am (xs:=bL h) (i:=q.A.toNat) (by omega));have hb:=hmem _ (am (xs:=bL h) (i:=q.B.toNat) (by omega));generalize nth (bL h) q.A.toNat=a at k3 ha |-;generalize nth (bL h) q.B.toNat=b at k3 hb |-;obtain⟨p1,p2,p3⟩:=rQ k3;have hpl:(d2 a b).Keep=a.Page/\(d2 a b).Move=b.Page\/(d2 a b).Keep=b.Page/\(d2 a b).Move=a.Page:=by
   unfold d2;split
   ·exact .inr ⟨rfl,rfl⟩
   ·exact .inl ⟨rfl,rfl⟩
  have hjo:iR (vm (d2 a b))=true:=fj.2 ⟨p1,by show(0:Int)<=0;omega,by show(0:Int)<=5;omega,by show(0:Int)<=0;omega,by show(0:Int)<=(((d2 a b).Cells.length:Nat):Int);omega⟩;have hsp:∃ x∈h.Spans,∃ y∈h.Spans,x.Page=(d2 a b).Keep/\y.Page=(d2 a b).Move/\meshable x y=true/\ny (tbl h) x.Page/\ny (tbl h) y.Page:=by
   rcases hpl with⟨e1,e2⟩|⟨e1,e2⟩
   ·exact⟨a,ha.1,b,hb.1,e1.symm,e2.symm,k3,ha.2,hb.2⟩
   ·exact⟨b,hb.1,a,ha.1,e1.symm,e2.symm,by rw[iv];exact k3,hb.2,ha.2⟩
  obtain⟨x,hx,y,hy,ex,ey,hxy,sx,sy⟩:=hsp;exact⟨{hi with nums:=hnum,job:=fun _=>⟨hjo,⟨x,hx,ex⟩,⟨y,hy,ey⟩⟩,noj:=fun e=>by cases e},⟨fun _=>⟨by show(0:Int)<=0;omega,by show(0:Int)<=3;omega⟩,fun _=>⟨x,hx,y,hy,ex,ey,hxy⟩,fun _=>by show ny (tbl h) (d2 a b).Keep;rw[<-ex];exact sx,fun _=>by show ny (tbl h) (d2 a b).Move;rw[<-ey];exact sy⟩⟩
def fx (m:aH) (f:Nat):aH:=⟨m.Buffers.set f ((nth m.Buffers f).drop 1),m.Inbox.set (nth (nth m.Buffers f) 0).To.toNat (nth m.Inbox (nth (nth m.Buffers f) 0).To.toNat++[(nth (nth m.Buffers f) 0).Addr])⟩
def ku (m:aH) (t:Nat):aH:=⟨m.Buffers,m.Inbox.set t []⟩
def gp (m:aH) (f:Nat) (p:cS):aH:=⟨m.Buffers.set f (nth m.Buffers f++[p]),m.Inbox⟩
theorem d4 {m:aH} : bC m=true↔(1<=m.Buffers.length/\m.Buffers.length<=4/\m.Inbox.length=m.Buffers.length)/\(∀ i,i<m.Buffers.length->(∀ p∈nth m.Buffers i,0<=p.To/\p.To<=(m.Buffers.length:Int) - 1/\0<=p.Addr)/\∀ a∈nth m.Inbox i,0<=a)/\bo m m.Buffers.length<=30:=by
 unfold bC;simp only[I0,C0,cn,gg,z3,lW,KX];exact and_assoc
theorem mJ (m:aH) (f t:Nat) (x:List cS) (y:List Int) (hf:f<m.Buffers.length) (ht:t<m.Inbox.length):∀ n:Nat,bo ⟨m.Buffers.set f x,m.Inbox.set t y⟩ n=bo m n+(if f<n then(x.length:Int) - ((nth m.Buffers f).length:Nat) else 0)+(if t<n then(y.length:Int) - ((nth m.Inbox t).length:Nat) else 0)
 | 0=>by simp[bo]
 | n+1=>by
  have ih:=mJ m f t x y hf ht n;have e1:(nth (m.Buffers.set f x) n).length=if f=n then x.length else(nth m.Buffers n).length:=by
   rw[cx];by_cases e:f=n
   ·rw[if_pos ⟨e,by omega⟩,if_pos e]
   ·rw[if_neg fun z=>e z.1,if_neg e]
  have e2:(nth (m.Inbox.set t y) n).length=if t=n then y.length else(nth m.Inbox n).length:=by
   rw[cx];by_cases e:t=n
   ·rw[if_pos ⟨e,by omega⟩,if_pos e]
   ·rw[if_neg fun z=>e z.1,if_neg e]
  simp only[bo,ih,e1,e2];by_cases g1:f=n
  ·subst g1
   by_cases g2:t=f
   ·subst g2
    simp only[if_true,Nat.lt_irrefl,if_false,Nat.lt_succ_self];omega
   ·simp only[if_true,Nat.lt_irrefl,if_false,Nat.lt_succ_self,if_neg g2]
    by_cases g3:t<f
    ·rw[if_pos g3,if_pos (show t<f+1 by omega)];omega
    ·rw[if_neg g3,if_neg (show ¬t<f+1 by omega)];omega
  ·by_cases g2:t=n
   ·subst g2
    simp only[if_true,Nat.lt_irrefl,if_false,Nat.lt_succ_self,if_neg g1];by_cases g3:f<t
    ·rw[if_pos g3,if_pos (show f<t+1 by omega)];omega
    ·rw[if_neg g3,if_neg (show ¬f<t+1 by omega)];omega
   ·simp only[if_neg g1,if_neg g2]
    by_cases g3:f<n
    ·rw[if_pos g3,if_pos (show f<n+1 by omega)]
     by_cases g4:t<n
     ·rw[if_pos g4,if_pos (show t<n+1 by omega)];omega
     ·rw[if_neg g4,if_neg (show ¬t<n+1 by omega)];omega
    ·rw[if_neg g3,if_neg (show ¬f<n+1 by omega)]
     by_cases g4:t<n
     ·rw[if_pos g4,if_pos (show t<n+1 by omega)];omega
     ·rw[if_neg g4,if_neg (show ¬t<n+1 by omega)];omega
theorem Ly {α:Type} [Inhabited α] {xs:List α} {i:Nat} (h:i<xs.length):xs.set i (nth xs i)=xs:=by
 rw[<-R1.1 (ah h) |>.2];exact List.set_getElem_self h
theorem AG {m:aH} (h:bC m=true) {f:Nat} (hf:f<m.Buffers.length) (hn:0<(nth m.Buffers f).length):bC (fx m f)=true:=by
 obtain⟨⟨h1,h2,h3⟩,h4,h5⟩:=d4.1 h;obtain⟨g1,g2⟩:=h4 f hf;have hp:=g1 _ (am hn);have ht:(nth (nth m.Buffers f) 0).To.toNat<m.Inbox.length:=by omega
 refine d4.2 ⟨⟨?_,?_,?_⟩,fun i hi=>?_,?_⟩
 ·simp only[fx,Z0];exact h1
 ·simp only[fx,Z0];exact h2
 ·simp only[fx,Z0];exact h3
 ·simp only[fx,Z0]at hi |-
  obtain⟨k1,k2⟩:=h4 i hi;simp only[cx];refine⟨fun p hp=>?_,fun a ha=>?_⟩
  ·split at hp
   ·rename_i e;rw[<-e.1]at k1
    refine(h4 f hf).1 p (List.mem_of_mem_drop hp)
   ·exact k1 p hp
  ·split at ha
   ·rename_i e
    rcases C2.1 ha with ha|ha
    ·rw[e.1]at ha;exact k2 a ha
    ·rw[X0.1 ha];exact hp.2.2
   ·exact k2 a ha
 ·have hs:=mJ m f (nth (nth m.Buffers f) 0).To.toNat ((nth m.Buffers f).drop 1) (nth m.Inbox (nth (nth m.Buffers f) 0).To.toNat++[(nth (nth m.Buffers f) 0).Addr]) hf ht m.Buffers.length
  simp only[fx,Z0];rw[hs,if_pos hf,if_pos (by omega),Q2,P2,List.length_singleton];omega
theorem Lk {m:aH} (h:bC m=true) {t:Nat} (ht:t<m.Inbox.length):bC (ku m t)=true:=by
 obtain⟨⟨h1,h2,h3⟩,h4,h5⟩:=d4.1 h;refine d4.2 ⟨⟨h1,h2,?_⟩,fun i hi=>?_,?_⟩
 ·simp only[ku,Z0];exact h3
 ·obtain⟨k1,k2⟩:=h4 i hi
  simp only[ku,cx];refine⟨k1,fun a ha=>?_⟩;split at ha
  ·cases ha
  ·exact k2 a ha
 ·have hs:=mJ m t t (nth m.Buffers t) [] (by omega) ht m.Buffers.length
  rw[Ly (by omega)]at hs;show bo ⟨m.Buffers,m.Inbox.set t []⟩ m.Buffers.length<=30;rw[hs,if_pos (by omega),if_pos (by omega),List.length_nil];omega
theorem jw {m:aH} (h:bC m=true) (b:Int):(aL m).count b=(m.Buffers.flatMap fun l=>l.map (·.Addr)).count b+(m.Inbox.flatMap fun x=>x).count b:=by
 unfold aL;rw[if_pos h,List.count_append,jD]
theorem bm.mailed {h:ab} {E E':List Int} {m:aH} (hi:bm h E) (hm:bC m=true) (hl:m.Buffers.length=h.Mail.Buffers.length) (hc:∀ b,E'.count b+(aL m).count b=E.count b+(aL h.Mail).count b) (hs:∀ a,a∈E'\/a∈aL m->iU h.Spans a (-1)):bm {h with Mail:=m} E':=by
 have hp:(E++holders h).Perm (E'++holders {h with Mail:=m}):=by
  refine List.perm_iff_count.2 fun b=>?_
  have h1:=hc b;simp only[holders,ch,List.count_append];omega
 exact {hi with
   mail:=hm
   nc:=hi.nc.trans hl.symm
   hfl:=fun a ha=>hs a (.inr ha)
   hin:=fun a ha=>hs a (.inl ha)
   nd:=hp.nodup_iff.1 hi.nd
   mem:=fun b=>by rw[<-hp.mem_iff];exact hi.mem b}
theorem E5 {h:ab} {E E':List Int} {m:aH} (hi:bm h E) (hc:∀ b,E'.count b+(aL m).count b=E.count b+(aL h.Mail).count b):∀ a,a∈E'\/a∈aL m->iU h.Spans a (-1):=fun a ha=>by
 have h1:=hc a;have h2:0<E'.count a+(aL m).count a:=by
  rcases ha with ha|ha
  ·have:=List.count_pos_iff.2 ha;omega
  ·have:=List.count_pos_iff.2 ha;omega
 by_cases e:0<E.count a
 ·exact hi.hin a (List.count_pos_iff.1 e)
 ·exact hi.hfl a (List.count_pos_iff.1 (by omega))
theorem bm.deliv {h:ab} {E:List Int} {f:Nat} (hi:bm h E) (hf:f<h.Mail.Buffers.length) (hn:0<(nth h.Mail.Buffers f).length):bm {h with Mail:=fx h.Mail f} E:=by
 have hok:=AG hi.mail hf hn;obtain⟨⟨h1,h2,h3⟩,h4,h5⟩:=d4.1 hi.mail;have hpt:=(h4 f hf).1 _ (am hn);have hc:∀ b,E.count b+(aL (fx h.Mail f)).count b=E.count b+(aL h.Mail).count b:=fun b=>by
  rw[jw hok,jw hi.mail];have c1:=ic (fun l:List cS=>l.map (·.Addr)) b h.Mail.Buffers f ((nth h.Mail.Buffers f).drop 1) hf;have c2:=ic (fun x:List Int=>x) b h.Mail.Inbox (nth (nth h.Mail.Buffers f) 0).To.toNat (nth h.Mail.Inbox (nth (nth h.Mail.Buffers f) 0).To.toNat++[(nth (nth h.Mail.Buffers f) 0).Addr]) (by omega);have c3:(nth h.Mail.Buffers f).map (·.Addr)=(nth (nth h.Mail.Buffers f) 0).Addr::((nth h.Mail.Buffers f).drop 1).map (·.Addr):=by
   generalize nth h.Mail.Buffers f=l at hn
   match l,hn with
   | p::l,_=>rfl
  simp only[fx];rw[c3]at c1;simp only[List.count_cons]at c1;simp only[List.count_append,List.count_singleton]at c2;omega
 exact hi.mailed hok (by simp[fx]) hc (E5 hi hc)
theorem bm.coll {h:ab} {E:List Int} {t:Nat} (hi:bm h E) (ht:t<h.Mail.Inbox.length):bm {h with Mail:=ku h.Mail t} (nth h.Mail.Inbox t++E):=by
 have hok:=Lk hi.mail ht;have hc:∀ b,(nth h.Mail.Inbox t++E).count b+(aL (ku h.Mail t)).count b=E.count b+(aL h.Mail).count b:=fun b=>by
  rw[jw hok,jw hi.mail];have c2:=ic (fun x:List Int=>x) b h.Mail.Inbox t [] ht;simp only[List.count_nil]at c2;simp only[ku,List.count_append];omega
 exact hi.mailed hok rfl hc (E5 hi hc)
theorem bm.send {h:ab} {E:List Int} {f:Nat} {p:cS} (hi:bm h (p.Addr::E)) (hf:f<h.Mail.Buffers.length) (hok:bC (gp h.Mail f p)=true):bm {h with Mail:=gp h.Mail f p} E:=by
 have hc:∀ b,E.count b+(aL (gp h.Mail f p)).count b=(p.Addr::E).count b+(aL h.Mail).count b:=fun b=>by
  rw[jw hok,jw hi.mail];have c1:=ic (fun l:List cS=>l.map (·.Addr)) b h.Mail.Buffers f (nth h.Mail.Buffers f++[p]) hf;simp only[List.map_append,List.map_cons,List.map_nil,List.count_append,List.count_singleton]at c1;simp only[gp,List.count_cons];omega
 exact hi.mailed hok (by simp[gp]) hc (E5 hi hc)
def qg (now:Int):List aM->Nat
 | []=>0
 | x::xs=>if x.Since<now - 100 then qg now xs+1 else 0
def aged (h:ab) (n:Int):ab:={h with Clock:=h.Clock+n,Quar:=⟨h.Quar.Room,h.Quar.Lst.drop (qg (h.Clock+n) h.Quar.Lst)⟩}
def ma (h:ab) (n:Int):List Int:=(h.Quar.Lst.take (qg (h.Clock+n) h.Quar.Lst)).map (·.Addr)
def tick (h:ab) (n:Int):ab:=freeAs (aged h n) (ma h n)
theorem ni (x:aM) (xs:List aM):∀ n,quarCells (x::xs) (n+1)=csz x.Class+quarCells xs n
 | 0=>by simp only[quarCells];show 0+csz x.Class=csz x.Class+0;omega
 | n+1=>by
  rw[hO,ni x xs n,hO];show csz x.Class+quarCells xs n+csz (nth xs n).Class=_;omega
theorem Mt (k:Int):0<=csz k:=by
 unfold csz;split
 ·exact Int.le_of_lt (Int.pow_pos (by decide))
 ·decide
theorem FU:∀ (l:List aM) (k:Nat),qc (l.drop k)<=qc l
 | [],k=>by simp
 | x::xs,0=>Y3 _
 | x::xs,k+1=>by
  have h1:=FU xs k;have h2:=Mt x.Class;have h3:qc (x::xs)=csz x.Class+qc xs:=ni x xs xs.length;show qc (xs.drop k)<=qc (x::xs);omega
theorem bm.aged {h:ab} {E:List Int} {n:Int} (hi:bm h E) (hn:0<=n) (hc:h.Clock+n<=1000000):bm (aged h n) (ma h n++E):=by
 obtain⟨q1,q2,q3,q4,q5,q6⟩:=iM.1 hi.quar;have hnum:=hi.nums;unfold bU at hnum;rw[C0]at hnum;have hd:=List.drop_sublist (qg (h.Clock+n) h.Quar.Lst) h.Quar.Lst;have hp:(E++holders h).Perm ((ma h n++E)++holders (Ab.aged h n)):=by
  refine List.perm_iff_count.2 fun b=>?_
  have h1:=R0 (fun l:List aM=>(l.map (·.Addr)).count b) (List.take_append_drop (qg (h.Clock+n) h.Quar.Lst) h.Quar.Lst);simp only[List.map_append,List.count_append]at h1;simp only[holders,ch,Ab.aged,ma,List.count_append];omega
 exact {hi with
   nums:=by unfold bU;rw[C0];simp only[Ab.aged];omega
   quar:=iM.2 ⟨fun y hy=>q1 y (hd.subset hy),q2.sublist hd,q3.sublist (hd.map _),q4,q5,X3 (FU _ _) q6⟩
   snc:=fun y hy=>by
     have:=hi.snc y (hd.subset hy);show y.Since<=h.Clock+n;omega
   hqu:=fun y hy=>hi.hqu y (hd.subset hy)
   hin:=fun b hb=>by
     rcases C2.1 hb with hb|hb
     · obtain⟨y,hy,rfl⟩:=P3.1 hb
       exact(hi.hqu y (List.mem_of_mem_take hy)).any
     · exact hi.hin b hb
   nd:=hp.nodup_iff.1 hi.nd
   mem:=fun b=>by rw[<-hp.mem_iff];exact hi.mem b}
theorem bm.tick {h:ab} {n:Int} (hi:bm h []) (hn:0<=n) (hc:h.Clock+n<=1000000):bm (tick h n) []/\JK h (tick h n):=by
 have h1:=hi.aged hn hc;exact⟨bm.freeAs h1,JK.trans (h1:=Ab.aged h n) (JK.eq rfl rfl rfl rfl) (JK.freeAs h1)⟩
def collect (h:ab) (t:Nat):ab:=recycs t {h with Mail:=ku h.Mail t} (nth h.Mail.Inbox t)
theorem bm.collect {h:ab} {t:Nat} (hi:bm h []) (ht:t<h.Caches.length):bm (collect h t) []/\JK h (collect h t):=by
 have h1:=hi.coll (t:=t) (by rw[(d4.1 hi.mail).1.2.2,<-hi.nc];exact ht);exact⟨bm.recycs h1 ht,JK.trans (h1:={h with Mail:=ku h.Mail t}) (JK.eq rfl rfl rfl rfl) (JK.recycs h1 ht)⟩
def Mo (h:ab) (t i:Nat):ab:={h with Kernel:=fS h.Kernel (nth h.Objs i).Addr (csz (aN (nth h.Objs i).Size)).toNat,Objs:=dele h.Objs i,Mail:=gp h.Mail t ⟨(nth h.Objs i).Thread,(nth h.Objs i).Addr⟩}
def freeT (h:ab) (t i:Nat):ab × Int:=
 if aN (nth h.Objs i).Size<0 then(freeL h i (xv h (nth h.Objs i).Addr),0)
 else if(ar (tbl h) ((nth h.Objs i).Addr / 16)).Mode=1 then(h,5)
 else if(nth h.Objs i).Thread=t then(KB h t i,0)
 else if bC (gp h.Mail t ⟨(nth h.Objs i).Thread,(nth h.Objs i).Addr⟩)=true then(Mo h t i,0) else(h,5)
theorem xI {h:ab} {t i:Nat} (e:(nth h.Objs i).Thread=t):freeT h t i=freeOb h t i:=by
 unfold freeT freeOb;rw[if_pos e]
theorem bm.freeT {h:ab} {t i:Nat} (hi:bm h []) (li:i<h.Objs.length) (ht:t<h.Caches.length):bm (freeT h t i).1 []/\JK h (freeT h t i).1:=by
 by_cases e:(nth h.Objs i).Thread=t
 ·rw[xI e];exact⟨hi.freeOb li ht,JK.freeOb hi li ht⟩
 have h1:=hi.freeOb li ht;have h2:=JK.freeOb hi li ht;unfold Ab.freeOb at h1 h2;unfold Ab.freeT;split
 ·rename_i hc
  rw[if_pos hc]at h1 h2;exact⟨h1,h2⟩
 rename_i hc;rw[if_neg hc]at h1 h2;split
 ·exact⟨hi,JK.refl h⟩
 split
 ·rename_i hm
  obtain⟨⟨s,hs,g1,g2⟩,g3⟩:=(eR hi (am li)).2 hc;have k1:=hi.dropO li (iU.any ⟨s,hs,g1,.inr g2⟩);have k2:=k1.cells (k:=fS h.Kernel (nth h.Objs i).Addr (csz (aN (nth h.Objs i).Size)).toNat) (BJ hi.ker _ _) rfl;exact⟨bm.send (p:=⟨(nth h.Objs i).Thread,(nth h.Objs i).Addr⟩) k2 (by show t<h.Mail.Buffers.length;rw[<-hi.nc];exact ht) hm,JK.eq rfl rfl rfl rfl⟩
 ·exact⟨hi,JK.refl h⟩
def ki (k:af) (a v:Int):af:=setCell k (fE k a) (a % 16) v
theorem uw {k:af} (h:a8 k=true) {a v:Int} (ha:(ar k.Machine.Table (a / 16)).Mode≠0) (hv:0<=v/\v<=999):a8 (ki k a v)=true:=by
 obtain⟨b1,b2,-⟩:=iA h ha;exact p9 h (f:=fE k a) b1 b2 hv
theorem bm.store {h:ab} {a v:Int} (hi:bm h []) (ha:(ar h.Kernel.Machine.Table (a / 16)).Mode≠0) (hv:0<=v/\v<=999):bm {h with Kernel:=ki h.Kernel a v} []/\JK h {h with Kernel:=ki h.Kernel a v}:=
 ⟨hi.cells (uw hi.ker ha hv) rfl,JK.eq rfl rfl rfl rfl⟩
open Go.RowKit
set_option maxRecDepth 20000
set_option maxHeartbeats 4000000
theorem KQ {xs:List Int} {x:Int} (h:cH xs.length (fun j=>decide (nth xs j≠x))=true):x∉xs:=fun hm=>by
 obtain⟨j,hj⟩:=List.mem_iff_getElem?.1 hm;have:=dB h (R1.1 hj).1;rw[bq hj]at this;simp at this
theorem Di (xs:List Int) (x:Int) (hl:xs.length<=4611686018427387904):ao Tryz.prog 268 false [.val none (aF .imm xs),.val none [I x]] .one [B (decide (x∈xs))]:=by
 refine fO 18 [] Tryz.func268 rfl ?_
 repeat'(first|refine gO ?_|fail)
 (conv=>whnf)
 refine Lp.mk (ι:=Nat) (fun i=>[(0,.hold .one (aF .imm xs)),(1,.hold .one [I (x)]),(5,.hold .one [I ((i:Nat):Int)])]) (fun i=>i<=xs.length/\cH i (fun j=>decide (nth xs j≠x))=true) (fun i=>xs.length - i) 0 ?_ ⟨Q0 _,rfl⟩ fun i hi=>?_
 ·exact wB
 obtain⟨hi,ai⟩:=hi;by_cases li:i<xs.length
 ·have hx:=ah li
  by_cases e:nth xs i=x
  ·repeat'(first|refine gA ?_|(conv=>whnf);first|with_reducible refine Ix.nat (aa hx) ?_)
   exact R0 (fun z=>[B z]) ((by symm;exact O0 (by rw[<-e];exact am li)))
  ·repeat'(first|refine gA ?_|(conv=>whnf);first|with_reducible refine Ix.nat (aa hx) ?_)
   ((conv=>whnf);refine Nx.mk (i+1) ⟨by omega,bJ ai (O0 e)⟩ (by omega) ?_;(exact wB))
 ·repeat'(first|refine gD ?_|fail)
  obtain rfl:i=xs.length:=by omega
  exact R0 (fun z=>[B z]) ((by symm;exact P0 (KQ ai)))
theorem bH.more {M M':ac} {w w':World} (h:bH M w w') (hm:∀ b o,M b o->M' b o):bH M' w w':=
 ⟨h.os,h.tape,h.output,h.size,fun b hb hn=>h.blk b hb fun o ho=>hn o (hm b o ho),fun b o hb hn=>h.cel b o hb fun ho=>hn (hm b o ho),fun b o hb hn=>h.fro b o hb fun ho=>hn (hm b o ho)⟩
theorem aT.wk {P:Program} {f:Nat} {sh:Bool} {c c':List C} {A B:List MA} {k:Kd} {rcs:List C} (h:aT P f sh A (.ptr c::B) k rcs) (hw:JQ c c'):aT P f sh A (.ptr c'::B) k rcs:=by
 refine⟨h.has,fun w S V vs hS hV hVd hA=>(h.run w S V vs hS hV hVd hA).mono fun e w1 hv=>?_⟩;obtain⟨v,he,hk,X,V',S1,hX,hV',hS1,hVd',hXV,hXS,hVS1,hh,hr,hm⟩:=hv;refine⟨v,he,hk,X,V',S1,hX,hV',hS1,hVd',hXV,hXS,hVS1,hh,hr,?_⟩;cases vs with
 | nil=>exact hm.elim
 | cons v0 vs=>
  obtain⟨⟨X1,Y,h1,h2,h3,⟨g,o,e1,e2⟩,hrow⟩,hm2⟩:=hm;refine⟨⟨X1,Y,h1,h2,h3,⟨g,o,e1,fun j hj=>e2 j (by rw[(qn hw).1];exact hj)⟩,z8 hw hrow⟩,hm2⟩
theorem aT.frame {P:Program} {f:Nat} {sh:Bool} {c c' r:List C} {A B:List MA} {k:Kd} {rcs:List C} (h:aT P f sh (.ptr c::A) (.ptr c'::B) k rcs) (hl:c'.length=c.length):aT P f sh (.ptr (c++r)::A) (.ptr (c'++r)::B) k rcs:=by
 refine⟨h.has,fun w S V vs hS hV hVd hA=>?_⟩;cases vs with
 | nil=>exact hA.elim
 | cons v0 vs=>
 obtain⟨⟨X1,Y,hX1,hY,hXY,⟨g,q,rfl,hcell⟩,ff,hf1,hf2,hf3⟩,hA'⟩:=hA;have hlen:(c++r).length=c.length+r.length:=P2
 let V0:ac:=piece g q ff 0 c.length
 let W:Nat->ac:=Jh V0 (fun i=>V (i+1))
 have hcX:∀ o,q<=o->o<q+(c++r).length->X1 g o:=fun o h1 h2=>by
  have:=(hcell (o - q) (by omega)).1
  rwa [show q+(o - q)=o by omega]at this
 have hV0:∀ b o,V0 b o->V 0 b o:=fun b o ho=>by
  rcases ho with⟨rfl,h1,h2⟩|⟨j,-,h2,h3⟩
  ·exact hX1 _ _ (hcX o (by omega) (by omega))
  ·exact hY _ _ (hf2 j (by omega) b o h3)
 have hWV:∀ i b o,W i b o->V i b o:=fun i b o ho=>by
  cases i with
  | zero=>exact hV0 b o ho
  | succ i=>exact ho
 have hA2:KF w S W (.ptr c::A) (.pointer (some ⟨g,q,none⟩)::vs):=by
  refine⟨?_,hA'⟩;have:=ri (lo:=0) (n:=c.length) (cs:=c++r) (by omega) hcell hf1 hf2 hf3 hXY;rw[show br (c++r) 0 c.length=c by simp[br]]at this;simp only[Nat.zero_add,Nat.add_zero]at this;exact this
 refine(h.run w S W _ hS (fun i b o ho=>hV i b o (hWV i b o ho)) (fun i i' hne b o h1 h2=>hVd i i' hne b o (hWV i b o h1) (hWV i' b o h2)) hA2).mono fun e w1 hv=>?_
 obtain⟨v,he,hk,X,V',S1,hX,hV',hS1,hVd',hXV,hXS,hVS1,hh,hr,hm⟩:=hv;have hsub:∀ b o,(∃ i,W i b o)->∃ i,V i b o:=fun b o ⟨i,hi⟩=>⟨i,hWV i b o hi⟩
 let R:ac:=fun b o=>V 0 b o/\¬V0 b o
 have hRW:∀ b o,R b o->¬∃ i,W i b o:=fun b o hR ⟨i,hi⟩=>by
  cases i with
  | zero=>exact hR.2 hi
  | succ i=>exact hVd 0 (i+1) (by omega) b o hR.1 hi
 have hRold:∀ b o,R b o->b<w.heap.size:=fun b o hR=>(hV 0 b o hR.1).1
 have hRout:∀ b o,R b o->¬((∃ i,W i b o)\/(b<w1.heap.size/\w.heap.size<=b)):=fun b o hR ho=>by
  rcases ho with ho|ho
  ·exact hRW b o hR ho
  ·have:=hRold b o hR;omega
 have hRsame:bi R w w1:=fun b o hR=>⟨hk.cel b o (hRold b o hR) (hRW b o hR),hk.fro b o (hRold b o hR) (hRW b o hR)⟩
 have hRS1:∀ b o,R b o->¬S1 b o:=fun b o hR hs=>by
  rcases hS1 b o hs with⟨-,h1⟩|h1
  ·exact(hV 0 b o hR.1).2 h1
  ·exact hRout b o hR h1
 have hSsame:bi S w w1:=fun b o hb=>⟨hk.cel b o (hS b o hb) (fun⟨i,hi⟩=>(hV i b o (hWV i b o hi)).2 hb),hk.fro b o (hS b o hb) (fun⟨i,hi⟩=>(hV i b o (hWV i b o hi)).2 hb)⟩
 have hRc:∀ j,c.length<=j->j<(c++r).length->R g (q+j):=fun j h1 h2=>by
  refine⟨hX1 _ _ (hcell j h2).1,fun ho=>?_⟩;rcases ho with⟨-,h3,h4⟩|⟨j',h3,h4,h5⟩
  ·omega
  ·exact hXY _ _ (hcell j h2).1 (hf2 j' (by omega) _ _ h5)
 have hRf:∀ j,c.length<=j->j<(c++r).length->∀ b o,ff j b o->R b o:=fun j h1 h2 b o ho=>by
  refine⟨hY _ _ (hf2 j h2 b o ho),fun hp=>?_⟩;rcases hp with⟨rfl,h3,h4⟩|⟨j',h3,h4,h5⟩
  ·exact hXY _ _ (hcX o (by omega) (by omega)) (hf2 j h2 _ _ ho)
  ·exact hf3 j j' h2 (by omega) (by omega) b o ho h5
 let U:Nat->ac:=Jh (fun b o=>V' 0 b o\/R b o) (fun i=>V' (i+1))
 have hU:∀ i b o,U i b o->V' i b o\/(i=0/\R b o):=fun i b o ho=>by
  cases i with
  | zero=>exact ho.imp id (fun h=>⟨rfl,h⟩)
  | succ i=>exact .inl ho
 refine⟨v,he,hk.more hsub,X,U,S1,fun b o ho=>(hX b o ho).imp (hsub b o) id,fun i b o ho=>?_,fun b o ho=>(hS1 b o ho).imp id (Or.imp (hsub b o) id),fun i i' hne b o h1 h2=>?_,fun i b o h1 h2=>?_,hXS,fun i b o h1 h2=>?_,hh,hr,?_,hm.2⟩
 ·rcases hU i b o ho with h1|⟨-,h1⟩
  ·exact(hV' i b o h1).imp (hsub b o) id
  ·exact .inl ⟨0,h1.1⟩
 ·rcases hU i b o h1 with h1|⟨e1,h1⟩
  ·rcases hU i' b o h2 with h2|⟨e2,h2⟩
   ·exact hVd' i i' hne b o h1 h2
   ·exact hRout b o h2 (hV' i b o h1)
  ·rcases hU i' b o h2 with h2|⟨e2,h2⟩
   ·exact hRout b o h1 (hV' i' b o h2)
   ·exact hne (by omega)
 ·rcases hU i b o h2 with h2|⟨-,h2⟩
  ·exact hXV i b o h1 h2
  ·exact hRout b o h2 (hX b o h1)
 ·rcases hU i b o h1 with h1|⟨-,h1⟩
  ·exact hVS1 i b o h1 h2
  ·exact hRS1 b o h1 h2
 ·obtain⟨Xa,Ya,ha1,ha2,ha3,⟨ga,oa,hea,ha4⟩,fa,ha5,ha6,ha7⟩:=(show oF w1 (fun b o=>S b o\/S1 b o) (V' 0) (.ptr c') (.pointer (some ⟨g,q,none⟩)) from hm.1)
  obtain⟨rfl,rfl⟩ : g=ga/\q=oa:=by simpa using hea
  have hlen':(c'++r).length=c.length+r.length:=by rw[P2,hl]
  show oF w1 (fun b o=>S b o\/S1 b o) (fun b o=>V' 0 b o\/R b o) (.ptr (c'++r)) (.pointer (some ⟨g,q,none⟩));have faV:∀ j,j<c.length->∀ b o,fa j b o->V' 0 b o:=fun j hj b o ho=>ha2 _ _ (ha6 j (by omega) b o ho)
  refine⟨fun b o=>Xa b o\/(R b o/\∃ j,c.length<=j/\j<(c++r).length/\b=g/\o=q+j),fun b o=>Ya b o\/∃ j,c.length<=j/\j<(c++r).length/\ff j b o,fun b o ho=>?_,fun b o ho=>?_,fun b o h1 h2=>?_,⟨g,q,rfl,fun j hj=>?_⟩,fun j=>if j<c.length then fa j else ff j,fun j d hj=>?_,fun j hj b o ho=>?_,fun j j' hj hj' hne b o h1 h2=>?_⟩
  ·exact ho.imp (ha1 b o) (·.1)
  ·rcases ho with ho|⟨j,h1,h2,h3⟩
   ·exact .inl (ha2 b o ho)
   ·exact .inr (hRf j h1 h2 b o h3)
  ·rcases h1 with h1|⟨h1,j,j1,j2,rfl,rfl⟩
   ·rcases h2 with h2|⟨j,j1,j2,j3⟩
    ·exact ha3 b o h1 h2
    ·exact hRout b o (hRf j j1 j2 b o j3) (hV' 0 b o (ha1 b o h1))
   ·rcases h2 with h2|⟨j',j3,j4,j5⟩
    ·exact hRout _ _ h1 (hV' 0 _ _ (ha2 _ _ h2))
    ·exact hXY _ _ (hcell j j2).1 (hf2 j' j4 _ _ j5)
  ·rw[hlen']at hj
   by_cases hc:j<c.length
   ·have:=ha4 j (by omega)
    exact⟨.inl this.1,this.2⟩
   ·have hR:=hRc j (by omega) (by omega)
    have hs:=hRsame _ _ hR;have hce:=hcell j (by omega);refine⟨.inr ⟨hR,j,by omega,by omega,rfl,rfl⟩,?_,?_⟩
    ·rw[hs.1];exact hce.2.1
    ·rw[hs.2];exact hce.2.2
  ·dsimp only
   by_cases hc:j<c.length
   ·rw[if_pos hc]
    rw[R3 (by omega)]at hj;exact ha5 j d hj
   ·rw[if_neg hc]
    rw[T3 (by omega),hl]at hj;have hj2:(c++r)[j]? = some d:=by rw[T3 (by omega)];exact hj
    have hjl:=(R1.1 hj2).1;have h3:=(hf1 j d hj2).keep hSsame (fun b o ho=>hRsame b o (hRf j (by omega) hjl b o ho));have hce:=(hRsame _ _ (hRc j (by omega) hjl)).1;have:bT w1 .box (.pointer (some ⟨g,q,none⟩)) j=bT w .box (.pointer (some ⟨g,q,none⟩)) j:=by
     simp only[bT];rw[hce]
    rw[this];exact h3.mono (fun _ _ h=>.inl h) (fun _ _ h=>h)
  ·rw[hlen']at hj
   split at ho
   ·rename_i hc;exact .inl (ha6 j (by omega) b o ho)
   ·exact .inr ⟨j,by omega,by omega,ho⟩
  ·rw[hlen']at hj hj'
   split at h1
   ·rename_i c1
    split at h2
    ·exact ha7 j j' (by omega) (by omega) hne b o h1 h2
    ·exact hRout b o (hRf j' (by omega) (by omega) b o h2) (hV' 0 b o (faV j c1 b o h1))
   ·split at h2
    ·rename_i c1;exact hRout b o (hRf j (by omega) (by omega) b o h1) (hV' 0 b o (faV j' c1 b o h2))
    ·exact hf3 j j' (by omega) (by omega) hne b o h1 h2
mutual
theorem Nk:∀ c:C,fz (fz c)=fz c
 | .v x=>by simp[fz]
 | .s o rows=>by simp only[fz];rw[FK rows]
 | .x=>by simp[fz]
 | .z=>by simp[fz]
 | .m _=>by simp[fz]
 | .it _ _=>by simp[fz]
theorem FK:∀ rs:List (List C),fzR (fzR rs)=fzR rs
 | []=>rfl
 | r::rs=>by simp only[fzR];rw[qx r,FK rs]
theorem qx:∀ cs:List C,d9 (d9 cs)=d9 cs
 | []=>rfl
 | c::cs=>by simp only[d9];rw[Nk c,qx cs]
end
theorem me (k:af) (hk:a8 k=true) (hc:k.Calls≠100000):aT Tryz.prog 347 false [.ptr (af.enc .own k)] [.ptr (af.enc .own (dh k))] .one [B (!refd k)]:=by
 have hs:=bp hk;have hcl:=(aB.1 hk).2.2.2.2;have c1:=Di k.Refuse k.Calls (by have:=hs.2;omega);refine fM 22 [] [(2,9,[11,12,13,14,15,16,17,18,19])] [(0,0)] Tryz.func347 rfl (fun u q=>?_)
 repeat'(first|refine gO ?_|(conv=>whnf);first|refine Cl.eq (c1) ⟨⟨rfl,dZ _⟩,⟨rfl,R0 (fun z=>[I z]) (by omega)⟩,trivial⟩ ?_)
 refine aR.mk rfl ?_ ?_
 ·rfl
 ·exact wB
theorem m7 (k:af) (p m:Int) (hk:a8 k=true) (hc:k.Calls≠100000) (hm:(ar k.Machine.Table p).Mode≠0) (h12:m=1\/m=2):aT Tryz.prog 406 false [.ptr (af.enc .own k),.val none [I p],.val none [I m]] [.ptr (af.enc .own (jB k p m).1),.val none [I p],.val none [I m]] .one [B (jB k p m).2]:=by
 have hs:=bp hk;have c1:=me k hk hc;have c2:=dD (dh k) p hs.1.2;have c3:=aD m 1 2;rw[O0 (by omega)]at c3;obtain⟨m1,m2,m3,-⟩:=ce hk hm;have hx:=ah (xs:=k.Machine.Table.Entries) (i:=p.toNat) (by omega);have hm':¬(ar (dh k).Machine.Table p).Mode=0:=hm;unfold jB;cases e:refd k<;>rw[e]at c1
 ·rw[if_neg (by simp),Hh]
  refine fM 31 [(347,[2])] [] [(0,0),(0,0),(0,0)] Tryz.func406 rfl (fun u q=>?_)
  repeat'(first|refine gA ?_|(conv=>whnf);first|refine cv.mk (c1) (.inl rfl) ?_|refine Cl.eq (c2) ⟨af.enc_fz (dh k),⟨rfl,rfl⟩,trivial⟩ ?_|refine Cl.mk (c3) ?_|refine Ix.mk m1 (aa hx) ?_|refine Pu.one rfl rfl (aa hx) rfl (W0 rfl) rfl ?_)
  refine aR.mk rfl ?_ ?_
  ·rfl
  ·exact wB
 ·rw[if_pos rfl]
  refine fM 31 [(347,[2])] [] [(0,0),(0,0),(0,0)] Tryz.func406 rfl (fun u q=>?_)
  repeat'(first|refine gA ?_|(conv=>whnf);first|refine cv.mk (c1) (.inl rfl) ?_|refine Cl.eq (c2) ⟨af.enc_fz (dh k),⟨rfl,rfl⟩,trivial⟩ ?_|refine Cl.mk (c3) ?_)
  refine aR.mk rfl ?_ ?_
  ·rfl
  ·exact wB
theorem Rw.two {bs:List C} {off i k j i2 k2 j2:Nat} {K:List C->Nat->Prop} {o o2:d3} {rows rows2:List (List C)} {r r2:List C} (h1:bs[off]? = some (.s o rows)) (h2:rows[i]? = some r) (h3:r.length=k) (h4:r[j]? = some (.s o2 rows2)) (h5:rows2[i2]? = some r2) (h6:r2.length=k2) (hK:K r2 j2):Rw bs off [(i,k,j),(i2,k2,j2)] K:=
 Rw.mk (r:=r2) (j:=j2) (by simp[bR,h1,h2,h3,h4,h5,h6]) hK
theorem xc (k:af) (a b c:Int) (hk:a8 k=true) (ha:(ar k.Machine.Table a).Mode≠0) (hb:(ar k.Machine.Table b).Mode≠0) (h15:0<=c/\c<=15):aT Tryz.prog 407 false [.ptr (af.enc .own k),.val none [I a],.val none [I b],.val none (aF .imm [c])] [.ptr (af.enc .own (xM k a b c)),.val none [I a],.val none [I b],.val none (aF .imm [c])] .one [B true]:=by
 have hs:=bp hk;have c1:=dD k a hs.1.2;have c2:=dD k b hs.1.2;have c3:=aD c 0 15;rw[O0 h15]at c3;obtain⟨a1,a2,a3,a4,a5⟩:=ce hk ha;obtain⟨b1,b2,b3,b4,b5⟩:=ce hk hb;have hul:=(aU.1 (aB.1 hk).2.1).2.2.1;have ra:=row16 hk (f:=mg k a) (by unfold mg;omega);have rb:=row16 hk (f:=mg k b) (by unfold mg;omega);have hxa:k.Machine.Frames.Cells[(ar k.Machine.Table a).Frame.toNat]? = some (nth k.Machine.Frames.Cells (mg k a)):=ah (by omega);have hxb:k.Machine.Frames.Cells[(ar k.Machine.Table b).Frame.toNat]? = some (nth k.Machine.Frames.Cells (mg k b)):=ah (by omega);have hya:=ah (xs:=nth k.Machine.Frames.Cells (mg k a)) (i:=c.toNat) (by omega);have hyb:=ah (xs:=nth k.Machine.Frames.Cells (mg k b)) (i:=c.toNat) (by omega);have hea:=ah (xs:=k.Machine.Table.Entries) (i:=a.toNat) (by omega);have heb:=ah (xs:=k.Machine.Table.Entries) (i:=b.toNat) (by omega);rw[a3]at a4 hxa;rw[b3]at b4 hxb;have hq0:[c][0]? = some c:=rfl;refine fM 90 [] [(13,28,[61,62,63,64,65,66,67,68,69,70,71,72,73,74,75,76,77,78,79,80,81,82,83,84,85,86,87,88])] [(0,0),(0,0),(0,0),(0,0)] Tryz.func407 rfl (fun u q=>?_)
 repeat'(first|refine gA ?_|(conv=>whnf);first|refine Sm.rf ?_|refine Cl.eq (c1) ⟨af.enc_fz k,⟨rfl,rfl⟩,trivial⟩ ?_|refine Cl.eq (c2) ⟨af.enc_fz k,⟨rfl,rfl⟩,trivial⟩ ?_)
 (conv=>whnf)
 refine Lp.mk (ι:=Nat) (fun n=>[(0,.hold .box (af.enc .own k)),(1,.hold .one [I (a)]),(2,.hold .one [I (b)]),(3,.hold .one (aF .imm [c])),(9,.hold .one [I ((n:Nat):Int)])]) (fun n=>n<=1) (fun n=>1 - n) (0) ?_ (Q0 _) fun n hn=>?_
 ·exact wB
 by_cases ln:n<1
 ·obtain rfl:n=0:=by omega
  repeat'(first|refine gD ?_|(conv=>whnf);first|refine Sm.rf ?_|refine Ix.mk (by decide) (aa hq0) ?_|refine Cl.mk (c3) ?_)
  ((conv=>whnf);refine Nx.mk 1 (by omega) (by omega) ?_;(exact wB))
 ·obtain rfl:n=1:=by omega
  repeat'(first|refine gD ?_|(conv=>whnf);first|refine Sm.rf ?_|refine Ix.mk a1 (aa hea) ?_|refine Ix.mk b1 (aa heb) ?_|refine Rw.one rfl (aa hea) rfl ?_|refine Rw.one rfl (aa heb) rfl ?_)
  (conv=>whnf)
  refine Lp.mk (ι:=Nat) (fun j=>[(0,.hold .box (af.enc .own (Mi k a b c j))),(3,.hold .one (aF .imm [c])),(10,.hold .one [I ((nth k.Machine.Table.Entries a.toNat).Frame)]),(11,.hold .one [I ((nth k.Machine.Table.Entries b.toNat).Frame)]),(12,.hold .one [I ((j:Nat):Int)])]) (fun j=>j<=1) (fun j=>1 - j) (0) ?_ (Q0 _) fun j hj=>?_
  ·exact wB
  by_cases lj:j<1
  ·obtain rfl:j=0:=by omega
   repeat'(first|refine gD ?_|(conv=>whnf);first|refine Sm.rf ?_|refine Ix.mk (by decide) (aa hq0) ?_|refine Ix.mk a4 (aa hxa) ?_|refine Ix.mk b4 (aa hxb) ?_|refine Ix.mk h15.1 (aa hya) ?_|refine Ix.mk h15.1 (aa hyb) ?_|refine Rw.one rfl (aa hxb) rfl ?_|refine Rw.one rfl (aa hxa) rfl ?_|refine Rw.two rfl (aa hxa) rfl rfl (aa hya) rfl ?_|refine Pu.two rfl rfl (aa hxb) rfl rfl rfl (aa hyb) rfl (I2 _) rfl ?_)
   ((conv=>whnf);refine Nx.mk 1 (by omega) (by omega) ?_)
   rw[show Mi k a b c 1=xM k a b c from rfl];unfold xM;rw[AR,show mg k b=(nth k.Machine.Table.Entries b.toNat).Frame.toNat by unfold mg;rw[b3]];exact wB
  ·obtain rfl:j=1:=by omega
   repeat'(first|refine gD ?_|(conv=>whnf);first|refine Sm.rf ?_)
   refine aR.mk rfl ?_ ?_
   ·rfl
   ·exact wB
theorem Ew (k:af) (p o:Int) (hk:a8 k=true) (hc:k.Calls≠100000) (hp:(ar k.Machine.Table p).Mode≠0) (ho:(ar k.Machine.Table o).Mode≠0) (hpo:p≠o):aT Tryz.prog 408 false [.ptr (af.enc .own k),.val none [I p],.val none [I o]] [.ptr (af.enc .own (zo k p o).1),.val none [I p],.val none [I o]] .one [B (zo k p o).2]:=by
 have hs:=bp hk;have c1:=me k hk hc;have c2:=dD (dh k) p hs.1.2;have c3:=dD (dh k) o hs.1.2;obtain⟨p1,p2,p3,p4,p5⟩:=ce hk hp;obtain⟨o1,o2,o3,o4,o5⟩:=ce hk ho;have hul:=(aU.1 (aB.1 hk).2.1).2.2.1;have hx:=ah (xs:=k.Machine.Table.Entries) (i:=p.toNat) (by omega);have hy:=ah (xs:=k.Machine.Table.Entries) (i:=o.toNat) (by omega);have hp':¬(ar (dh k).Machine.Table p).Mode=0:=hp;have ho':¬(ar (dh k).Machine.Table o).Mode=0:=ho;rw[p3]at p4 p5;have c5:=qW (vA (dh k) p.toNat ⟨2,(nth k.Machine.Table.Entries o.toNat).Frame⟩) (nth k.Machine.Table.Entries p.toNat).Frame (Kv _ _ hs.1.2) ⟨p4,by show _<((k.Machine.Frames.Cells.length:Nat):Int);omega,p5⟩;rw[Kj]at c5;unfold zo;cases e:refd k<;>rw[e]at c1
 ·rw[if_neg (by simp)]
  refine fM 60 [(347,[2]),(349,[2,0])] [(4,274,[38,39,40,41,42,43,44,45,46,47,48,49,50,51,52,53,54,56,0,1,2,3,4,5,6,7,8,9,10,11,12,13,14,15,16,17,1000,1001,1002,1003,1004,1005,1006,18,19])] [(0,0),(0,0),(0,0)] Tryz.func408 rfl (fun u q=>?_)
  repeat'(first|refine gA ?_|(conv=>whnf);first|refine Sm.rf ?_|refine cv.mk (c1) (.inl rfl) ?_|refine Cl.eq (c2) ⟨af.enc_fz (dh k),⟨rfl,rfl⟩,trivial⟩ ?_|refine Cl.eq (c3) ⟨af.enc_fz (dh k),⟨rfl,rfl⟩,trivial⟩ ?_|refine Ix.mk p1 (aa hx) ?_|refine Ix.mk o1 (aa hy) ?_|refine Rw.one rfl (aa hx) rfl ?_|refine Rw.one rfl (aa hy) rfl ?_|refine Pu.one rfl rfl (aa hx) rfl (W0 rfl) rfl ?_|refine cv.mk (c5) (.inl rfl) ?_)
  refine aR.mk rfl ?_ ?_
  ·rfl
  ·exact wB
 ·rw[if_pos rfl]
  refine fM 60 [(347,[2]),(349,[2,0])] [(4,274,[38,39,40,41,42,43,44,45,46,47,48,49,50,51,52,53,54,56,0,1,2,3,4,5,6,7,8,9,10,11,12,13,14,15,16,17,1000,1001,1002,1003,1004,1005,1006,18,19])] [(0,0),(0,0),(0,0)] Tryz.func408 rfl (fun u q=>?_)
  repeat'(first|refine gA ?_|(conv=>whnf);first|refine Sm.rf ?_|refine cv.mk (c1) (.inl rfl) ?_|refine Cl.eq (c2) ⟨af.enc_fz (dh k),⟨rfl,rfl⟩,trivial⟩ ?_|refine Cl.eq (c3) ⟨af.enc_fz (dh k),⟨rfl,rfl⟩,trivial⟩ ?_)
  refine aR.mk rfl ?_ ?_
  ·rfl
  ·exact wB
theorem xj (m:aP) (a:Int) (hs:aP.sml m) (ha:0<=a/\a<512):ao Tryz.prog 411 false [.val (some 3) (aP.enc .imm m),.val none [I a]] (.tup [some 2,none]) (bj.enc .own (ar m.Table (a / 16))++[I (a % 16)]):=by
 have c2:=cP m.Table (a / 16) hs.2;have htm:a.tmod 16=a % 16:=fH ha.1;refine fO 16 [] Tryz.func411 rfl ?_ (.inr ⟨trivial,trivial,trivial,trivial⟩)
 repeat'(first|refine gD ?_|(conv=>whnf);first|refine Sm.rf ?_|refine Cl.mk (c2) ?_|refine Wr.mk (oK ha) ?_|refine Cd.mk (by decide) ?_|refine Ev.mk htm ?_)
 rfl
theorem EF (m:aP) (a v:Int) (hm:cX m=true) (hs:aP.sml m) (ha:0<=a/\a<512) (hv:0<=v/\v<=999) (hf:(ar m.Table (a / 16)).Mode≠0->0<=(ar m.Table (a / 16)).Frame/\(ar m.Table (a / 16)).Frame<m.Frames.Cells.length/\(nth m.Frames.Cells (ar m.Table (a / 16)).Frame.toNat).length=16):ao Tryz.prog 410 false [.val (some 3) (aP.enc .imm m),.val none [I a],.val none [I v]] (.tup [some 3,none]) (aP.enc .own (kL m a v).1++[I (kL m a v).2]):=by
 have c0:=nz m hs;rw[hm]at c0;have c1:=qG m hs;have c2:=xj m a hs ha;have c3:=aD v 0 999;rw[O0 hv]at c3;have hfr:=aP.enc_fr (kL m a v).1;unfold kL at hfr |-;by_cases e0:(ar m.Table (a / 16)).Mode=0
 ·rw[if_pos e0]at hfr |-
  refine fO 47 [] Tryz.func410 rfl ?_ (.inr (aK hfr ⟨trivial,trivial⟩))
  repeat'(first|refine gA ?_|(conv=>whnf);first|refine Sm.rf ?_|refine Cl.mk (c0) ?_|refine Cl.mk (c1) ?_|refine Cl.mk (c2) ?_|refine Cl.mk (c3) ?_)
  rfl
 ·rw[if_neg e0]at hfr |-
  by_cases e1:(ar m.Table (a / 16)).Mode=1
  ·rw[if_pos e1]at hfr |-
   refine fO 47 [] Tryz.func410 rfl ?_ (.inr (aK hfr ⟨trivial,trivial⟩))
   repeat'(first|refine gA ?_|(conv=>whnf);first|refine Sm.rf ?_|refine Cl.mk (c0) ?_|refine Cl.mk (c1) ?_|refine Cl.mk (c2) ?_|refine Cl.mk (c3) ?_)
   rfl
  ·rw[if_neg e1]at hfr |-
   obtain⟨f1,f2,f3⟩:=hf e0;have hx:=ah (xs:=m.Frames.Cells) (i:=(ar m.Table (a / 16)).Frame.toNat) (by omega);have hy:=ah (xs:=nth m.Frames.Cells (ar m.Table (a / 16)).Frame.toNat) (i:=(a % 16).toNat) (by omega);simp only at hfr |-;rw[En]at hfr |-;refine fO 47 [] Tryz.func410 rfl ?_ (.inr (aK hfr ⟨trivial,trivial⟩))
   repeat'(first|refine gA ?_|(conv=>whnf);first|refine Sm.rf ?_|refine Cl.mk (c0) ?_|refine Cl.mk (c1) ?_|refine Cl.mk (c2) ?_|refine Cl.mk (c3) ?_|refine Ix.mk f1 (aa hx) ?_|refine Ix.mk (by omega) (aa hy) ?_|refine Rw.one rfl (aa hx) rfl ?_|refine Pu.two rfl rfl (aa hx) rfl rfl rfl (aa hy) rfl (I2 _) rfl ?_)
   rfl
theorem kZ {k:af} {j:co} : jmay k j=true↔(a8 k=true/\k.Calls≠100000)/\iR j=true/\(ar k.Machine.Table j.Plan.Keep).Mode≠0/\(ar k.Machine.Table j.Plan.Move).Mode≠0/\(ar k.Machine.Table j.Plan.Keep).Frame≠(ar k.Machine.Table j.Plan.Move).Frame:=by
 unfold jmay;simp only[I0,C0]
theorem lz {p:cg} (h:ew p=true):p.Cells.length<=16:=by
 unfold ew at h;simp only[I0]at h;have hi:∀ i,i<p.Cells.length->(i:Int)<=nth p.Cells i:=fun i=>by
  induction i with
  | zero=>
   intro hi;have:=dB h.1 hi;unfold lY at this;rw[C0]at this;exact this.1
  | succ i ih=>
   intro hi;have h1:=ih (by omega);have:=dB h.1 hi;unfold lY at this;rw[C0]at this;have h2:=this.2.2.resolve_left (by omega);rw[Nat.add_sub_cancel]at h2;omega
 by_cases e:p.Cells.length<=16
 ·exact e
 ·exfalso
  have h1:=hi 16 (by omega);have:=dB h.1 (show 16<p.Cells.length by omega);unfold lY at this;rw[C0]at this;omega
theorem Ga {j:co} (h:iR j=true):co.sml j:=by
 have:=lz (fj.1 h).1;show j.Plan.Cells.length<=1048576;omega
theorem rj {k:af} (h:a8 k=true):cX k.Machine=true:=by
 unfold a8 at h;simp only[I0]at h;exact h.1.2
theorem yS (k:af) (j:co) (hm:jmay k j=true) (h3:j.Phase=3):aT Tryz.prog 409 false [.ptr (af.enc .own k),.ptr (vU j)] [.ptr (af.enc .own (jstep k j).1),.ptr (vU (jstep k j).2)] (.tup []) []:=by
 obtain⟨⟨hk,hc⟩,hj,hkp,hmv,hne⟩:=kZ.1 hm;obtain⟨j2,j3,j4,j5,j6⟩:=fj.1 hj;have hs:=bp hk;obtain⟨p1,p2,p3,p4,p5⟩:=ce hk hkp;have ht32:=(bt.1 (aB.1 hk).2.2.1).2.2;have hpl:=lz j2;have hul:=(aU.1 (aB.1 hk).2.1).2.2.1;unfold jstep;rw[if_neg (by omega),if_neg (by omega),if_neg (by omega),if_pos h3];by_cases hn:0<j.Next
 ·rw[if_pos hn]
  have hc15:=kQ j2 (i:=(j.Next - 1).toNat) (by omega);have hx:=ah (xs:=j.Plan.Cells) (i:=(j.Next - 1).toNat) (by omega);have ha:0<=j.Plan.Keep*16+nth j.Plan.Cells (j.Next - 1).toNat/\j.Plan.Keep*16+nth j.Plan.Cells (j.Next - 1).toNat<512:=by omega
  have hq:(j.Plan.Keep*16+nth j.Plan.Cells (j.Next - 1).toNat) / 16=j.Plan.Keep:=by omega
  have c1:=EF k.Machine (j.Plan.Keep*16+nth j.Plan.Cells (j.Next - 1).toNat) 0 (rj hk) hs.1 ha (by omega) (fun _=>by rw[hq];exact⟨p4,by omega,row16 hk (f:=mg k j.Plan.Keep) (by unfold mg;omega)⟩);generalize (kL k.Machine (j.Plan.Keep*16+nth j.Plan.Cells (j.Next - 1).toNat) 0).1=m at c1 |-;generalize (kL k.Machine (j.Plan.Keep*16+nth j.Plan.Cells (j.Next - 1).toNat) 0).2=e at c1;refine fM 59 [(406,[2,0,0])] [(2,283,[20,21,22,23,24,25,26,27,28,29,30,31,32,33,34,35,36,37,38,39,40,41,42,19,43,44,4,0,1,2,3,4,5,6,7,8,9,10,11,12,13,14,15,16,17,18,19,20,21,22,23,24,25,26,27,1025,28])] [(0,0),(1,0)] Tryz.func409 rfl (fun u q=>?_) (.inr trivial)
  repeat'(first|refine gD ?_|(conv=>whnf);first|refine Sm.rf ?_|refine Cl.eq (c1) ⟨⟨rfl,aP.enc_fz k.Machine⟩,⟨rfl,rfl⟩,⟨rfl,rfl⟩,trivial⟩ ?_|refine Ix.mk (by omega) (aa hx) ?_|refine Sm.rf ?_)
  refine aR.mk rfl rfl ?_;exact wC
 ·rw[if_neg hn]
  have c1:=m7 k j.Plan.Move 2 hk hc hmv (.inr rfl);cases e:(jB k j.Plan.Move 2).2<;>rw[e]at c1
  ·refine fM 59 [(406,[2,0,0])] [(2,283,[20,21,22,23,24,25,26,27,28,29,30,31,32,33,34,35,36,37,38,39,40,41,42,19,43,44,4,0,1,2,3,4,5,6,7,8,9,10,11,12,13,14,15,16,17,18,19,20,21,22,23,24,25,26,27,1025,28])] [(0,0),(1,0)] Tryz.func409 rfl (fun u q=>?_) (.inr trivial)
   repeat'(first|refine gD ?_|(conv=>whnf);first|refine Sm.rf ?_|refine cv.mk (c1) (.inl rfl) ?_)
   refine aR.mk rfl rfl ?_;rw[<-h3];exact wC
  ·refine fM 59 [(406,[2,0,0])] [(2,283,[20,21,22,23,24,25,26,27,28,29,30,31,32,33,34,35,36,37,38,39,40,41,42,19,43,44,4,0,1,2,3,4,5,6,7,8,9,10,11,12,13,14,15,16,17,18,19,20,21,22,23,24,25,26,27,1025,28])] [(0,0),(1,0)] Tryz.func409 rfl (fun u q=>?_) (.inr trivial)
   repeat'(first|refine gD ?_|(conv=>whnf);first|refine Sm.rf ?_|refine cv.mk (c1) (.inl rfl) ?_)
   refine aR.mk rfl rfl ?_;exact wC
theorem zE (k:af) (j:co) (hm:jmay k j=true):aT Tryz.prog 396 false [.ptr (af.enc .own k),.ptr (vU j)] [.ptr (af.enc .own (jstep k j).1),.ptr (vU (jstep k j).2)] (.tup []) []:=by
 obtain⟨⟨hk,hc⟩,hj,hkp,hmv,hne⟩:=kZ.1 hm;obtain⟨j2,j3,j4,j5,j6⟩:=fj.1 hj;have hpo:j.Plan.Move≠j.Plan.Keep:=fun e=>hne (by rw[e])
 have hpl:=lz j2;by_cases h0:j.Phase=0
 ·have c1:=m7 k j.Plan.Move 1 hk hc hmv (.inl rfl)
  unfold jstep;rw[if_pos h0];cases e:(jB k j.Plan.Move 1).2<;>rw[e]at c1
  ·refine fM 80 [(406,[2,0,0]),(407,[2,0,0,0]),(408,[2,0,0]),(409,[2,2])] [(7,7,[27,28,29,30,31,32,33]),(9,14,[38,39,40,41,42,43,44,45,46,47,48,49,50,51])] [(0,0),(1,0)] Tryz.func396 rfl (fun u q=>?_) (.inr trivial)
   repeat'(first|refine gA ?_|(conv=>whnf);first|refine Sm.rf ?_|refine cv.mk (c1) (.inl rfl) ?_)
   refine aR.mk rfl rfl ?_;exact wC
  ·refine fM 80 [(406,[2,0,0]),(407,[2,0,0,0]),(408,[2,0,0]),(409,[2,2])] [(7,7,[27,28,29,30,31,32,33]),(9,14,[38,39,40,41,42,43,44,45,46,47,48,49,50,51])] [(0,0),(1,0)] Tryz.func396 rfl (fun u q=>?_) (.inr trivial)
   repeat'(first|refine gA ?_|(conv=>whnf);first|refine Sm.rf ?_|refine cv.mk (c1) (.inl rfl) ?_)
   refine aR.mk rfl rfl ?_;exact wC
 by_cases h1:j.Phase=1
 ·unfold jstep
  rw[if_neg h0,if_pos h1];by_cases hn:j.Next=j.Plan.Cells.length
  ·rw[if_pos hn]
   refine fM 80 [(406,[2,0,0]),(407,[2,0,0,0]),(408,[2,0,0]),(409,[2,2])] [(7,7,[27,28,29,30,31,32,33]),(9,14,[38,39,40,41,42,43,44,45,46,47,48,49,50,51])] [(0,0),(1,0)] Tryz.func396 rfl (fun u q=>?_) (.inr trivial)
   repeat'(first|refine gA ?_|(conv=>whnf);first|refine Sm.rf ?_|refine Sm.rf ?_)
   refine aR.mk rfl rfl ?_;exact wC
  ·rw[if_neg hn]
   have hx:=ah (xs:=j.Plan.Cells) (i:=j.Next.toNat) (by omega);have c1:=xc k j.Plan.Move j.Plan.Keep (nth j.Plan.Cells j.Next.toNat) hk hmv hkp (kQ j2 (by omega));have hcl:=(kZ.1 hm).2.1;refine fM 80 [(406,[2,0,0]),(407,[2,0,0,0]),(408,[2,0,0]),(409,[2,2])] [(7,7,[27,28,29,30,31,32,33]),(9,14,[38,39,40,41,42,43,44,45,46,47,48,49,50,51])] [(0,0),(1,0)] Tryz.func396 rfl (fun u q=>?_) (.inr trivial)
   repeat'(first|refine gA ?_|(conv=>whnf);first|refine Sm.rf ?_|refine cv.mk c1 (.inr ⟨rfl,af.enc_fr _,trivial⟩) ?_|refine Ix.mk (by omega) (aa hx) ?_|refine Sm.rf ?_)
   refine aR.mk rfl rfl ?_;exact wC
 by_cases h2:j.Phase=2
 ·have c1:=Ew k j.Plan.Move j.Plan.Keep hk hc hmv hkp hpo
  unfold jstep;rw[if_neg h0,if_neg h1,if_pos h2];cases e:(zo k j.Plan.Move j.Plan.Keep).2<;>rw[e]at c1
  ·refine fM 80 [(406,[2,0,0]),(407,[2,0,0,0]),(408,[2,0,0]),(409,[2,2])] [(7,7,[27,28,29,30,31,32,33]),(9,14,[38,39,40,41,42,43,44,45,46,47,48,49,50,51])] [(0,0),(1,0)] Tryz.func396 rfl (fun u q=>?_) (.inr trivial)
   repeat'(first|refine gA ?_|(conv=>whnf);first|refine Sm.rf ?_|refine cv.mk (c1) (.inl rfl) ?_)
   refine aR.mk rfl rfl ?_;exact wC
  ·refine fM 80 [(406,[2,0,0]),(407,[2,0,0,0]),(408,[2,0,0]),(409,[2,2])] [(7,7,[27,28,29,30,31,32,33]),(9,14,[38,39,40,41,42,43,44,45,46,47,48,49,50,51])] [(0,0),(1,0)] Tryz.func396 rfl (fun u q=>?_) (.inr trivial)
   repeat'(first|refine gA ?_|(conv=>whnf);first|refine Sm.rf ?_|refine cv.mk (c1) (.inl rfl) ?_)
   refine aR.mk rfl rfl ?_;exact wC
 by_cases h3:j.Phase=3
 ·have c1:=yS k j hm h3
  refine fM 80 [(406,[2,0,0]),(407,[2,0,0,0]),(408,[2,0,0]),(409,[2,2])] [(7,7,[27,28,29,30,31,32,33]),(9,14,[38,39,40,41,42,43,44,45,46,47,48,49,50,51])] [(0,0),(1,0)] Tryz.func396 rfl (fun u q=>?_) (.inr trivial)
  repeat'(first|refine gA ?_|(conv=>whnf);first|refine Sm.rf ?_|refine cv.mk (c1) (.inl rfl) ?_)
  refine aR.mk rfl rfl ?_;exact wC
 ·unfold jstep
  rw[if_neg h0,if_neg h1,if_neg h2,if_neg h3];refine fM 80 [(406,[2,0,0]),(407,[2,0,0,0]),(408,[2,0,0]),(409,[2,2])] [(7,7,[27,28,29,30,31,32,33]),(9,14,[38,39,40,41,42,43,44,45,46,47,48,49,50,51])] [(0,0),(1,0)] Tryz.func396 rfl (fun u q=>?_) (.inr trivial)
  repeat'(first|refine gA ?_|(conv=>whnf);first|refine Sm.rf ?_)
  refine aR.mk rfl rfl ?_;exact wC
theorem A8 (k:af) (j:co) (hk:a8 k=true) (hj:iR j=true):ao Tryz.prog 395 false [.val (some 5) (af.enc .imm k),.val (some 5) (co.enc .imm j)] .one [B (jmay k j)]:=by
 have hs:=bp hk;have hz:d9 (af.enc .imm k)=af.enc .imm k:=by rw[<-af.enc_fz k,qx]
 have hcl:=(aB.1 hk).2.2.2.2;have c1:=ky k hs;rw[hk]at c1;have c2:=wj j (Ga hj);rw[hj]at c2;have c3:=dD k j.Plan.Keep hs.1.2;have c4:=dD k j.Plan.Move hs.1.2;have c5:=cP k.Machine.Table j.Plan.Keep hs.1.2;have c6:=cP k.Machine.Table j.Plan.Move hs.1.2;by_cases hc:k.Calls=100000
 ·rw[P0 (by omega)]at c1
  rw[show jmay k j=false by rw[<-Bool.not_eq_true,kZ];exact fun h=>h.1.2 hc];refine fO 44 [(3,16,[27,28,29,30,31,32,33,34,35,36,37,38,39,40,41,42])] Tryz.func395 rfl ?_
  repeat'(first|refine gO ?_|(conv=>whnf);first|refine Sm.rf ?_|refine Cl.mk (c1) ?_|refine Cl.mk (c2) ?_)
  rfl
 rw[O0 (by omega)]at c1;by_cases e1:(ar k.Machine.Table j.Plan.Keep).Mode=0
 ·rw[show jmay k j=false by rw[<-Bool.not_eq_true,kZ];exact fun h=>h.2.2.1 e1]
  refine fO 44 [(3,16,[27,28,29,30,31,32,33,34,35,36,37,38,39,40,41,42])] Tryz.func395 rfl ?_
  repeat'(first|refine gA ?_|(conv=>whnf);first|refine Sm.rf ?_|refine Cl.mk (c1) ?_|refine Cl.mk (c2) ?_|refine Cl.eq (c3) ⟨hz,⟨rfl,rfl⟩,trivial⟩ ?_|refine Cl.eq (c4) ⟨hz,⟨rfl,rfl⟩,trivial⟩ ?_)
  rfl
 by_cases e2:(ar k.Machine.Table j.Plan.Move).Mode=0
 ·rw[show jmay k j=false by rw[<-Bool.not_eq_true,kZ];exact fun h=>h.2.2.2.1 e2]
  refine fO 44 [(3,16,[27,28,29,30,31,32,33,34,35,36,37,38,39,40,41,42])] Tryz.func395 rfl ?_
  repeat'(first|refine gA ?_|(conv=>whnf);first|refine Sm.rf ?_|refine Cl.mk (c1) ?_|refine Cl.mk (c2) ?_|refine Cl.eq (c3) ⟨hz,⟨rfl,rfl⟩,trivial⟩ ?_|refine Cl.eq (c4) ⟨hz,⟨rfl,rfl⟩,trivial⟩ ?_)
  rfl
 refine fO 44 [(3,16,[27,28,29,30,31,32,33,34,35,36,37,38,39,40,41,42])] Tryz.func395 rfl ?_
 repeat'(first|refine gA ?_|(conv=>whnf);first|refine Sm.rf ?_|refine Cl.mk (c1) ?_|refine Cl.mk (c2) ?_|refine Cl.eq (c3) ⟨hz,⟨rfl,rfl⟩,trivial⟩ ?_|refine Cl.eq (c4) ⟨hz,⟨rfl,rfl⟩,trivial⟩ ?_|refine Cl.mk (c5) ?_|refine Cl.mk (c6) ?_|refine Sm.rf ?_)
 exact R0 (fun z=>[B z]) (by
   unfold jmay;rw[hk,hj,O0 hc];by_cases e3:(ar k.Machine.Table j.Plan.Keep).Frame=(ar k.Machine.Table j.Plan.Move).Frame
   · rw[P0 (fun h=>h.2.2 e3)];simp[e3]
   · rw[O0 ⟨e1,e2,e3⟩];simp[e3])
theorem zk (j:co):ao Tryz.prog 397 false [.val (some 5) (co.enc .imm j)] .one [B (over j)]:=by
 by_cases e1:j.Phase=4
 ·rw[show over j=true from O0 (.inl e1)]
  refine fO 11 [] Tryz.func397 rfl ?_
  repeat'(first|refine gA ?_|(conv=>whnf);first|refine Sm.rf ?_)
  rfl
 ·rw[show over j=decide (j.Phase=5) from decide_eq_decide.2 (by omega)]
  refine fO 11 [] Tryz.func397 rfl ?_
  repeat'(first|refine gA ?_|(conv=>whnf);first|refine Sm.rf ?_)
  exact R0 (fun z=>[B z]) (by rw[V3];simp)
def FI (x:ab):List C:=(bu x).set 21 .z
theorem Bw {x:ab} (h:x.Job.Plan.Cells=[]):JQ (FI x) (bu x):=by
 unfold FI bu;simp only[List.set,h,List.map_nil]
 repeat'(first|exact trivial|exact dK _|refine And.intro ?_ ?_|rfl)
theorem Ah (h:ab) (hi:bm h []) (hm:h.Meshing=true):aT Tryz.prog 368 false [.ptr (bu h)] [.ptr (bu (mStep h))] .one [B (D3 h)]:=by
 obtain⟨hj,-,-⟩:=hi.job hm;have c1:=A8 h.Kernel h.Job hi.ker hj;have c3:=zk (iI h.Kernel h.Job).2;unfold D3 mStep;cases e:jmay h.Kernel h.Job with
 | false=>
  rw[e]at c1;have ej:iI h.Kernel h.Job=(h.Kernel,h.Job):=by unfold iI;rw[e];rfl
  rw[ej]at c3 |-;simp only at c3 |-;cases eo:over h.Job<;>rw[eo]at c3
  ·refine fM 39 [(396,[3,5,5])] [(1,8,[4,5,6,7,8,9,10,11]),(2,6,[13,14,15,16,17,18])] [(0,0)] Tryz.func368 rfl (fun u q=>?_)
   repeat'(first|refine gO ?_|(conv=>whnf);first|refine Cl.eq (c1) ⟨⟨rfl,af.enc_fz h.Kernel⟩,⟨rfl,rfl⟩,trivial⟩ ?_|refine Cl.mk (c3) ?_|refine Sm.rf ?_)
   refine aR.mk rfl ?_ ?_
   ·exact R0 (fun z=>[B z]) (by rw[V3];simp)
   ·exact wC
  ·refine aT.wk (c:=FI _) ?_ (Bw rfl)
   refine fM 39 [(396,[3,5,5])] [(1,8,[4,5,6,7,8,9,10,11]),(2,6,[13,14,15,16,17,18])] [(0,0)] Tryz.func368 rfl (fun u q=>?_)
   repeat'(first|refine gO ?_|(conv=>whnf);first|refine Cl.eq (c1) ⟨⟨rfl,af.enc_fz h.Kernel⟩,⟨rfl,rfl⟩,trivial⟩ ?_|refine Cl.mk (c3) ?_|refine Sm.rf ?_)
   refine aR.mk rfl ?_ ?_
   ·exact R0 (fun z=>[B z]) (by rw[V3];simp)
   ·exact wC
 | true=>
  rw[e]at c1;have ej:iI h.Kernel h.Job=jstep h.Kernel h.Job:=by unfold iI;rw[e];rfl
  have c2:=zE h.Kernel h.Job e;rw[ej]at c3 |-;generalize jstep h.Kernel h.Job=r at c2 c3 |-;cases eo:over r.2<;>rw[eo]at c3
  ·refine fM 39 [(396,[3,5,5])] [(1,8,[4,5,6,7,8,9,10,11]),(2,6,[13,14,15,16,17,18])] [(0,0)] Tryz.func368 rfl (fun u q=>?_)
   repeat'(first|refine gO ?_|(conv=>whnf);first|refine Cl.eq (c1) ⟨⟨rfl,af.enc_fz h.Kernel⟩,⟨rfl,rfl⟩,trivial⟩ ?_|refine Cl.mk (c3) ?_|refine cv.mk (c2) (.inl rfl) ?_|refine Sm.rf ?_)
   refine aR.mk rfl ?_ ?_
   ·exact R0 (fun z=>[B z]) (by rw[V3];simp)
   ·exact wC
  ·refine aT.wk (c:=FI _) ?_ (Bw rfl)
   refine fM 39 [(396,[3,5,5])] [(1,8,[4,5,6,7,8,9,10,11]),(2,6,[13,14,15,16,17,18])] [(0,0)] Tryz.func368 rfl (fun u q=>?_)
   repeat'(first|refine gO ?_|(conv=>whnf);first|refine Cl.eq (c1) ⟨⟨rfl,af.enc_fz h.Kernel⟩,⟨rfl,rfl⟩,trivial⟩ ?_|refine Cl.mk (c3) ?_|refine cv.mk (c2) (.inl rfl) ?_|refine Sm.rf ?_)
   refine aR.mk rfl ?_ ?_
   ·exact R0 (fun z=>[B z]) (by rw[V3];simp)
   ·exact wC
theorem Fk {k:Int} : ∀ {l s s2 s':List Int} (n:Nat),(∀ x∈s2,x∈s)->pP k s l=some s'->∃ s2',pP k s2 (l.take n)=some s2'/\∀ x∈s2',x∈s'
 | [],s,s2,s',n,h,e=>by
  simp only[pP,T0,List.take_nil]at e |-;subst e;exact⟨s2,rfl,h⟩
 | a::l,s,s2,s',0,h,e=>⟨s2,rfl,fun x hx=>(nj (fun _ y=>y) e).1 x (h x hx)⟩
 | a::l,s,s2,s',n+1,h,e=>by
  simp only[List.take_succ_cons,pP]at e |-;split at e
  ·rename_i g
   rw[if_pos (show good k s2 a from⟨g.1,g.2.1,g.2.2.1,fun x=>g.2.2.2 (h a x)⟩)];exact Fk (l:=l) (s:=s++[a]) (s2:=s2++[a]) n (fun x hx=>by
     rcases C2.1 hx with hx|hx
     · exact C2.2 (.inl (h x hx))
     · exact C2.2 (.inr hx)) e
  ·cases e
theorem AS:∀ {ls:List (List Int)} {k:Nat} {s s2:List Int} (i n:Nat),(∀ x∈s2,x∈s)->(fC k s ls).isSome=true->(fC k s2 (ls.set i ((nth ls i).take n))).isSome=true
 | [],_,_,_,_,_,_,_=>rfl
 | l::ls,k,s,s2,i,n,h,e=>by
  simp only[fC,dO]at e;split at e
  ·rename_i g
   cases e1:pP k s l with
   | none=>rw[e1]at e;cases e
   | some s'=>
    rw[e1]at e;cases i with
    | zero=>
     obtain⟨s2',e2,h2⟩:=Fk n h e1;simp only[List.set_cons_zero,fC,dO];rw[if_pos ⟨by have:=g.1;simp only[nth,List.getD_cons_zero,C1];omega,g.2⟩];show((pP (k:Nat) s2 (l.take n)).bind fun s'=>fC (k+1) s' ls).isSome=true;rw[e2];exact rn h2 e
    | succ i=>
     obtain⟨h1,s2',e2,h2⟩:=nj h e1;simp only[List.set_cons_succ,fC,dO];rw[if_pos g,e2];exact AS i n h2 e
  ·cases e
theorem Lf {c:aC} (h:bn c=true) (k:Nat):bn (qS c k)=true:=by
 unfold bn at h |-;simp only[I0,C0]at h |-;exact⟨by simp only[qS,Z0];exact h.1,AS k _ (fun _ h=>h) h.2⟩
def nB (b:Int):Nat->List Int
 | 0=>[]
 | j+1=>if aY b (j:Nat)=true then nB b j else nB b j++[((j:Nat):Int)]
theorem rT {b:Int} : ∀ {n:Nat} {z:Int},z∈nB b n->0<=z/\z<n/\aY b z=false
 | 0,_,h=>by cases h
 | n+1,z,h=>by
  unfold nB at h;split at h
  ·have:=rT h;exact⟨this.1,by omega,this.2.2⟩
  ·rename_i e
   rcases C2.1 h with h|h
   ·have:=rT h;exact⟨this.1,by omega,this.2.2⟩
   ·rw[X0.1 h];exact⟨by omega,by omega,by simpa using e⟩
theorem rR (b:Int):∀ n,(nB b n).length<=n
 | 0=>I2 _
 | n+1=>by have:=rR b n;unfold nB;split<;>simp<;>omega
def pn (k b:Int):List Int:=if JJ k b=true then nB b (slots k).toNat else []
def mi (h:ab) (i:Nat):List Int:=pn (nth h.Spans i).Class (gq h i)
theorem vn {k b z:Int} (h:z∈pn k b):0<=z/\z<slots k/\aY b z=false:=by
 unfold pn at h;split at h
 ·have:=rT h;exact⟨this.1,by omega,this.2.2⟩
 ·cases h
theorem Eg (k b:Int):(pn k b).length<=16:=by
 unfold pn;split
 ·rename_i h
  unfold JJ at h;rw[C0]at h;have:=(ge (k:=k) ⟨h.1,h.2.1⟩).2.2.1;have:=rR b (slots k).toNat;omega
 ·exact Q0 _
def oP (h:ab) (i:Nat):Int:=nth (mi h i) (J1 h.Seed ((mi h i).length:Nat)).toNat
def slotT (h:ab) (i:Nat):ab:={h with Seed:=FN h.Seed,Spans:=h.Spans.set i (pB (nth h.Spans i) (oP h i))}
def sV (h:ab) (i:Nat):Int:=16*(nth h.Spans i).Page+oP h i*csz (nth h.Spans i).Class
theorem yb {h:ab} {i:Nat} (hf:0<(mi h i).length):oP h i∈mi h i:=by
 have:=vi h.Seed (n:=((mi h i).length:Nat)) (by omega);exact am (by omega)
theorem bm.slotT {h:ab} {E:List Int} {i:Nat} (hi:bm h E) (li:i<h.Spans.length) (hf:0<(mi h i).length):bm (slotT h i) (sV h i::E)/\iU (slotT h i).Spans (sV h i) (nth h.Spans i).Class:=by
 obtain⟨m1,m2,m3⟩:=vn (yb hf);exact⟨hi.take li ⟨m1,m2⟩ m3 (DZ _),(iU.setS hi.L li ⟨m1,m2⟩ _ _).2 (.inr ⟨rfl,.inr rfl⟩)⟩
def r7 (h:ab) (c:Int) (i:Nat):Bool:=decide ((nth h.Spans i).Class=c)&&(!gv h (nth h.Spans i).Page&&decide (0<(mi h i).length))
def rG (h:ab) (c:Int):Option Nat:=(List.range h.Spans.length).find? (r7 h c)
def wH (h:ab) (c:Int):ab:=addS h (fB h.Kernel (ay h.Free 1).2.1).1 (ay h.Free 1).1 (ay h.Free 1).2.1 c
def tB (h:ab):Nat:=jt (Hk (ay h.Free 1).2.1) h.Spans
def mP (h:ab) (i:Nat):ab × Int:=if(mi h i).length=0 then(h,-1) else(slotT h i,sV h i)
def ep (h:ab) (t c:Nat):ab × Int:=
 if 0<(nth (nth h.Caches t).Lists c).length then({h with Caches:=h.Caches.set t (qS (nth h.Caches t) c)},nth (nth (nth h.Caches t).Lists c) ((nth (nth h.Caches t).Lists c).length - 1))
 else match rG h c with
 | some i=>(slotT h i,sV h i)
 | none=>if(ay h.Free 1).2.2=false then(h,-1)
  else if(fB h.Kernel (ay h.Free 1).2.1).2=false then({h with Kernel:=(fB h.Kernel (ay h.Free 1).2.1).1},-1)
  else mP (wH h c) (tB h)
theorem Fx {α:Type} [Inhabited α] (p:α->Bool) (xs:List α) (y:α):jt p xs<(iK p xs y).length/\nth (iK p xs y) (jt p xs)=y:=by
 have h1:=Lw p xs;have h2:(xs.take (jt p xs)).length=jt p xs:=by rw[C1];omega
 refine⟨by rw[(jx p xs y).length_eq,List.length_cons];omega,bq ?_⟩;unfold iK;rw[T3 (by omega),h2,Nat.sub_self]
 rfl
theorem bm.tEq {h:ab} {E:List Int} (hi:bm h E) {k:af} (hk:a8 k=true) (he:tEq (tbl h) k.Machine.Table):bm {h with Kernel:=k} E/\JK h {h with Kernel:=k}:=
 ⟨hi.step (j:=h.Job) (m:=h.Meshing) hk he.1 (hi.pg.tEq he) hi.job hi.noj,⟨rfl,rfl,fun s hs _=>⟨s,hs,rfl,fun _ z=>z⟩,fun q hq=>.inl ⟨(he.2 q).1.1 hq,(he.2 q).2⟩⟩⟩
structure Nz (h:ab) (c:Int) (r:ab × Int):Prop where
 no:r.2<0->bm r.1 []
 yes:0<=r.2->bm r.1 [r.2]/\iU r.1.Spans r.2 c
 jk:JK h r.1
 nx:r.1.Next=h.Next
 cl:r.1.Caches.length=h.Caches.length
theorem iU.nn {h:ab} {E:List Int} (hi:bm h E) {a c:Int} (hs:iU h.Spans a c):0<=a:=(iU.bd hi hs).1
theorem Nz.slot {h h':ab} {i:Nat} {c:Int} (hi:bm h' []) (li:i<h'.Spans.length) (hf:0<(mi h' i).length) (hc:(nth h'.Spans i).Class=c) (hk:JK h h') (hno:gv h' (nth h'.Spans i).Page=false) (h1:h'.Next=h.Next) (h2:h'.Caches.length=h.Caches.length):Nz h c (slotT h' i,sV h' i):=by
 obtain⟨k1,k2⟩:=hi.slotT li hf;have hnn:=iU.nn k1 k2;exact⟨fun e=>absurd hnn (by simp only at e;omega),fun _=>⟨k1,by rw[<-hc];exact k2⟩,hk.trans (JK.take hno),h1,h2⟩
theorem yq {h:ab} {t c:Nat} (hi:bm h []) (ht:t<h.Caches.length) (hc:c<=3) (hcl:h.Kernel.Calls<=90000):Nz h c (ep h t c):=by
 have hck:=hi.cach _ (am ht);have hl4:=sN hck;unfold ep;split
 ·rename_i hn
  obtain⟨k1,k2⟩:=hi.pop ht (by omega) hn (Lf hck c);have hnn:=iU.nn hi k2;exact⟨fun e=>absurd hnn (by simp only at e;omega),fun _=>⟨k1,k2⟩,JK.eq rfl rfl rfl rfl,rfl,Z0 ..⟩
 split
 ·rename_i i hf
  have h1:=List.find?_some hf;have h2:=List.mem_range.1 (List.mem_of_find?_eq_some hf);unfold r7 at h1;simp only[I0,C0,Bool.not_eq_true']at h1;exact Nz.slot hi h2 h1.2.2 h1.1 (JK.refl h) h1.2.1 rfl rfl
 split
 ·exact⟨fun _=>hi,fun e=>absurd e (by show ¬(0:Int)<=-1;decide),JK.refl h,rfl,rfl⟩
 rename_i hr;have hr':(ay h.Free 1).2.2=true:=by simpa using hr
 obtain⟨u1,u2,u3,u4⟩:=ko hi (Y3 1) hr';have s:=zN.of (p:=(ay h.Free 1).2.1) hi.ker (by omega) ⟨u1,by have:(ay h.Free 1).2.1+1<=(h.Kernel.Machine.Table.Entries.length:Nat):=u2;omega⟩ (u3 _ (by omega) (by omega));split
 ·rename_i hk
  rw[s.no hk];obtain⟨k1,k2⟩:=hi.tEq (kR hi.ker (by omega)) (tEq.refl _);exact⟨fun _=>k1,fun e=>absurd e (by show ¬(0:Int)<=-1;decide),k2,rfl,rfl⟩
 rename_i hk;have hk':(fB h.Kernel (ay h.Free 1).2.1).2=true:=by simpa using hk
 have s':zN h.Kernel (ay h.Free 1).2.1 ((fB h.Kernel (ay h.Free 1).2.1).1,true):=by rw[<-hk'];exact s
 have k1:=hi.addS (c:=c) ⟨by omega,by omega⟩ hr' s';have k2:JK h (wH h c):=JK.addS s';obtain⟨p1,p2⟩:=Fx (Hk (ay h.Free 1).2.1) h.Spans ⟨(ay h.Free 1).2.1,c,0⟩;unfold mP;split
 ·exact⟨fun _=>k1,fun e=>absurd e (by show ¬(0:Int)<=-1;decide),k2,rfl,rfl⟩
 ·refine Nz.slot (h':=wH h c) (i:=tB h) k1 p1 (by omega) (by show(nth (iK (Hk (ay h.Free 1).2.1) h.Spans ⟨(ay h.Free 1).2.1,c,0⟩) (tB h)).Class=_;unfold tB;rw[p2]) k2 ?_ rfl rfl
  show gv (wH h c) (nth (iK (Hk (ay h.Free 1).2.1) h.Spans ⟨(ay h.Free 1).2.1,c,0⟩) (tB h)).Page=false;unfold tB;rw[p2,k2.pg];rw[<-Bool.not_eq_true];intro hj;unfold gv at hj;simp only[I0,Bool.or_eq_true,C0]at hj;obtain⟨-,⟨y,hy,ey⟩,⟨z,hz,ez⟩⟩:=hi.job hj.1;rcases hj.2 with e|e
  ·exact u4 _ (Y3 _) (by omega) (by rw[e,<-ey];exact du hy)
  ·exact u4 _ (Y3 _) (by omega) (by rw[e,<-ez];exact du hz)
def jU (size:Int):Nat:=((size+15) / 16).toNat
def i7 (h:ab) (size:Int):af × Nat:=cr h.Kernel (ay h.Free (jU size:Nat)).2.1 (jU size)
def nQ (h:ab) (t size:Int):ab × Int × Int:=
 if(ay h.Free (jU size:Nat)).2.2=false then(h,-1,4)
 else if(i7 h size).2=jU size then(addL h (i7 h size).1 (ay h.Free (jU size:Nat)).1 (ay h.Free (jU size:Nat)).2.1 (jU size:Nat) size t,16*(ay h.Free (jU size:Nat)).2.1,0)
 else({h with Kernel:=dL (i7 h size).1 (ay h.Free (jU size:Nat)).2.1 (i7 h size).2},-1,4)
def rA (xs:List bO):Nat->Int
 | 0=>0
 | i+1=>rA xs i+(nth xs i).Size
def vK (h:ab):Int:=rA h.Objs h.Objs.length
def fw (h:ab) (t size:Int):ab × Int × Int:=
 if 1000000<=h.Next\/90000<h.Kernel.Calls then(h,-1,5)
 else if ¬(0<=t/\t<=h.Caches.length - 1) then(h,-1,1)
 else if ¬(1<=size/\size<=1000) then(h,-1,2)
 else if h.Limit<vK h+size then(h,-1,3)
 else if 0<=aN size then(if(ep h t.toNat (aN size).toNat).2<0 then((ep h t.toNat (aN size).toNat).1,-1,4) else(addO (ep h t.toNat (aN size).toNat).1 (ep h t.toNat (aN size).toNat).2 size t,(ep h t.toNat (aN size).toNat).2,0))
 else nQ h t size
theorem G5 {h:ab} {t size:Int} (hi:bm h []) (hz:9<=size/\size<=1000) (hn:h.Next<1000000) (hcl:h.Kernel.Calls<=90000) (ht:0<=t/\t<=h.Caches.length - 1):bm (nQ h t size).1 []/\JK h (nQ h t size).1:=by
 have hl:(jU size:Int)=(size+15) / 16:=by unfold jU;omega
 unfold nQ;split
 ·exact⟨hi,JK.refl h⟩
 rename_i hr;have hr':(ay h.Free (jU size:Nat)).2.2=true:=by simpa using hr
 obtain⟨u1,u2,u3,u4⟩:=ko hi (show(1:Int)<=(jU size:Nat) by omega) hr';have s:=nu.of (p:=(ay h.Free (jU size:Nat)).2.1) (n:=jU size) hi.ker (by omega) ⟨u1,u2⟩ u3 (jU size) (I2 _);split
 ·rename_i hk
  have s':nu h.Kernel (ay h.Free (jU size:Nat)).2.1 (jU size) ((i7 h size).1,jU size):=by
   have:((i7 h size).1,jU size)=i7 h size:=by rw[<-hk]
   rw[this];exact s
  exact⟨hi.addL hz hl hr' s' hn ht,JK.addL s'⟩
 ·obtain⟨k1,k2⟩:=s.undo hi.ker ⟨u1,u2⟩ u3
  exact hi.tEq k1 k2
theorem GW {h:ab} {t size:Int} (hi:bm h []):bm (fw h t size).1 []/\JK h (fw h t size).1:=by
 unfold fw;split
 ·exact⟨hi,JK.refl h⟩
 rename_i h1;rw[not_or]at h1;split
 ·exact⟨hi,JK.refl h⟩
 rename_i h2;split
 ·exact⟨hi,JK.refl h⟩
 rename_i h3;split
 ·exact⟨hi,JK.refl h⟩
 split
 ·rename_i hc
  have hcc:aN size<=3:=by unfold aN;repeat' split<;>omega
  have s:=yq (t:=t.toNat) (c:=(aN size).toNat) hi (by omega) (by omega) (by omega);generalize ep h t.toNat (aN size).toNat=r at s;split
  ·rename_i e;exact⟨s.no e,s.jk⟩
  ·rename_i e
   obtain⟨k1,k2⟩:=s.yes (by omega);refine⟨k1.addO (.inl ?_) (by rw[s.nx];omega) (by rw[s.cl];omega),s.jk.trans (JK.eq rfl rfl rfl rfl)⟩;obtain⟨z,hz,g1,g2⟩:=k2;exact⟨z,hz,g1,by show z.Class=aN size;omega⟩
 ·rename_i hc
  have h9:9<=size:=by
   unfold aN at hc
   repeat' split at hc<;>omega
  exact G5 hi ⟨h9,by omega⟩ (by omega) (by omega) (by omega)
theorem mj {α β:Type} [Inhabited α] {f:α->β} {xs:List α} {i:Nat} {y:α} (hi:i<xs.length) (e:f y=f (nth xs i)):(xs.set i y).map f=xs.map f:=by
 rw[List.map_set];refine List.ext_getElem (by simp) fun j h1 h2=>?_
 rw[List.getElem_set];split
 ·rename_i g;subst g
  rw[List.getElem_map,e,bq (Q1 hi)]
 ·rfl
theorem my {α β:Type} [Inhabited α] (f:α->List β):∀ (xs:List α) (i:Nat) (y:α),i<xs.length->(f y).Sublist (f (nth xs i))->((xs.set i y).flatMap f).Sublist (xs.flatMap f)
 | [],_,_,h,_=>absurd h (Nat.not_lt_zero _)
 | x::xs,0,y,_,hs=>by
  rw[List.set_cons_zero,List.flatMap_cons,List.flatMap_cons];exact List.Sublist.append hs (List.Sublist.refl _)
 | x::xs,i+1,y,h,hs=>by
  rw[List.set_cons_succ,List.flatMap_cons,List.flatMap_cons];exact List.Sublist.append (List.Sublist.refl _) (my f xs i y (by simpa using h) hs)
def zK (k:af) (a:Int):Nat->af
 | 0=>k
 | m+1=>ki (zK k a m) (a+m) 0
theorem rz (k:af) (a:Int):∀ m,(zK k a m).Machine.Table=k.Machine.Table/\(zK k a m).Calls=k.Calls/\(zK k a m).Refuse=k.Refuse
 | 0=>⟨rfl,rfl,rfl⟩
 | m+1=>rz k a m
theorem Mc {k:af} (h:a8 k=true) {a:Int} : ∀ {m:Nat},(∀ j:Nat,j<m->(ar k.Machine.Table ((a+j) / 16)).Mode≠0)->a8 (zK k a m)=true
 | 0,_=>h
 | m+1,hm=>uw (Mc h fun j hj=>hm j (by omega)) (by rw[(rz k a m).1];exact hm m (by omega)) ⟨by omega,by omega⟩
theorem DA {h:ab} {E:List Int} (hi:bm h E) {sp:List au} {la:List aA} {o:List a7} {p:Int} {n:Nat} (hlt:p+n<=h.Kernel.Machine.Table.Entries.length) (hs:sp.Sublist h.Spans) (hl:∀ l∈la,∀ q∈lpgs l l.Pages.toNat,∃ l0∈h.Larges,q∈lpgs l0 l0.Pages.toNat) (hp:0<=p) (hm:∀ q,q∈pgs sp la↔q∈pgs h.Spans h.Larges/\¬(p<=q/\q<p+n)) (o3:∀ q,RH o q↔RH h.Free q\/(p<=q/\q<p+n)) :
  Pg (dL h.Kernel p n).Machine.Table o sp la:=by
 have hlen:=(gY h.Kernel p n).1;have hent:=lh hi.ker hp n hlt;have hold:∀ q:Nat,(q:Int)∈pgs sp la->nth (dL h.Kernel p n).Machine.Table.Entries q=nth (tbl h).Entries q:=fun q hq=>by rw[hent,if_neg ((hm q).1 hq).2];rfl
 have hmode:∀ q:Nat,(nth (dL h.Kernel p n).Machine.Table.Entries q).Mode≠0↔(nth (tbl h).Entries q).Mode≠0/\¬(p<=q/\(q:Int)<p+n):=fun q=>by
  rw[hent];by_cases e:p<=q/\(q:Int)<p+n
  ·rw[if_pos e];exact⟨fun x=>absurd rfl x,fun x=>absurd e x.2⟩
  ·rw[if_neg e];exact⟨fun x=>⟨x,e⟩,fun x=>x.1⟩
 refine⟨fun l h1 q hq r hr hrm hrf=>?_,fun q hq=>?_,fun q hq=>?_,fun q hq=>?_,fun s h1 u h2 hne hf=>?_⟩
 ·have hr2:=(hmode r).1 hrm
  rw[hlen]at hr;rw[hold q (eY h1 hq),hent,if_neg hr2.2]at hrf;obtain⟨l0,hl0,hq0⟩:=hl l h1 _ hq;exact hi.pg.one l0 hl0 q hq0 r hr hr2.1 hrf
 ·rw[hlen];exact hi.pg.bnd q ((hm q).1 hq).1
 ·rw[hlen]at hq
  rw[hmode,hm,hi.pg.own q hq]
 ·rw[hlen]at hq
  rw[hmode,o3,hi.pg.fre q hq]
  grind
 ·have hpos:∀ s∈sp,0<=s.Page:=fun s h1=>(aG (hi.L.sok s (hs.subset h1))).1
  have e1:=hold s.Page.toNat (by rw[Int.toNat_of_nonneg (hpos s h1)];exact du h1);have e2:=hold u.Page.toNat (by rw[Int.toNat_of_nonneg (hpos u h2)];exact du h2);rw[e1,e2]at hf;exact hi.pg.mesh s (hs.subset h1) u (hs.subset h2) hne hf
def trimL (l:aA) (size:Int):aA:=⟨l.Page,(size+15) / 16,size⟩
def d8 (l:aA) (size:Int):Nat:=(l.Pages - (size+15) / 16).toNat
theorem bm.trimL {h:ab} {E:List Int} {i k:Nat} {size:Int} (hi:bm h E) (li:i<h.Objs.length) (lk:k<h.Larges.length) (ea:(nth h.Objs i).Addr=16*(nth h.Larges k).Page) (hz:9<=size/\size<=(nth h.Larges k).Size) :
  ∃ o,(d8 (nth h.Larges k) size=0->o=h.Free)/\(0<d8 (nth h.Larges k) size->dn (dG h) h.Free ⟨(nth h.Larges k).Page+(size+15) / 16,(d8 (nth h.Larges k) size:Nat)⟩ = some o)/\
   bm {h with Kernel:=dL h.Kernel ((nth h.Larges k).Page+(size+15) / 16) (d8 (nth h.Larges k) size),Larges:=h.Larges.set k (trimL (nth h.Larges k) size),Objs:=h.Objs.set i {nth h.Objs i with Size:=size},Free:=o} E:=by
 have hL:=hi.L;have hok:=hL.lok _ (am lk);have hf:=aV hok;unfold bS at hok;rw[C0]at hok;obtain⟨b1,b2⟩:=zl hi lk;have hdis:=hL.dis;have hone:=fun j hj=>hL.one j k hj lk
 have hlm:=(am lk:nth h.Larges k∈h.Larges)
 have hmemL:∀ z∈h.Larges.set k (Ab.trimL (nth h.Larges k) size),z=Ab.trimL (nth h.Larges k) size\/∃ j,j<h.Larges.length/\j≠k/\nth h.Larges j=z:=fun z hz=>eI hz
 have hself:Ab.trimL (nth h.Larges k) size∈h.Larges.set k (Ab.trimL (nth h.Larges k) size):=ij _ lk;have hoth:∀ j,j<h.Larges.length->j≠k->nth h.Larges j∈h.Larges.set k (Ab.trimL (nth h.Larges k) size):=fun j hj e=>iP _ hj e
 have hpageM:(h.Larges.set k (Ab.trimL (nth h.Larges k) size)).map (·.Page)=h.Larges.map (·.Page):=mj lk rfl;have hsubP:(pgs h.Spans (h.Larges.set k (Ab.trimL (nth h.Larges k) size))).Sublist (pgs h.Spans h.Larges):=by
  unfold pgs;refine List.Sublist.append (List.Sublist.refl _) (my _ _ _ _ lk ?_);unfold lpgs;exact(List.range_sublist.2 (by simp only[Ab.trimL];omega)).map _
 obtain⟨l,hl⟩ : ∃ l,nth h.Larges k=l:=⟨_,rfl⟩
 rw[hl]at hok hf b1 b2 hone hlm hmemL hself hoth hpageM hsubP ea hz |-;generalize hla:h.Larges.set k (Ab.trimL l size)=la at hmemL hself hoth hpageM hsubP |-;have hn1:(1:Int)<=(size+15) / 16/\(size+15) / 16+(d8 l size:Nat)=l.Pages:=by unfold d8;omega
 have hlp:∀ q,q∈lpgs l l.Pages.toNat↔l.Page<=q/\q<l.Page+l.Pages:=fun q=>by
  rw[dc];constructor
  ·rintro⟨j,hj,rfl⟩;omega
  ·rintro⟨q1,q2⟩;exact⟨(q - l.Page).toNat,by omega,by omega⟩
 have hlt:∀ q,q∈lpgs (Ab.trimL l size) (Ab.trimL l size).Pages.toNat↔l.Page<=q/\q<l.Page+(size+15) / 16:=fun q=>by
  rw[dc];simp only[Ab.trimL];constructor
  ·rintro⟨j,hj,rfl⟩;omega
  ·rintro⟨q1,q2⟩;exact⟨(q - l.Page).toNat,by omega,by omega⟩
 have hpe:l.Page+(size+15) / 16+(d8 l size:Nat)=l.Page+l.Pages:=by omega
 have hmem:∀ q,q∈pgs h.Spans la↔q∈pgs h.Spans h.Larges/\¬(l.Page+(size+15) / 16<=q/\q<l.Page+(size+15) / 16+(d8 l size:Nat)):=fun q=>by
  rw[nR,nR,hpe];constructor
  ·rintro(⟨s,hs,rfl⟩|⟨z,hz',hq⟩)
   ·exact⟨.inl ⟨s,hs,rfl⟩,fun e=>hdis s hs l hlm (s.Page - l.Page).toNat (by omega) (by omega)⟩
   ·rcases hmemL z hz' with rfl|⟨j,hj,hjk,rfl⟩
    ·have:=(hlt q).1 hq
     exact⟨.inr ⟨l,hlm,(hlp q).2 ⟨by omega,by omega⟩⟩,by omega⟩
    ·refine⟨.inr ⟨_,am hj,hq⟩,fun e=>?_⟩
     obtain⟨m,hm,rfl⟩:=dc.1 hq;exact hjk (hone j hj m ((nth h.Larges j).Page+(m:Int) - l.Page).toNat hm (by omega) (by omega))
  ·rintro⟨⟨s,hs,rfl⟩|⟨z,hz',hq⟩,hne⟩
   ·exact .inl ⟨s,hs,rfl⟩
   ·obtain⟨j,hj,rfl⟩:=bc hz'
    by_cases e:j=k
    ·subst e
     rw[hl]at hq;have:=(hlp q).1 hq;exact .inr ⟨_,hself,(hlt q).2 ⟨by omega,by omega⟩⟩
    ·exact .inr ⟨_,hoth j hj e,hq⟩
 have hfree:∃ o,(d8 l size=0->o=h.Free)/\(0<d8 l size->dn (dG h) h.Free ⟨l.Page+(size+15) / 16,(d8 l size:Nat)⟩ = some o)/\bx (dG h) o=true/\∀ q,RH o q↔RH h.Free q\/(l.Page+(size+15) / 16<=q/\q<l.Page+(size+15) / 16+(d8 l size:Nat)):=by
  by_cases e:d8 l size=0
  ·refine⟨h.Free,fun _=>rfl,fun g=>absurd g (by omega),hi.rng,fun q=>⟨.inl,fun g=>g.resolve_right (by omega)⟩⟩
  ·obtain⟨o,o1,o2,o3⟩:=tf (r:=⟨l.Page+(size+15) / 16,(d8 l size:Nat)⟩) hi.rng ⟨by simp only;omega,by simp only;omega,by show l.Page+(size+15) / 16+(d8 l size:Nat)<=(dG h:Int);have:((tbl h).Entries.length:Int)=(dG h:Int):=rfl;omega⟩ fun q q1 q2=>by
    simp only at q1 q2;obtain⟨m,rfl⟩:=Z1 (show 0<=q by omega);have hml:m<(tbl h).Entries.length:=by omega
    exact(hi.pg.fre m hml).1 ((hi.pg.own m hml).2 (eY hlm ((hlp _).2 ⟨by omega,by omega⟩)))
   exact⟨o,fun g=>absurd g e,fun _=>o1,o2,o3⟩
 obtain⟨o,o0,o1,o2,o3⟩:=hfree;have hlen:=(gY h.Kernel (l.Page+(size+15) / 16) (d8 l size)).1;have hob:∀ z∈h.Objs.set i {nth h.Objs i with Size:=size},z = {nth h.Objs i with Size:=size}\/∃ j,j<h.Objs.length/\j≠i/\nth h.Objs j=z:=fun z hz=>eI hz
 have hoa:(h.Objs.set i {nth h.Objs i with Size:=size}).map (·.Addr)=h.Objs.map (·.Addr):=mj li rfl;have hoi:(h.Objs.set i {nth h.Objs i with Size:=size}).map (·.Id)=h.Objs.map (·.Id):=mj li rfl;have hli:=(am li:nth h.Objs i∈h.Objs)
 generalize h.Objs.set i {nth h.Objs i with Size:=size} = ob at hob hoa hoi |-;refine⟨o,o0,o1,{hi with
   ker:=jY hi.ker _ _
   rng:=by show bx (((dL h.Kernel (l.Page+(size+15) / 16) (d8 l size)).Machine.Table.Entries.length:Nat):Int) o=true;rw[hlen];exact o2
   lay:=?_
   srl:=?_
   pg:=DA hi (by have:((tbl h).Entries.length:Int)=(h.Kernel.Machine.Table.Entries.length:Int):=rfl;omega) (List.Sublist.refl _) (fun z hz' q hq=>?_) (by omega) hmem o3
   osr:=?_
   onu:=fun z hz'=>?_
   oid:=by show(ob.map (·.Id)).Nodup;rw[hoi];exact hi.oid
   oow:=fun z hz'=>?_
   nd:=?_
   mem:=fun b=>?_}⟩
 ·obtain⟨l1,l2,l3⟩:=cZ hi.lay
  unfold bg;simp only[I0,C0];refine⟨⟨l1,z3.2 fun z hz'=>?_⟩,l3.sublist hsubP⟩;rcases hmemL z hz' with rfl|⟨j,hj,-,rfl⟩
  ·exact O0 ⟨hz.1,by show size<=1000;omega,rfl,by show 0<=l.Page;omega,by show l.Page<=32 - (size+15) / 16;omega⟩
  ·exact hL.lok _ (am hj)
 ·have h1:(h.Larges.map (·.Page)).Pairwise (fun a b=>a<b):=List.pairwise_map.2 hi.srl
  rw[<-hpageM]at h1;exact List.pairwise_map.1 h1
 ·rcases hmemL z hz' with rfl|⟨j,hj,-,rfl⟩
  ·have:=(hlt q).1 hq
   exact⟨l,hlm,(hlp q).2 ⟨by omega,by omega⟩⟩
  ·exact⟨_,am hj,hq⟩
 ·have h1:(h.Objs.map (·.Addr)).Pairwise (fun a b=>a<b):=List.pairwise_map.2 hi.osr
  rw[<-hoa]at h1;exact List.pairwise_map.1 h1
 ·rcases hob z hz' with rfl|⟨j,hj,-,rfl⟩
  ·exact hi.onu (nth h.Objs i) hli
  ·exact hi.onu _ (am hj)
 ·rcases hob z hz' with rfl|⟨j,hj,hji,rfl⟩
  ·exact .inr ⟨_,hself,ea,rfl⟩
  ·rcases hi.oow _ (am hj) with h1|⟨l',hl',e1,e2⟩
   ·exact .inl h1
   ·obtain⟨m,hm,rfl⟩:=bc hl'
    by_cases e:m=k
    ·subst e
     rw[hl]at e1;exact absurd (gy (f:=(·.Addr)) (gJ hi.osr) hj li (e1.trans ea.symm)) hji
    ·exact .inr ⟨_,hoth m hm e,e1,e2⟩
 ·have hh:holders {h with Kernel:=dL h.Kernel (l.Page+(size+15) / 16) (d8 l size),Larges:=la,Objs:=ob,Free:=o} = holders h:=by
   show((ob.map (·.Addr)++ch h)++h.Quar.Lst.map (·.Addr))++aL h.Mail=_;rw[hoa];rfl
  rw[hh];exact hi.nd
 ·have hh:holders {h with Kernel:=dL h.Kernel (l.Page+(size+15) / 16) (d8 l size),Larges:=la,Objs:=ob,Free:=o} = holders h:=by
   show((ob.map (·.Addr)++ch h)++h.Quar.Lst.map (·.Addr))++aL h.Mail=_;rw[hoa];rfl
  rw[hh,hi.mem b];show lw h.Spans h.Larges b↔lw h.Spans la b;unfold lw;constructor
  ·rintro(h1|⟨z,hz',e⟩)
   ·exact .inl h1
   ·obtain⟨j,hj,rfl⟩:=bc hz'
    by_cases e2:j=k
    ·subst e2
     rw[hl]at e;exact .inr ⟨_,hself,e⟩
    ·exact .inr ⟨_,hoth j hj e2,e⟩
  ·rintro(h1|⟨z,hz',e⟩)
   ·exact .inl h1
   ·rcases hmemL z hz' with rfl|⟨j,hj,-,rfl⟩
    ·exact .inr ⟨l,hlm,e⟩
    ·exact .inr ⟨_,am hj,e⟩
def sZ (h:ab) (k:Nat) (size:Int):af:=zK h.Kernel (16*(nth h.Larges k).Page+size) (16*((size+15) / 16) - size).toNat
def Fn (h:ab) (k:Nat) (size:Int):List a7:=if 0<d8 (nth h.Larges k) size then(dn (dG h) h.Free ⟨(nth h.Larges k).Page+(size+15) / 16,(d8 (nth h.Larges k) size:Nat)⟩).getD h.Free else h.Free
def trimH (h:ab) (i k:Nat) (size:Int):ab:={h with Kernel:=dL (sZ h k size) ((nth h.Larges k).Page+(size+15) / 16) (d8 (nth h.Larges k) size),Larges:=h.Larges.set k (trimL (nth h.Larges k) size),Objs:=h.Objs.set i {nth h.Objs i with Size:=size},Free:=Fn h k size}
theorem nv {h:ab} {E:List Int} (hi:bm h E) {k:Nat} (lk:k<h.Larges.length) {a:Int} (ha:16*(nth h.Larges k).Page<=a/\a<16*(nth h.Larges k).Page+16*(nth h.Larges k).Pages):(ar h.Kernel.Machine.Table (a / 16)).Mode≠0:=by
 obtain⟨b1,b2⟩:=zl hi lk;have hf:=aV (hi.L.lok _ (am lk));have hq:(a / 16)∈pgs h.Spans h.Larges:=eY (am lk) (dc.2 ⟨(a / 16 - (nth h.Larges k).Page).toNat,by omega,by omega⟩);have hb:=hi.pg.bnd _ hq;have h1:=(hi.pg.own (a / 16).toNat (by omega)).2 (by rw[show(((a / 16).toNat:Nat):Int)=a / 16 by omega];exact hq);unfold ar;rw[if_pos ⟨by omega,hb⟩];exact h1
theorem AE {h:ab} {E:List Int} (hi:bm h E) {k:Nat} (lk:k<h.Larges.length) {size:Int} (hz:9<=size/\size<=(nth h.Larges k).Size):∀ {m:Nat},m<=(16*((size+15) / 16) - size).toNat->a8 (zK h.Kernel (16*(nth h.Larges k).Page+size) m)=true:=fun {m} hm=>by
 have hok:=hi.L.lok _ (am lk);unfold bS at hok;rw[C0]at hok;exact Mc hi.ker fun j hj=>nv hi lk ⟨by omega,by omega⟩
theorem bm.trimH {h:ab} {i k:Nat} {size:Int} (hi:bm h []) (li:i<h.Objs.length) (lk:k<h.Larges.length) (ea:(nth h.Objs i).Addr=16*(nth h.Larges k).Page) (hz:9<=size/\size<=(nth h.Larges k).Size):bm (trimH h i k size) []/\JK h (trimH h i k size):=by
 have hk:=AE hi lk hz (I2 _);have ht:=(rz h.Kernel (16*(nth h.Larges k).Page+size) (16*((size+15) / 16) - size).toNat).1;have h1:=hi.cells hk ht;obtain⟨o,o0,o1,o2⟩:=h1.trimL (i:=i) (k:=k) (size:=size) li lk ea hz;simp only at o0 o1 o2;have hpg:dG {h with Kernel:=zK h.Kernel (16*(nth h.Larges k).Page+size) (16*((size+15) / 16) - size).toNat} = dG h:=by
  unfold dG;simp only[ht]
 have he:Fn h k size=o:=by
  unfold Fn;split
  ·rename_i g;have:=o1 g;rw[hpg]at this;rw[this];rfl
  ·exact(o0 (by omega)).symm
 have hT:Ab.trimH h i k size = {h with Kernel:=dL (sZ h k size) ((nth h.Larges k).Page+(size+15) / 16) (d8 (nth h.Larges k) size),Larges:=h.Larges.set k (Ab.trimL (nth h.Larges k) size),Objs:=h.Objs.set i {nth h.Objs i with Size:=size},Free:=o}:=by unfold Ab.trimH;rw[he]
 refine⟨by rw[hT];exact o2,JK.less rfl rfl rfl fun q hq=>?_⟩;have hok:=hi.L.lok _ (am lk);unfold bS at hok;rw[C0]at hok;obtain⟨b1,b2⟩:=zl hi lk;have hlb:(sZ h k size).Machine.Table=h.Kernel.Machine.Table:=ht;have hent:=lh (k:=sZ h k size) hk (p:=(nth h.Larges k).Page+(size+15) / 16) (by omega) (d8 (nth h.Larges k) size) (by rw[hlb];have:((tbl h).Entries.length:Int)=(h.Kernel.Machine.Table.Entries.length:Int):=rfl;unfold d8;omega) q;change (nth (dL (sZ h k size) ((nth h.Larges k).Page+(size+15) / 16) (d8 (nth h.Larges k) size)).Machine.Table.Entries q).Mode≠0 at hq;show nth (dL (sZ h k size) ((nth h.Larges k).Page+(size+15) / 16) (d8 (nth h.Larges k) size)).Machine.Table.Entries q=nth h.Kernel.Machine.Table.Entries q;rw[hent]at hq |-;split at hq
 ·exact absurd rfl hq
 ·rename_i e;rw[if_neg e,hlb]
theorem Em {t:Nat} (ht:1<=t/\t<=4):bC (dy t)=true:=by
 have hs:∀ n,n<=t->bo (dy t) n=0:=fun n=>by
  induction n with
  | zero=>intro _;rfl
  | succ n ih=>
   intro hn;have h1:nth (dy t).Buffers n=[]:=cQ (by omega);have h2:nth (dy t).Inbox n=[]:=cQ (by omega);simp only[bo,ih (by omega),h1,h2,List.length_nil]
   decide
 have hl:(dy t).Buffers.length=t:=W2 ..;refine d4.2 ⟨⟨by omega,by omega,by simp[dy]⟩,fun i hi=>?_,by rw[hl,hs t (I2 _)];omega⟩;rw[hl]at hi;have h1:nth (dy t).Buffers i=[]:=cQ hi;have h2:nth (dy t).Inbox i=[]:=cQ hi;rw[h1,h2];exact⟨fun p hp=>(by cases hp),fun p hp=>(by cases hp)⟩
theorem td (t:Nat):aL (dy t)=[]:=by
 unfold aL;split
 ·simp[dy]
 ·rfl
def nw (k:af) (t:Nat) (sd ck lim:Int):ab:=⟨k,[⟨0,(k.Machine.Table.Entries.length:Nat)⟩],[],[],[],List.replicate t d6,dy t,⟨16,[]⟩,sd,ck,lim,1,false,⟨⟨0,0,[]⟩,0,0⟩⟩
theorem AP:bn d6=true:=by decide
theorem bm.fresh {k:af} {t:Nat} {lim sd ck:Int} (hk:a8 k=true) (hz:∀ q,q<k.Machine.Table.Entries.length->(nth k.Machine.Table.Entries q).Mode=0) (ht:1<=t/\t<=4) (hl:0<=lim/\lim<=1000) (hs:0<=sd/\sd<=1073741823) (hc:0<=ck/\ck<=1000000):bm (nw k t sd ck lim) []:=by
 obtain⟨t1,t2,t3⟩:=bt.1 (aB.1 hk).2.2.1;have hca:ch (nw k t sd ck lim)=[]:=by
  unfold ch;refine List.flatMap_eq_nil_iff.2 fun c hc=>?_
  rw[(List.mem_replicate.1 hc).2]
  rfl
 have hh:holders (nw k t sd ck lim)=[]:=by
  unfold holders;rw[hca];show(([]++[])++[])++aL (dy t)=[];rw[td];rfl
 have hno:∀ a,¬lw (nw k t sd ck lim).Spans (nw k t sd ck lim).Larges a:=fun a=>by
  rintro(⟨s,hs,-⟩|⟨l,hl,-⟩)
  ·cases hs
  ·cases hl
 exact {
   ker:=hk
   rng:=eU.2 ⟨⟨List.pairwise_singleton ..,fun y hy=>by rw[X0.1 hy];show(1:Int)<=(k.Machine.Table.Entries.length:Nat);omega⟩,fun y hy=>by
       rw[X0.1 hy];refine⟨Y3 _,by show(1:Int)<=(k.Machine.Table.Entries.length:Nat);omega,?_⟩;show(0:Int)+(k.Machine.Table.Entries.length:Nat)<=(k.Machine.Table.Entries.length:Nat);omega,by show(1:Int)<=(k.Machine.Table.Entries.length:Nat);omega,by show((k.Machine.Table.Entries.length:Nat):Int)<=32;omega⟩
   lay:=by show bg [] []=true;decide
   srs:=List.Pairwise.nil
   srl:=List.Pairwise.nil
   pg:=⟨fun l hl=>(by cases hl),fun p hp=>(by cases hp),fun p hp=>⟨fun e=>absurd (hz p hp) e,fun e=>by cases e⟩,fun p hp=>⟨fun e=>absurd (hz p hp) e,fun e=>absurd ⟨_,X0.2 rfl,by show(0:Int)<=p;omega,by
       show(p:Int)<0+(k.Machine.Table.Entries.length:Nat);have hp':p<k.Machine.Table.Entries.length:=hp;omega⟩ e⟩,fun s hs=>by cases hs⟩
   mail:=Em ht
   nc:=by show(List.replicate t d6).length=(List.replicate t _).length;simp
   quar:=by show eN ⟨16,[]⟩ = true;decide
   snc:=fun x hx=>by cases hx
   cach:=fun c hc=>by rw[(List.mem_replicate.1 hc).2];exact AP
   nums:=by unfold bU;rw[C0];simp only[nw];omega
   osr:=List.Pairwise.nil
   onu:=fun o ho=>by cases ho
   oid:=List.nodup_nil
   oow:=fun o ho=>by cases ho
   hca:=fun c hc j hj a ha=>by
     rw[(List.mem_replicate.1 hc).2]at hj ha;have hj4:j<4:=hj;have:nth d6.Lists j=[]:=cQ hj4;rw[this]at ha;cases ha
   hqu:=fun x hx=>by cases hx
   hfl:=fun a ha=>by
     have:aL (dy t)=[]:=td t;change a∈aL (dy t) at ha;rw[this]at ha;cases ha
   hin:=fun a ha=>by cases ha
   nd:=by rw[hh];exact List.nodup_nil
   mem:=fun a=>by rw[hh];exact⟨fun e=>(by cases e),fun e=>absurd e (hno a)⟩
   job:=fun e=>by cases e
   noj:=fun _=>by show qw ⟨⟨0,0,[]⟩,0,0⟩ = true;decide}
theorem JI.no {h:ab} (hm:h.Meshing=false):JI h:=⟨fun e=>(by rw[hm]at e;cases e),fun e=>(by rw[hm]at e;cases e),fun e=>(by rw[hm]at e;cases e),fun e=>(by rw[hm]at e;cases e)⟩
theorem oV {p f:Nat} {rf:List Int} (hp:1<=p/\p<=32) (hf:1<=f/\f<=32) (hr:rf.length<=40/\∀ x∈rf,0<=x):a8 (bv p f rf)=true:=by
 obtain⟨-,h2,h3,h4,h5⟩:=aB.1 (qe hp hf);exact aB.2 ⟨fun j hj=>hr.2 _ (am hj),h2,h3,h4,h5.1,h5.2.1,hr.1⟩
theorem Ba {p f t:Nat} {lim:Int} {rf:List Int} (hp:1<=p/\p<=32) (hf:1<=f/\f<=32) (ht:1<=t/\t<=4) (hl:0<=lim/\lim<=1000) (hr:rf.length<=40/\∀ x∈rf,0<=x):bm (kv p f t lim rf) []:=by
 have h:=bm.fresh (k:=bv p f rf) (t:=t) (lim:=lim) (sd:=0) (ck:=0) (oV hp hf hr) (fun q hq=>by
   have hq':q<p:=by simpa[bv,cV] using hq
   rw[show nth (bv p f rf).Machine.Table.Entries q = ⟨0,0⟩ from cQ hq']) ht hl (by omega) (by omega)
 have e:(bv p f rf).Machine.Table.Entries.length=p:=by simp[bv,cV]
 unfold nw at h;rw[e]at h;exact h
structure dM where
 Kind:Int
 Thread:Int
 N:Int
 At:Int
 Value:Int
deriving DecidableEq,Inhabited
def dM.enc (_:d3) (x:dM):List C:=[I x.Kind,I x.Thread,I x.N,I x.At,I x.Value]
def lT (id:Int) (o:bF):Bool:=decide (o.Id=id)
def mV (r:ax) (id:Int):Int:=dw (lT id) r.Objs
def jA (r:ax) (n:Int):ax:=if 1<=n/\n<=1000 then {r with Next:=r.Next+1,Objs:=r.Objs++[⟨r.Next,List.replicate n.toNat 0⟩]} else r
def ke (r:ax) (id:Int):ax:=if mV r id<0 then r else {r with Objs:=dele r.Objs (mV r id).toNat}
def eD (r:ax) (id at_ v:Int):ax:=if 0<=mV r id/\(0<=at_/\at_<=(nth r.Objs (mV r id).toNat).Cells.length - 1)/\0<=v/\v<=999 then {r with Objs:=r.Objs.set (mV r id).toNat ⟨(nth r.Objs (mV r id).toNat).Id,(nth r.Objs (mV r id).toNat).Cells.set at_.toNat v⟩} else r
def fW (r:ax) (id n:Int):ax:=if 0<=mV r id/\1<=n/\n<=(nth r.Objs (mV r id).toNat).Cells.length then {r with Objs:=r.Objs.set (mV r id).toNat ⟨(nth r.Objs (mV r id).toNat).Id,(nth r.Objs (mV r id).toNat).Cells.take n.toNat⟩} else r
structure pT (r:ax) (m:Nat):Prop where
 len:r.Objs.length<=m
 cel:∀ o∈r.Objs,o.Cells.length<=1000
 nx:0<=r.Next/\r.Next<=m+1
theorem pT.more {r:ax} {m n:Nat} (h:pT r m) (hn:m<=n):pT r n:=⟨by have:=h.len;omega,h.cel,h.nx.1,by have:=h.nx.2;omega⟩
theorem pT.sml {r:ax} {m:Nat} (h:pT r m) (hm:m<=1000):ax.sml r:=⟨by have:=h.len;omega,fun o ho=>by have:=h.cel o ho;show o.Cells.length<=1048576;omega⟩
theorem pT.alloc {r:ax} {m:Nat} (h:pT r m) (n:Int):pT (jA r n) (m+1):=by
 unfold jA;split
 ·refine⟨by have:=h.len;simp only[P2,List.length_singleton];omega,fun o ho=>?_,by have:=h.nx.1;simp only;omega,by have:=h.nx.2;simp only;omega⟩
  rcases C2.1 ho with ho|ho
  ·exact h.cel o ho
  ·rw[X0.1 ho];simp only[W2];omega
 ·exact h.more (by omega)
theorem pT.free {r:ax} {m:Nat} (h:pT r m) (id:Int):pT (ke r id) m:=by
 unfold ke;split
 ·exact h
 ·have hs:=fe r.Objs (mV r id).toNat
  exact⟨W3 hs.length_le h.len,fun o ho=>h.cel o (hs.subset ho),h.nx⟩
theorem pT.set {r:ax} {m i:Nat} {x:bF} (h:pT r m) (hx:x.Cells.length<=1000):pT {r with Objs:=r.Objs.set i x} m:=
 ⟨by simp only[Z0];exact h.len,fun o ho=>by
   rcases List.mem_or_eq_of_mem_set ho with ho|rfl
   · exact h.cel o ho
   · exact hx,h.nx⟩
theorem fK {α:Type} [Inhabited α] (p:α->Bool) (xs:List α) (h:0<=dw p xs):(dw p xs).toNat<xs.length/\p (nth xs (dw p xs).toNat)=true/\dw p xs=((dw p xs).toNat:Nat):=by
 rcases nq p xs with e|⟨n,hn,e,hp⟩
 ·omega
 ·rw[e,W1];exact⟨hn,hp,rfl⟩
theorem pT.store {r:ax} {m:Nat} (h:pT r m) (id a v:Int):pT (eD r id a v) m:=by
 unfold eD;split
 ·rename_i e
  refine h.set ?_;simp only[Z0];exact h.cel (nth r.Objs (mV r id).toNat) (am (fK _ _ e.1).1)
 ·exact h
theorem pT.trim {r:ax} {m:Nat} (h:pT r m) (id n:Int):pT (fW r id n) m:=by
 unfold fW;split
 ·rename_i e
  refine h.set ?_;have:=h.cel (nth r.Objs (mV r id).toNat) (am (fK _ _ e.1).1);simp only[C1];omega
 ·exact h
def Js (id:Int) (o:bO):Bool:=decide (o.Id=id)
def qO (h:ab) (id:Int):Int:=dw (Js id) h.Objs
def Fp (a:Int) (l:aA):Bool:=decide (l.Page*16=a)
def wQ (h:ab) (a:Int):Int:=dw (Fp a) h.Larges
def mG (h:ab) (a:dM):Prop:=0<=a.Thread/\a.Thread<=h.Caches.length - 1
instance (h:ab) (a:dM):Decidable (mG h a):=by unfold mG;infer_instance
def qj (w:bG) (a:dM) (i:Nat):bG × Int:=
 if w.Heap.Kernel.Calls=100000 then(w,6)
 else if mG w.Heap a then(⟨(freeT w.Heap a.Thread.toNat i).1,if(freeT w.Heap a.Thread.toNat i).2=0 then ke w.Ref (nth w.Heap.Objs i).Id else w.Ref⟩,(freeT w.Heap a.Thread.toNat i).2)
 else(w,1)
def nO (w:bG) (a:dM) (i:Nat):bG × Int:=
 if ¬(0<=a.At/\a.At<=(nth w.Heap.Objs i).Size - 1) then(w,90)
 else if(ar w.Heap.Kernel.Machine.Table (((nth w.Heap.Objs i).Addr+a.At) / 16)).Mode=1 then(w,2)
 else if ¬(0<=a.Value/\a.Value<=999) then(w,3)
 else(⟨{w.Heap with Kernel:=ki w.Heap.Kernel ((nth w.Heap.Objs i).Addr+a.At) a.Value},eD w.Ref (nth w.Heap.Objs i).Id a.At a.Value⟩,0)
def kg (h:ab) (i:Nat) (n:Int):Prop:=0<=wQ h (nth h.Objs i).Addr/\9<=n/\n<=(nth h.Larges (wQ h (nth h.Objs i).Addr).toNat).Size
instance (h:ab) (i:Nat) (n:Int):Decidable (kg h i n):=by unfold kg;infer_instance
def qX (w:bG) (a:dM) (i:Nat):bG × Int:=
 if w.Heap.Kernel.Calls≠100000/\kg w.Heap i a.Value then(⟨trimH w.Heap i (wQ w.Heap (nth w.Heap.Objs i).Addr).toNat a.Value,fW w.Ref (nth w.Heap.Objs i).Id a.Value⟩,0) else(w,90)
def mI (w:bG) (a:dM) (i:Nat):bG × Int:=if a.Kind=2 then qj w a i else if a.Kind=3 then nO w a i else qX w a i
def gc (h:ab) (a:dM):ab × Int:=
 if a.Kind=5 then(if mG h a/\0<(nth h.Mail.Buffers a.Thread.toNat).length then({h with Mail:=fx h.Mail a.Thread.toNat},0) else(h,90))
 else if ¬(h.Kernel.Calls≠100000/\mG h a) then(h,0)
 else if a.Kind=6 then(collect h a.Thread.toNat,((nth h.Mail.Inbox a.Thread.toNat).length:Nat))
 else((flushN a.Thread.toNat h 4).1,((flushN a.Thread.toNat h 4).2:Nat))
def oz (h:ab) (n:Int):ab × Int:=if h.Kernel.Calls≠100000/\(0<=n/\n<=1000)/\h.Clock+n<=1000000 then(tick h n,((ma h n).length:Nat)) else(h,0)
def rS (h:ab):Bool:=h.Meshing&&decide (h.Kernel.Calls<=99000)
def ml (h:ab):Nat->ab × Nat
 | 0=>(h,0)
 | i+1=>if rS (ml h i).1=true then(mStep (ml h i).1,(ml h i).2+1) else ml h i
def og (h:ab):ab × Int:=if h.Meshing=true then(h,90) else((started h).1,if(started h).2=true then 0 else 90)
def mQ (w:bG) (a:dM):bG × Int:=
 if a.Kind=1 then(⟨(fw w.Heap a.Thread a.N).1,if(fw w.Heap a.Thread a.N).2.2=0 then jA w.Ref a.N else w.Ref⟩,(fw w.Heap a.Thread a.N).2.2)
 else if a.Kind=2\/a.Kind=3\/a.Kind=4 then(if qO w.Heap a.N<0 then(w,90) else mI w a (qO w.Heap a.N).toNat)
 else if a.Kind=5\/a.Kind=6\/a.Kind=7 then(⟨(gc w.Heap a).1,w.Ref⟩,(gc w.Heap a).2)
 else if a.Kind=8 then(⟨(oz w.Heap a.N).1,w.Ref⟩,(oz w.Heap a.N).2)
 else if a.Kind=9 then(⟨(og w.Heap).1,w.Ref⟩,(og w.Heap).2)
 else if a.Kind=10/\0<=a.N/\a.N<=50 then(⟨(ml w.Heap a.N.toNat).1,w.Ref⟩,((ml w.Heap a.N.toNat).2:Nat))
 else(w,90)
structure su (w:bG) (m:Nat):Prop where
 inv:bm w.Heap []
 ji:JI w.Heap
 ref:pT w.Ref m
theorem su.more {w:bG} {m n:Nat} (h:su w m) (hn:m<=n):su w n:=⟨h.inv,h.ji,h.ref.more hn⟩
theorem su.jk {w:bG} {m:Nat} (h:su w m) {g:ab} {r:ax} (hg:bm g []/\JK w.Heap g) (hr:pT r m):su ⟨g,r⟩ m:=⟨hg.1,h.ji.keep hg.1 hg.2,hr⟩
theorem lB {h:ab} {E:List Int} (hi:bm h E) {o:bO} (ho:o∈h.Objs) {k:Int} (hk:0<=k/\k<=o.Size - 1):(ar h.Kernel.Machine.Table ((o.Addr+k) / 16)).Mode≠0/\0<=o.Addr/\o.Addr+k<512:=by
 rcases hi.oow o ho with⟨s,hs,h1,h2⟩|⟨l,hl,e1,e2⟩
 ·have hsok:=hi.L.sok s hs
  have hc:=aG hsok;obtain⟨m1,m2,m3⟩:=hi.mapped hs;have hcs:=cj hc.2.2;obtain⟨g1,g2,g3,-⟩:=h1;have hsz:o.Size<=csz s.Class:=by
   have hb:=pb (n:=o.Size) (by omega);rw[h2];have:o.Size=1\/o.Size=2\/o.Size=3\/o.Size=4\/o.Size=5\/o.Size=6\/o.Size=7\/o.Size=8:=by omega
   rcases this with e|e|e|e|e|e|e|e<;>rw[e]<;>decide
  have hp:(o.Addr+k) / 16=s.Page:=by
   rcases hcs with e|e|e|e<;>rw[e]at g3 hsz<;>omega
  rw[hp];refine⟨?_,by omega,by omega⟩;unfold ar;rw[if_pos ⟨m1,m2⟩];exact m3
 ·obtain⟨j,hj,rfl⟩:=bc hl
  have hok:=hi.L.lok _ hl;unfold bS at hok;rw[C0]at hok;exact⟨nv hi hj ⟨by omega,by omega⟩,by omega,by omega⟩
theorem su.obj {w:bG} {m:Nat} (h:su w m) (a:dM) {i:Nat} (li:i<w.Heap.Objs.length):su (mI w a i).1 m:=by
 unfold mI;split
 ·unfold qj
  split
  ·exact h
  split
  ·rename_i ht
   unfold mG at ht;refine h.jk (h.inv.freeT li (by omega)) ?_;split
   ·exact h.ref.free _
   ·exact h.ref
  ·exact h
 split
 ·unfold nO
  split
  ·exact h
  rename_i h1;split
  ·exact h
  split
  ·exact h
  rename_i h3;exact h.jk (h.inv.store (lB h.inv (am li) (by omega)).1 (by omega)) (h.ref.store _ _ _)
 ·unfold qX
  split
  ·rename_i e
   obtain⟨-,e1,e2⟩:=e;obtain⟨f1,f2,f3⟩:=fK _ _ e1;have f2':=of_decide_eq_true f2;exact h.jk (h.inv.trimH li f1 (f2'.symm.trans (Int.mul_comm _ _)) e2) (h.ref.trim _ _)
  ·exact h
theorem su.thread {w:bG} {m:Nat} (h:su w m) (a:dM):su ⟨(gc w.Heap a).1,w.Ref⟩ m:=by
 unfold gc;split
 ·split
  ·rename_i e
   obtain⟨e1,e2⟩:=e;unfold mG at e1;exact h.jk (g:={w.Heap with Mail:=fx w.Heap.Mail a.Thread.toNat}) ⟨h.inv.deliv (by rw[<-h.inv.nc];omega) e2,JK.eq rfl rfl rfl rfl⟩ h.ref
  ·exact h
 split
 ·exact h
 rename_i e;have e:=Classical.not_not.1 e;obtain⟨-,e1⟩:=e;unfold mG at e1;split
 ·exact h.jk (g:=collect w.Heap a.Thread.toNat) (h.inv.collect (by omega)) h.ref
 ·have ht:a.Thread.toNat<w.Heap.Caches.length:=by omega
  have h1:=(jG h.inv ht (I2 4)).1;have h2:=JK.flushN h.inv ht (I2 4);generalize flushN a.Thread.toNat w.Heap 4=r at h1 h2 |-;exact h.jk (g:=r.1) ⟨h1,h2⟩ h.ref
theorem wq {h:ab} (hi:bm h []) (hj:JI h):∀ n,bm (ml h n).1 []/\JI (ml h n).1
 | 0=>⟨hi,hj⟩
 | n+1=>by
  obtain⟨h1,h2⟩:=wq hi hj n;unfold ml;split
  ·rename_i e
   unfold rS at e;rw[I0]at e;exact h1.mStep h2 e.1
  ·exact⟨h1,h2⟩
theorem su.act {w:bG} {m:Nat} (h:su w m) (a:dM):su (mQ w a).1 (m+1):=by
 unfold mQ;split
 ·have h1:=GW (t:=a.Thread) (size:=a.N) h.inv
  refine⟨h1.1,h.ji.keep h1.1 h1.2,?_⟩;show pT (if _ then _ else _) (m+1);split
  ·exact h.ref.alloc _
  ·exact h.ref.more (by omega)
 refine su.more (m:=m) ?_ (by omega);split
 ·split
  ·exact h
  ·rename_i e
   exact h.obj a (fK _ _ (by unfold qO at e;omega)).1
 split
 ·exact h.thread a
 split
 ·unfold oz
  split
  ·rename_i e
   exact h.jk (h.inv.tick e.2.1.1 e.2.2) h.ref
  ·exact h
 split
 ·unfold og
  split
  ·exact h
  ·rename_i e
   have h1:=EC h.inv (by simpa using e);exact⟨h1.1,h1.2,h.ref⟩
 split
 ·have h1:=wq h.inv h.ji a.N.toNat
  exact⟨h1.1,h1.2,h.ref⟩
 ·exact h
structure cB where
 Pages:Nat
 Frames:Nat
 Threads:Nat
 Limit:Int
 Refuse:List Int
deriving Inhabited
structure Et (c:cB):Prop where
 p:1<=c.Pages/\c.Pages<=32
 f:1<=c.Frames/\c.Frames<=32
 t:1<=c.Threads/\c.Threads<=4
 l:0<=c.Limit/\c.Limit<=1000
 r:c.Refuse.length<=40/\∀ x∈c.Refuse,0<=x
def world0 (c:cB):bG:=⟨kv c.Pages c.Frames c.Threads c.Limit c.Refuse,{Next:=1,Objs:=[]}⟩
def zc (c:cB) (acts:List dM):Nat->bG × List Int
 | 0=>(world0 c,[])
 | i+1=>((mQ (zc c acts i).1 (nth acts i)).1,(zc c acts i).2++[(mQ (zc c acts i).1 (nth acts i)).2])
theorem Gq {c:cB} (h:Et c):su (world0 c) 0:=
 ⟨Ba h.p h.f h.t h.l h.r,JI.no rfl,⟨I2 _,fun o ho=>(by cases ho),by show(0:Int)<=1;omega,by show(1:Int)<=((0:Nat):Int)+1;omega⟩⟩
theorem uS {c:cB} (h:Et c) (acts:List dM):∀ n,su (zc c acts n).1 n
 | 0=>Gq h
 | n+1=>(uS h acts n).act _
theorem or64 {z1 z2:Int} (h1:0<=z1/\z1<=65535) (h2:0<=z2/\z2<=65535):IntKind.i64.wrap ((BitVec.ofInt IntKind.i64.bits z1 ||| BitVec.ofInt IntKind.i64.bits z2).toNat:Nat)=bor z1 z2:=by
 rw[BitVec.toNat_or,lC (by omega),lC (by omega)];have h3:=Ji h1 h2;unfold bor at h3 |-;exact dS (by omega) (by omega)
theorem wW (h:ab) (i:Nat) (hs1:dq h.Spans) (hst:wY h) (hok:∀ s∈h.Spans,bf s=true) (hi:i<h.Spans.length):ao Tryz.prog 342 false [.val (some 24) (ab.enc .imm h),.val none [I (i:Nat)]] .one [I (gq h i)]:=by
 have hl1:=hs1.1;have hx:=ah hi;have hb0:=tM hok hi;have c1:=aD ((i:Nat):Int) 0 ((h.Spans.length:Int) - 1);rw[O0 (show(0:Int)<=(i:Nat)/\((i:Nat):Int)<=(h.Spans.length:Int) - 1 by omega)]at c1;have c2:=g9 h (nth h.Spans i).Page hst;have hpl:=gn h (nth h.Spans i).Page;have hpn:dG h<=1048576:=hst.1;have hub:gq h i=je h.Spans (aS h (nth h.Spans i).Page) (nth h.Spans i).Bits (aS h (nth h.Spans i).Page).length:=rfl;obtain⟨ps,hps⟩ : ∃ ps,aS h (nth h.Spans i).Page=ps:=⟨_,rfl⟩
 obtain⟨b,hbe⟩ : ∃ b,(nth h.Spans i).Bits=b:=⟨_,rfl⟩
 rw[hps]at c2 hpl hub;rw[hbe]at hub hb0;rw[hub];have hoz:je h.Spans ps b 0=b:=rfl;refine fO 63 [(4,7,[22,23,24,25,26,27,28]),(11,10,[43,44,45,46,47,48,49,50,51,52])] Tryz.func342 rfl ?_
 repeat'(first|refine gO ?_|(conv=>whnf);first|with_reducible refine Ix.nat (aa hx) ?_|refine Cl.mk (c1) ?_|refine Cl.mk (c2) ?_)
 (conv=>whnf)
 refine Lp.mk (ι:=Nat) (fun u=>[(2,.hold .box (ab.enc .imm h)),(5,.hold .one [I (je h.Spans ps b u)]),(6,.hold .one (aF .own ps)),(7,.hold .one [I ((u:Nat):Int)])]) (fun u=>u<=ps.length) (fun u=>ps.length - u) (0) ?_ (Q0 _) fun u hu=>?_
 ·exact wB
 by_cases lu:u<ps.length
 ·have hy:=ah lu
  have hob:=pX hok (ps:=ps) hb0 u
  repeat'(first|refine gD ?_|fail)
  (conv=>whnf)
  refine Lp.mk (ι:=Nat) (fun j=>[(2,.hold .box (ab.enc .imm h)),(5,.hold .one [I (qt h.Spans (nth ps u) (je h.Spans ps b u) j)]),(6,.hold .one (aF .own ps)),(7,.hold .one [I ((u:Nat):Int)]),(8,.hold .one [I ((j:Nat):Int)])]) (fun j=>j<=h.Spans.length) (fun j=>h.Spans.length - j) (0) ?_ (Q0 _) fun j hj=>?_
  ·exact wB
  by_cases lj:j<h.Spans.length
  ·have hz:=ah lj
   have hjb:=tS hok (p:=nth ps u) hob j hj;by_cases e:(nth h.Spans j).Page=nth ps u
   ·have hstp:qt h.Spans (nth ps u) (je h.Spans ps b u) (j+1)=bor (qt h.Spans (nth ps u) (je h.Spans ps b u) j) (nth h.Spans j).Bits:=if_pos e
    repeat'(first|refine gA ?_|(conv=>whnf);first|with_reducible (first|refine Ix.nat (aa hy) ?_|refine Ix.nat (aa hz) ?_)|refine Rw.one rfl (aa hy) rfl ?_|refine Wr.mk (or64 hjb (tM hok lj)) ?_)
    ((conv=>whnf);refine Nx.mk (j+1) (by omega) (by omega) ?_;(exact wB))
   ·have hstp:qt h.Spans (nth ps u) (je h.Spans ps b u) (j+1)=qt h.Spans (nth ps u) (je h.Spans ps b u) j:=if_neg e
    repeat'(first|refine gA ?_|(conv=>whnf);first|with_reducible (first|refine Ix.nat (aa hy) ?_|refine Ix.nat (aa hz) ?_)|refine Rw.one rfl (aa hy) rfl ?_)
    ((conv=>whnf);refine Nx.mk (j+1) (by omega) (by omega) ?_;(exact wB))
  ·obtain rfl:j=h.Spans.length:=by omega
   repeat'(first|refine gD ?_|fail)
   ((conv=>whnf);refine Nx.mk (u+1) (by omega) (by omega) ?_;(exact wB))
 ·obtain rfl:u=ps.length:=by omega
  repeat'(first|refine gD ?_|fail)
  rfl
theorem r9 {xs:List bO} (h:∀ o∈xs,0<=o.Size/\o.Size<=1000):∀ k:Nat,k<=xs.length->0<=rA xs k/\rA xs k<=1000*k
 | 0,_=>⟨Y3 _,Y3 _⟩
 | k+1,hk=>by
  have h1:=r9 h k (by omega);have h2:=h _ (am (xs:=xs) (i:=k) (by omega));simp only[rA];omega
theorem u7 (h:ab) (hb:∀ o∈h.Objs,0<=o.Size/\o.Size<=1000) (hl:h.Objs.length<=1048576):ao Tryz.prog 51 false [.val (some 24) (ab.enc .imm h)] .one [I (vK h)]:=by
 refine fO 21 [] Tryz.func51 rfl ?_
 repeat'(first|refine gO ?_|fail)
 (conv=>whnf)
 refine Lp.mk (ι:=Nat) (fun k=>[(1,.hold .box (ab.enc .imm h)),(3,.hold .one [I (rA h.Objs k)]),(4,.hold .one [I ((k:Nat):Int)])]) (fun k=>k<=h.Objs.length) (fun k=>h.Objs.length - k) (0) ?_ (Q0 _) fun k hk=>?_
 ·exact wB
 have hc:=r9 hb k hk;by_cases lk:k<h.Objs.length
 ·have hx:=ah lk
  have h2:=hb _ (am lk)
  repeat'(first|refine gD ?_|(conv=>whnf);first|refine Ix.nat (aa hx) ?_)
  ((conv=>whnf);refine Nx.mk (k+1) (by omega) (by omega) ?_;(exact wB))
 ·obtain rfl:k=h.Objs.length:=by omega
  repeat'(first|refine gD ?_|fail)
  rfl
theorem uU (k b:Int) (hb:b<=9223372036854775807):ao Tryz.prog 341 false [.val none [I (slots k)],.val none [I b]] .one (aF .own (pn k b)):=by
 have c1:=oH k b;have hs:0<=slots k/\slots k<=16:=by unfold slots;repeat' split<;>omega
 unfold pn;cases e:JJ k b<;>rw[e]at c1
 ·rw[if_neg (by simp)]
  refine fO 27 [] Tryz.func341 rfl ?_ (.inr (bK _))
  repeat'(first|refine gO ?_|fail)
  (conv=>whnf)
  refine Lp.mk (ι:=Nat) (fun j=>[(0,.hold .one [I (slots k)]),(1,.hold .one [I (b)]),(5,.hold .one (aF .own [])),(6,.hold .one [I ((j:Nat):Int)])]) (fun j=>j=0) (fun j=>1 - j) (0) ?_ (rfl) fun j hj=>?_
  ·exact wB
  subst hj
  repeat'(first|refine gD ?_|(conv=>whnf);first|with_reducible refine Bf.D (fun hq=>?_) (fun hq=>?_)|refine Cl.mk (c1) ?_)
  all_goals rfl
 ·rw[if_pos rfl]
  refine fO 27 [] Tryz.func341 rfl ?_ (.inr (bK _))
  repeat'(first|refine gO ?_|fail)
  (conv=>whnf)
  refine Lp.mk (ι:=Nat) (fun j=>[(0,.hold .one [I (slots k)]),(1,.hold .one [I (b)]),(5,.hold .one (aF .own (nB b j))),(6,.hold .one [I ((j:Nat):Int)])]) (fun j=>j<=(slots k).toNat) (fun j=>(slots k).toNat - j) (0) ?_ (Q0 _) fun j hj=>?_
  ·exact wB
  have hfl:=rR b j;by_cases lj:j<(slots k).toNat
  ·have c2:=hB b (j:Nat) hb
   have hn:nB b (j+1)=if aY b (j:Nat)=true then nB b j else nB b j++[((j:Nat):Int)]:=rfl
   cases e2:aY b (j:Nat)<;>rw[e2]at c2 hn
   ·rw[if_neg (by simp)]at hn
    repeat'(first|refine gD ?_|(conv=>whnf);first|refine Cl.mk (c1) ?_|refine Cl.mk (c2) ?_|refine Ap.mk cE (fun r hr=>by rw[X0.1 hr];rfl) (by simp[aW,d5]) (by simp;omega) (by simp only[U0];exact wK (by simp;omega) (by decide)) rfl ?_)
    ((conv=>whnf);refine Nx.mk (j+1) (by omega) (by omega) ?_)
    rw[hn]
    repeat'(first|exact trivial|rfl|exact And.intro rfl (And.intro (R0 (C.s d3.own) (by simp[rI])) trivial)|refine And.intro ?_ ?_|(exact Br (by first|omega|(simp only;omega)|(simp;omega))))
   ·rw[if_pos rfl]at hn
    repeat'(first|refine gD ?_|(conv=>whnf);first|refine Cl.mk (c1) ?_|refine Cl.mk (c2) ?_)
    ((conv=>whnf);refine Nx.mk (j+1) (by omega) (by omega) ?_)
    rw[hn];exact wB
  ·obtain rfl:j=(slots k).toNat:=by omega
   repeat'(first|refine gD ?_|fail)
   rfl
theorem Gi (b i:Int):bor b (2 ^ i.toNat)=gl b i:=by
 unfold bor gl;have:((2 ^ i.toNat:Nat):Int)=(2:Int) ^ i.toNat:=Int.natCast_pow 2 i.toNat;rw[<-this,W1]
theorem xy (b i:Int) (hb:0<=b/\b<=65535) (hi:0<=i/\i<=15):ao Tryz.prog 344 false [.val none [I b],.val none [I i]] .one [I (gl b i)]:=by
 have c1:=om b i;rw[O0 (by omega)]at c1;have hw:IntKind.u64.wrap i=i:=by unfold IntKind.wrap;simp[IntKind.signed,IntKind.bits];omega
 have h2:=(shl64 hi).2;have ho:=(or64 (z1:=b) (z2:=2 ^ i.toNat) hb (by omega)).trans (Gi b i);refine fO 15 [] Tryz.func344 rfl ?_
 repeat'(first|refine gO ?_|(conv=>whnf);first|refine Cl.mk (c1) ?_|refine Cd.mk (by omega) ?_|refine Wr.mk hw ?_|refine Wr.mk (shl64 hi).1 ?_|refine Wr.mk ho ?_)
 rfl
theorem KD {s:au} (ho:bf s=true) {k:Int} (hk:0<=k/\k<slots s.Class):0<=k*csz s.Class/\k*csz s.Class<=15:=by
 have hc:=aG ho;have hl:=ge hc.2.2;rcases cj hc.2.2 with e|e|e|e<;>rw[e]at hl |-<;>omega
theorem xm (s:au) (k:Int) (ho:bf s=true) (hk:0<=k/\k<slots s.Class):ao Tryz.prog 345 false [.val (some 3) (au.enc .imm s),.val none [I k]] .one [I (16*s.Page+k*csz s.Class)]:=by
 have hc:=aG ho;have hb:=KD ho hk;have hl:=ge hc.2.2;have c1:=fD s;rw[ho]at c1;have c2:=lX s.Class;have c3:=aD k 0 (slots s.Class - 1);rw[O0 (by omega)]at c3;have c4:=dv s.Class;refine fO 26 [(3,8,[17,18,19,20,21,22,23,24])] Tryz.func345 rfl ?_
 repeat'(first|refine gO ?_|(conv=>whnf);first|refine Cl.mk (c1) ?_|refine Cl.mk (c2) ?_|refine Cl.mk (c3) ?_|refine Cl.mk (c4) ?_|refine Sm.rf ?_)
 exact R0 (fun z=>[I z]) (by omega)
theorem zG (f:aQ) (hl:f.Used.length<=1048576):ao Tryz.prog 346 false [.val (some 2) (aQ.enc .imm f)] .one [I (dw (fun u=>!u) f.Used)]:=by
 refine fO 18 [] Tryz.func346 rfl ?_
 repeat'(first|refine gO ?_|fail)
 (conv=>whnf)
 refine Lp.mk (ι:=Nat) (fun i=>[(1,.hold .box (aQ.enc .imm f)),(3,.hold .one [I ((i:Nat):Int)])]) (fun i=>i<=f.Used.length/\∀ (j:Nat) (z:Bool),j<i->f.Used[j]? = some z->(!z)=false) (fun i=>f.Used.length - i) (0) ?_ (⟨Q0 _,fun j z hj=>by omega⟩) fun i hi=>?_
 ·exact wB
 obtain⟨hi,ha⟩:=hi;by_cases li:i<f.Used.length
 ·have hx:=ah li
  cases e:nth f.Used i<;>rw[e]at hx
  ·repeat'(first|refine gD ?_|(conv=>whnf);first|with_reducible refine Ix.nat (aa hx) ?_)
   exact R0 (fun z=>[I z]) (dR hx rfl ha).symm
  ·repeat'(first|refine gD ?_|(conv=>whnf);first|with_reducible refine Ix.nat (aa hx) ?_)
   ((conv=>whnf);refine Nx.mk (i+1) ⟨by omega,dl hx rfl ha⟩ (by omega) ?_;(exact wB))
 ·repeat'(first|refine gD ?_|fail)
  exact R0 (fun z=>[I z]) (gr (by omega) ha).symm
theorem mc (m:aH):∀ (n i:Nat),i<n->((nth m.Buffers i).length:Int)+(nth m.Inbox i).length<=bo m n/\0<=bo m n
 | 0,i,h=>absurd h (Nat.not_lt_zero i)
 | n+1,i,h=>by
  have h0:0<=bo m n:=by
   cases n with
   | zero=>exact Y3 _
   | succ k=>exact(mc m (k+1) 0 (by omega)).2
  simp only[bo];by_cases e:i=n
  ·subst e;omega
  ·have:=(mc m n i (by omega)).1;omega
structure km (m:aH):Prop where
 b4:1<=m.Buffers.length/\m.Buffers.length<=4
 i4:m.Inbox.length=m.Buffers.length
 bl:∀ i,i<m.Buffers.length->(nth m.Buffers i).length<=30
 il:∀ i,i<m.Buffers.length->(nth m.Inbox i).length<=30
theorem km.of {m:aH} (h:bC m=true):km m:=by
 obtain⟨⟨h1,h2,h3⟩,-,h5⟩:=d4.1 h;exact⟨⟨h1,h2⟩,h3,fun i hi=>by have:=(mc m m.Buffers.length i hi).1;omega,fun i hi=>by have:=(mc m m.Buffers.length i hi).1;omega⟩
theorem km.sml {m:aH} (h:km m):aH.sml m:=by
 have h1:=h.b4;have h2:=h.i4;refine⟨⟨by omega,fun l hl=>?_⟩,⟨by omega,fun l hl=>?_⟩⟩
 ·obtain⟨i,hi,rfl⟩:=bc hl
  have:=h.bl i hi;exact⟨by omega,fun _ _=>trivial⟩
 ·obtain⟨i,hi,rfl⟩:=bc hl
  have:=h.il i (by omega);show(nth m.Inbox i).length<=1048576;omega
theorem qD (m:aH) (k:Int) (hs:aH.sml m):ao Tryz.prog 388 false [.val (some 2) (aH.enc .imm m),.val none [I k]] .one [B (bC m&&decide (0<=k/\k<=m.Buffers.length - 1))]:=by
 have c1:=kb m hs;have hl:m.Buffers.length<=1048576:=hs.1.1;cases e:bC m<;>rw[e]at c1
 all_goals
  refine fO 15 [] Tryz.func388 rfl ?_
  repeat'(first|refine gO ?_|(conv=>whnf);first|refine Sm.rf ?_|refine Cl.mk (c1) ?_|refine Cl.mk (aD k 0 (m.Buffers.length - 1:Int)) ?_)
  all_goals rfl
theorem Nf {m:aH} {f:Nat} (hf:f<m.Buffers.length):m.Buffers[f]? = some (nth m.Buffers f):=ah hf
theorem Gw (m:aH) (f:Nat) (p:cS):aH.enc .own (gp m f p)=[.s .own ((m.Buffers.map (cA .own)).set f (cA .own (nth m.Buffers f++[p]))),.s .own (m.Inbox.map (aF .own))]:=by simp[aH.enc,gp,List.map_set]
theorem GG {m:aH} (h:km m) {f:Nat} (hf:f<m.Buffers.length) (p:cS):aH.sml (gp m f p):=by
 have h1:=h.b4;have hs:=h.sml;refine⟨⟨by simp only[gp,Z0];omega,fun l hl=>?_⟩,hs.2⟩;rcases List.mem_or_eq_of_mem_set hl with hl|rfl
 ·exact hs.1.2 l hl
 ·have:=h.bl f hf
  exact⟨by simp;omega,fun _ _=>trivial⟩
theorem G4 (m:aH) (f:Nat) (p:cS) (hm:bC m=true) (hf:f<m.Buffers.length):ao Tryz.prog 381 false [.val (some 2) (aH.enc .imm m),.val none [I (f:Nat)],.val (some 2) (cS.enc .imm p)] (.tup [some 2,none]) (aH.enc .own (if bC (gp m f p)=true then gp m f p else m)++[B (bC (gp m f p))]):=by
 have hL:=km.of hm;have hs:=hL.sml;have h4:=hL.b4;have c1:=qD m f hs;rw[hm,O0 (by omega)]at c1;have c2:=eM m hs;have hps:=GG hL hf p;have c3:=kb (gp m f p) hps;have c4:=eM (gp m f p) hps;have hx:=Nf hf;have hxl:=hL.bl f hf;have hz:=aH.enc_fz (gp m f p);rw[Gw]at hz;cases e:bC (gp m f p)<;>rw[e]at c3
 ·rw[if_neg (by simp)]
  refine fO 35 [(4,267,[16,17,18,19,20,21,22,23,24,25,27,0,1,2,3,4,5,6,7,8,9,10,1000,1001,1002,11,12])] Tryz.func381 rfl ?_ (.inr (aK (aH.enc_fr _) ⟨trivial,trivial⟩))
  repeat'(first|refine gO ?_|(conv=>whnf);first|with_reducible refine Ix.nat (aa hx) ?_|refine Sm.rf ?_|refine Ix.nat (fF hx) ?_|refine Rw.one rfl (fF hx) rfl ?_|refine Cl.mk (c1) ?_|refine Cl.mk (c2) ?_|refine Lq.one rfl rfl (aa hx) rfl (W0 rfl) rfl rfl ?_|refine Rw.one rfl (aa hx) rfl ?_|refine Pu.one rfl rfl (fF hx) rfl (W0 rfl) (show [C.s d3.own ((m.Buffers.map (cA .own)).set f (cA .own (nth m.Buffers f++[p]))),C.s .own (m.Inbox.map (aF .own))]=_ from by simp only[List.set_cons_zero,List.set_set,W1];rfl) ?_|refine Ap.sm (aO fun _=>rfl) rfl (by simp;omega) (by decide) (hJ _ _ _) ?_|refine Cl.eq (c3) ⟨⟨rfl,hz⟩,trivial⟩ ?_)
  rfl
 ·rw[if_pos rfl]
  refine fO 35 [(4,267,[16,17,18,19,20,21,22,23,24,25,27,0,1,2,3,4,5,6,7,8,9,10,1000,1001,1002,11,12])] Tryz.func381 rfl ?_ (.inr (aK (aH.enc_fr _) ⟨trivial,trivial⟩))
  repeat'(first|refine gO ?_|(conv=>whnf);first|with_reducible refine Ix.nat (aa hx) ?_|refine Sm.rf ?_|refine Ix.nat (fF hx) ?_|refine Rw.one rfl (fF hx) rfl ?_|refine Cl.mk (c1) ?_|refine Cl.mk (c2) ?_|refine Lq.one rfl rfl (aa hx) rfl (W0 rfl) rfl rfl ?_|refine Rw.one rfl (aa hx) rfl ?_|refine Pu.one rfl rfl (fF hx) rfl (W0 rfl) (show [C.s d3.own ((m.Buffers.map (cA .own)).set f (cA .own (nth m.Buffers f++[p]))),C.s .own (m.Inbox.map (aF .own))]=_ from by simp only[List.set_cons_zero,List.set_set,W1];rfl) ?_|refine Ap.sm (aO fun _=>rfl) rfl (by simp;omega) (by decide) (hJ _ _ _) ?_|refine Cl.eq (c3) ⟨⟨rfl,hz⟩,trivial⟩ ?_|refine Cl.eq (c4) ⟨⟨rfl,hz⟩,trivial⟩ ?_)
  rfl
theorem Ea (m:aH) (f:Int) (hm:bC m=true) (hf:¬(0<=f/\f<=m.Buffers.length - 1)):ao Tryz.prog 360 false [.val (some 2) (aH.enc .imm m),.val none [I f]] (.tup [some 2,none]) (aH.enc .own m++[B false]):=by
 have hL:=km.of hm;have hs:=hL.sml;have c1:=qD m f hs;rw[hm,P0 hf]at c1;have c2:=eM m hs;refine fO 60 [(5,267,[31,32,33,34,35,36,37,38,39,40,42,0,1,2,3,4,5,6,7,8,9,10,1000,1001,1002,11,12]),(6,270,[43,44,45,46,47,48,49,50,51,52,53,54,55,57,0,1,2,3,4,5,6,7,8,9,10,11,12,13,1000,1001,1002,1003,14,15])] Tryz.func360 rfl ?_ (.inr (aK (aH.enc_fr _) ⟨trivial,trivial⟩))
 repeat'(first|refine gO ?_|(conv=>whnf);first|refine Sm.rf ?_|refine Cl.mk (c1) ?_|refine Cl.mk (c2) ?_)
 rfl
theorem D6 (m:aH) (f t:Nat) (ht:(nth (nth m.Buffers f) 0).To=t):aH.enc .own (fx m f)=[.s .own ((m.Buffers.map (cA .own)).set f [.s .own (((nth m.Buffers f).drop 1).map (cS.enc .imm))]),.s .own ((m.Inbox.map (aF .own)).set t (aF .own (nth m.Inbox t++[(nth (nth m.Buffers f) 0).Addr])))]:=by
 unfold aH.enc fx;simp only[List.map_set,ht,W1]
 rfl
theorem Dz (m:aH) (f:Nat) (hm:bC m=true) (hf:f<m.Buffers.length):ao Tryz.prog 360 false [.val (some 2) (aH.enc .imm m),.val none [I (f:Nat)]] (.tup [some 2,none]) (aH.enc .own (if 0<(nth m.Buffers f).length then fx m f else m)++[B (decide (0<(nth m.Buffers f).length))]):=by
 have hL:=km.of hm;have hs:=hL.sml;have h4:=hL.b4;have hi4:=hL.i4;have c1:=qD m f hs;rw[hm,O0 (by omega)]at c1;have c2:=eM m hs;have hx:=Nf hf;have hxl:=hL.bl f hf;by_cases e:0<(nth m.Buffers f).length
 ·rw[if_pos e,O0 e]
  have hok:=((d4.1 hm).2.1 f hf).1 _ (am e);obtain⟨t,ht⟩:=Z1 hok.1;have ht4:t<m.Inbox.length:=by omega
  have hy:=ah e;have hw:=ah ht4;have hwl:=hL.il t (by omega);have hds:=(km.of (AG hm hf e)).sml;have c3:=eM (fx m f) hds;have hz:=aH.enc_fz (fx m f);rw[D6 m f t ht]at hz;have hfr:=aK (b:=[B true]) (aH.enc_fr (fx m f)) ⟨trivial,trivial⟩;generalize hp:nth (nth m.Buffers f) 0=p at *;obtain⟨pt,pa⟩:=p;simp only at ht hok hz;subst ht;refine fO 60 [(5,267,[31,32,33,34,35,36,37,38,39,40,42,0,1,2,3,4,5,6,7,8,9,10,1000,1001,1002,11,12]),(6,270,[43,44,45,46,47,48,49,50,51,52,53,54,55,57,0,1,2,3,4,5,6,7,8,9,10,11,12,13,1000,1001,1002,1003,14,15])] Tryz.func360 rfl ?_ (.inr hfr)
  repeat'(first|refine gA ?_|(conv=>whnf);first|with_reducible (first|refine Ix.nat (aa hx) ?_|refine Ix.nat (aa hw) ?_|refine Bf.E (fun hq=>?_) (fun hq=>?_))|refine Sm.rf ?_|refine Ix.mk (by decide) (aa hy) ?_|refine Ix.nat (fF hx) ?_|refine Ix.nat (fF hw) ?_|refine Rw.one rfl (fF hx) rfl ?_|refine Rw.one rfl (fF hw) rfl ?_|refine Cl.mk (c1) ?_|refine Cl.mk (c2) ?_|refine Rw.one rfl (aa hx) rfl ?_|refine Rw.one rfl (aa hw) rfl ?_|refine Rw.one rfl (aa hy) rfl ?_|refine Lq.one rfl rfl (aa hw) rfl (W0 rfl) rfl rfl ?_|refine Sl.suf 1 rfl (by rw[U0];omega) (aO fun _=>rfl) O3 ?_|refine Fl.cp (fun _=>rfl) (fun _=>rfl) (by rw[Q2];omega) (by decide) ?_|refine Ap.cp (fun _=>rfl) (fun _=>rfl) (by rw[Q2];omega) (by decide) ?_|refine Pu.one rfl rfl (aa hx) rfl (W0 rfl) rfl ?_|refine Pu.one rfl rfl (fF hw) rfl (W0 rfl) (show [C.s d3.own ((m.Buffers.map (cA .own)).set f [.s .own (((nth m.Buffers f).drop 1).map (cS.enc .imm))]),C.s .own ((m.Inbox.map (aF .own)).set t (aF .own (nth m.Inbox t++[pa])))]=_ from by simp only[List.set_cons_zero,List.set_cons_succ,List.set_set,W1];rfl) ?_|refine Ap.sm (aO fun _=>rfl) rfl (by simp;omega) (by decide) (hJ _ _ _) ?_|refine Sm.rf ?_|refine Cl.eq (c3) ⟨⟨rfl,hz⟩,trivial⟩ ?_)
  rfl
 ·rw[if_neg e,P0 e]
  refine fO 60 [(5,267,[31,32,33,34,35,36,37,38,39,40,42,0,1,2,3,4,5,6,7,8,9,10,1000,1001,1002,11,12]),(6,270,[43,44,45,46,47,48,49,50,51,52,53,54,55,57,0,1,2,3,4,5,6,7,8,9,10,11,12,13,1000,1001,1002,1003,14,15])] Tryz.func360 rfl ?_ (.inr (aK (aH.enc_fr _) ⟨trivial,trivial⟩))
  repeat'(first|refine gA ?_|(conv=>whnf);first|with_reducible (first|refine Ix.nat (aa hx) ?_|refine Bf.E (fun hq=>?_) (fun hq=>?_))|refine Sm.rf ?_|refine Cl.mk (c1) ?_|refine Cl.mk (c2) ?_|refine Rw.one rfl (aa hx) rfl ?_)
  rfl
theorem Hx.set (rows:List (List C)) (i:Nat) {r r':List C} (h:HT r r'):Hx (.s .own (rows.set i r)) (.s .own (rows.set i r')):=by
 refine .own_ _ _ (by simp) (fun j a b h1 h2=>?_) (fun j l a b c c' h1 h2 h3 h4=>?_)
 ·by_cases e:i=j
  ·subst e
   have hl:i<rows.length:=by have:=(R1.1 h1).1;simpa using this
   rw[U2 hl]at h1 h2;cases h1;cases h2;exact h.1
  ·rw[List.getElem?_set_ne e]at h1 h2
   rw[h1]at h2;cases h2;rfl
 ·by_cases e:i=j
  ·subst e
   have hl:i<rows.length:=by have:=(R1.1 h1).1;simpa using this
   rw[U2 hl]at h1 h2;cases h1;cases h2;exact h.2 l c c' h3 h4
  ·rw[List.getElem?_set_ne e]at h1 h2
   rw[h1]at h2;cases h2;rw[h3]at h4;cases h4;exact .rfl_ _
theorem zy (m:aH) (t:Nat) (hm:bC m=true) (ht:t<m.Buffers.length):ao Tryz.prog 389 false [.val (some 2) (aH.enc .imm m),.val none [I (t:Nat)]] (.tup [some 2,none]) (aH.enc .own (ku m t)++aF .own (nth m.Inbox t)):=by
 have hL:=km.of hm;have hs:=hL.sml;have h4:=hL.b4;have hi4:=hL.i4;have c1:=qD m t hs;rw[hm,O0 (by omega)]at c1;have c2:=eM m hs;have hw:=ah (xs:=m.Inbox) (i:=t) (by omega);have hwl:=hL.il t ht;have hfr:=aK (aH.enc_fr (ku m t)) (bK (nth m.Inbox t));have e1:aH.enc .own (ku m t)=[.s .own (m.Buffers.map (cA .own)),.s .own ((m.Inbox.map (aF .own)).set t [.s .own []])]:=by simp[aH.enc,ku,List.map_set];rfl
 rw[e1]at hfr |-;refine fO 28 [(5,263,[20,21,22,23,24,25,26,0,1,2,3,4,5,6,7,1000,8,9])] Tryz.func389 rfl ?_ (.inr hfr)
 repeat'((conv=>whnf);first|with_reducible (first|refine Lm ?_|refine Wm (by omega) ?_|refine Ix.nat (aa hw) ?_|refine Bn ?_|refine i6.dk rfl ?_)|refine Bt ?_|refine Bu ?_|refine Sm.rf ?_|refine Cl.mk (c1) ?_|refine Cl.mk (c2) ?_|refine Rw.one rfl (aa hw) rfl ?_|refine Pu.one rfl rfl (aa hw) rfl (W0 rfl) rfl ?_|refine Fl.cp (fun _=>rfl) (fun _=>rfl) (by omega) (by decide) ?_|refine Ap.cp (fun _=>rfl) (fun _=>rfl) (by omega) (by decide) ?_|refine Sm.rf ?_)
 exact .cons (.rfl_ _) (.cons (Hx.set _ _ (.cons .z_ .nil)) (.cons (.rfl_ _) .nil))
theorem FL (now:Int):∀ {l:List aM} {i:Nat},i<=l.length->(∀ j,j<i->(nth l j).Since<now - 100)->(i<l.length->¬(nth l i).Since<now - 100)->qg now l=i
 | [],i,h,_,_=>by simp at h;subst h;rfl
 | x::xs,0,_,_,h=>by
  unfold qg;exact if_neg (h (by simp))
 | x::xs,i+1,h1,h2,h3=>by
  unfold qg;refine(if_pos (h2 0 (by omega))).trans ?_;rw[FL now (l:=xs) (i:=i) (by simp at h1;omega) (fun j hj=>h2 (j+1) (by omega)) (fun hi=>h3 (by simp;omega))]
def LR (q:bB) (now:Int):List C:=bB.enc .own ⟨q.Room,q.Lst.drop (qg now q.Lst)⟩++cC .own (q.Lst.take (qg now q.Lst))
theorem tK (q:bB) (now:Int) (hq:eN q=true) (hl:q.Lst.length<=4096) (hn:0<=now/\now<=1000000):ao Tryz.prog 363 false [.val (some 2) (bB.enc .imm q),.val none [I now],.val none [I 100]] (.tup [some 2,none]) (LR q now):=by
 have hs:bB.sml q:=⟨by omega,fun _ _=>trivial⟩
 have c1:=mT q hs;rw[hq]at c1;have c2:=aD now 0 1000000;rw[O0 hn]at c2;have c3:=aD 100 0 1000000;rw[O0 (by decide)]at c3;have hsc:=(iM.1 hq).1;have hfr:gG (LR q now):=aK (bB.enc_fr _) (sR _);have hb:∀ i,i<q.Lst.length->0<=(nth q.Lst i).Since:=fun i hi=>(hsc _ (am hi)).2.2.2
 unfold LR at hfr |-;generalize hk:qg now q.Lst=k at hfr |-;refine fO 59 [(6,270,[44,45,46,47,48,49,50,51,53,54,55,56,57,58,0,1,2,3,4,5,6,7,9,10,11,12,13,14,8,1009,1010,1011,1012,1013,1014,15,16])] Tryz.func363 rfl ?_ (.inr hfr)
 repeat'(first|refine gO ?_|(conv=>whnf);first|refine Sm.rf ?_|refine Cl.mk (c1) ?_|refine Cl.mk (c2) ?_|refine Cl.mk (c3) ?_)
 (conv=>whnf)
 refine Lp.mk (ι:=Nat) (fun i=>[(1,.hold .one [I (now)]),(2,.hold .one [I (100)]),(3,.hold .box (bB.enc .imm q)),(6,.hold .box [I 0,.z]),(8,.hold .one [I ((i:Nat):Int)])]) (fun i=>i<=q.Lst.length/\∀ j,j<i->(nth q.Lst j).Since<now - 100) (fun i=>q.Lst.length - i) (0) ?_ (⟨Q0 _,fun j hj=>by omega⟩) fun i hi=>?_
 ·exact wC
 obtain⟨hi,ha⟩:=hi;by_cases go:i<q.Lst.length/\(nth q.Lst i).Since<now - 100
 ·have hx:=ah go.1
  repeat'(first|refine gD ?_|(conv=>whnf);first|with_reducible refine Ix.nat (aa hx) ?_|refine Sm.rf ?_|refine Rw.one rfl (aa hx) rfl ?_)
  ((conv=>whnf);refine Nx.mk (i+1) ⟨by omega,fun j hj=>by by_cases e:j=i;(subst e;exact go.2);exact ha j (by omega)⟩ (by omega) ?_;(exact wC))
 ·have hki:=FL now (i:=i) hi ha (fun h1 h2=>go ⟨h1,h2⟩)
  rw[hk]at hki;subst hki;by_cases li:k<q.Lst.length
  ·have hx:=ah li
   have:=hb k li
   repeat'(first|refine gD ?_|(conv=>whnf);first|with_reducible (first|refine Ix.nat (aa hx) ?_|refine Bf.D (fun hq=>?_) (fun hq=>?_))|refine Sm.rf ?_|refine Rw.one rfl (aa hx) rfl ?_|refine Sl.pre k rfl (by rw[U0];omega) (aO fun _=>rfl) I3 ?_|refine Sl.suf k rfl (by rw[U0];omega) (aO fun _=>rfl) O3 ?_|refine Fl.cp (fun _=>rfl) (fun _=>rfl) (by rw[C1];omega) (by decide) ?_|refine Fl.cp (fun _=>rfl) (fun _=>rfl) (by rw[Q2];omega) (by decide) ?_|refine Ap.cp (fun _=>rfl) (fun _=>rfl) (by rw[Q2];omega) (by decide) ?_|refine Sm.rf ?_)
   rfl
  ·repeat'(first|refine gD ?_|(conv=>whnf);first|refine Sm.rf ?_|refine Sl.pre k rfl (by rw[U0];omega) (aO fun _=>rfl) I3 ?_|refine Sl.suf k rfl (by rw[U0];omega) (aO fun _=>rfl) O3 ?_|refine Fl.cp (fun _=>rfl) (fun _=>rfl) (by rw[C1];omega) (by decide) ?_|refine Fl.cp (fun _=>rfl) (fun _=>rfl) (by rw[Q2];omega) (by decide) ?_|refine Ap.cp (fun _=>rfl) (fun _=>rfl) (by rw[Q2];omega) (by decide) ?_|refine Sm.rf ?_)
   rfl
theorem yR (h:ab) (n:Int) (hi:bm h []) (hn:0<=n/\n<=1000) (hc:h.Clock+n<=1000000):aT Tryz.prog 306 false [.ptr (bu h),.val none [I n]] [.ptr (bu (tick h n)),.val none [I n]] .one [I ((ma h n).length:Nat)]:=by
 have hnum:=hi.nums;unfold bU at hnum;rw[C0]at hnum;have hlq:=hi.lens.quar;have c1:=tK h.Quar (h.Clock+n) hi.quar (by omega) ⟨by omega,hc⟩;have h1:=hi.aged hn.1 hc;unfold LR at c1;unfold tick ma aged at *;have hlo:(h.Quar.Lst.take (qg (h.Clock+n) h.Quar.Lst)).length<=4096:=by rw[C1];omega
 rw[U0];generalize h.Quar.Lst.take (qg (h.Clock+n) h.Quar.Lst)=out at c1 h1 hlo |-;generalize h.Quar.Lst.drop (qg (h.Clock+n) h.Quar.Lst)=rest at c1 h1 |-;refine fM 48 [(364,[2,0])] [(2,269,[18,19,20,21,22,23,24,25,26,17,27,28,5,0,1,2,3,4,5,6,7,8,9,10,11,12,13,1011,14])] [(0,0),(0,0)] Tryz.func306 rfl (fun u q=>?_)
 repeat'(first|refine gO ?_|(conv=>whnf);first|refine Sm.rf ?_|refine Cl.eq (c1) ⟨⟨rfl,bB.enc_fz h.Quar⟩,⟨rfl,rfl⟩,⟨rfl,rfl⟩,trivial⟩ ?_|refine Sm.rf ?_)
 (conv=>whnf)
 refine Lp.mk (ι:=Nat) (fun k=>[(0,.hold .box (bu (freeAs {h with Clock:=h.Clock+n,Quar:=⟨h.Quar.Room,rest⟩} ((out.map (·.Addr)).take k)))),(6,.hold .one (cC .own out)),(7,.hold .one [I ((k:Nat):Int)])]) (fun k=>k<=out.length) (fun k=>out.length - k) (0) ?_ (Q0 _) fun k hk=>?_
 ·exact wC
 by_cases lk:k<out.length
 ·have hxo:=ah lk
  have hlk:k<(out.map (·.Addr)).length:=by rw[U0];exact lk
  have hnk:nth (out.map (·.Addr)) k=(nth out k).Addr:=bq (by rw[O2,ah lk];rfl);have hik:bm (freeAs {h with Clock:=h.Clock+n,Quar:=⟨h.Quar.Room,rest⟩} ((out.map (·.Addr)).take k)) (nth (out.map (·.Addr)) k::(out.map (·.Addr)).drop (k+1)):=by
   refine bm.freeAs ?_;rw[<-iG hlk,List.take_append_drop];rw[List.append_nil]at h1;exact h1
  rw[hnk]at hik;have c2:=lS _ _ _ hik
  repeat'(first|refine gD ?_|(conv=>whnf);first|refine Sm.rf ?_|refine Ix.nat (aa hxo) ?_|refine Rw.one rfl (aa hxo) rfl ?_|refine cv.mk (c2) (.inl rfl) ?_)
  ((conv=>whnf);refine Nx.mk (k+1) (by omega) (by omega) ?_)
  rw[sQ _ _ _ hlk,hnk];exact wC
 ·obtain rfl:k=out.length:=by omega
  rw[List.take_of_length_le (by rw[U0];omega)]
  repeat'(first|refine gD ?_|(conv=>whnf);first|refine Sm.rf ?_)
  refine aR.mk rfl rfl ?_;exact wC
theorem A6 (t:Nat) (h:ab) (az:List Int) (k:Nat) (hk:k<az.length):recycs t h (az.take (k+1))=recyc t (recycs t h (az.take k)) (nth az k):=by
 unfold recycs;rw[List.take_add_one,ah hk,Option.toList_some,List.foldl_append];rfl
theorem tH (h:ab) (t:Nat) (hi:bm h []) (ht:t<h.Caches.length):aT Tryz.prog 361 false [.ptr (bu h),.val none [I (t:Nat)]] [.ptr (bu (collect h t)),.val none [I (t:Nat)]] .one [I ((nth h.Mail.Inbox t).length:Nat)]:=by
 have hnc:=hi.nc;have hi4:=(d4.1 hi.mail).1.2.2;have c1:=zy h.Mail t hi.mail (by omega);have hll:=(km.of hi.mail).il t (by omega);have h1:=hi.coll (t:=t) (by omega);rw[List.append_nil]at h1;unfold collect;generalize nth h.Mail.Inbox t=out at c1 h1 hll |-;refine fM 36 [(384,[2,0,0])] [] [(0,0),(0,0)] Tryz.func361 rfl (fun u q=>?_)
 repeat'(first|refine gO ?_|(conv=>whnf);first|refine Sm.rf ?_|refine Cl.eq (c1) ⟨⟨rfl,aH.enc_fz h.Mail⟩,⟨rfl,rfl⟩,trivial⟩ ?_)
 (conv=>whnf)
 refine Lp.mk (ι:=Nat) (fun k=>[(0,.hold .box (bu (recycs t {h with Mail:=ku h.Mail t} (out.take k)))),(1,.hold .one [I ((t:Nat):Int)]),(6,.hold .one (aF .own out)),(7,.hold .one [I ((k:Nat):Int)])]) (fun k=>k<=out.length) (fun k=>out.length - k) (0) ?_ (Q0 _) fun k hk=>?_
 ·exact wC
 by_cases lk:k<out.length
 ·have hxo:=ah lk
  have hik:bm (recycs t {h with Mail:=ku h.Mail t} (out.take k)) (nth out k::out.drop (k+1)):=by
   refine bm.recycs ?_ ht;rw[<-iG lk,List.take_append_drop];exact h1
  have c2:=m6 _ _ t _ hik (by rw[(fN t _ _).1];exact ht)
  repeat'(first|refine gD ?_|(conv=>whnf);first|refine Sm.rf ?_|refine Ix.nat (aa hxo) ?_|refine Rw.one rfl (aa hxo) rfl ?_|refine cv.mk (c2) (.inl rfl) ?_)
  ((conv=>whnf);refine Nx.mk (k+1) (by omega) (by omega) ?_)
  rw[A6 _ _ _ _ lk];exact wC
 ·obtain rfl:k=out.length:=by omega
  rw[List.take_length]
  repeat'(first|refine gD ?_|(conv=>whnf);first|refine Sm.rf ?_)
  refine aR.mk rfl rfl ?_;exact wC
def HY (a:Int) (o:bO):Bool:=decide (o.Addr<=a/\a<o.Addr+o.Size)
theorem DH (h:ab) (E:List Int) (a:Int) (hi:bm h E):aT Tryz.prog 126 false [.ptr (bu h),.val none [I a]] [.ptr (bu h),.val none [I a]] .one [I (dw (HY a) h.Objs)]:=by
 have hlo:=hi.lens.objs;refine fM 47 [] [(4,29,[15,16,17,18,19,20,21,22,23,24,25,26,27,28,29,30,31,32,33,34,35,36,37,38,39,40,41,42,43])] [(0,0),(0,0)] Tryz.func126 rfl (fun u q=>?_)
 repeat'(first|refine gO ?_|(conv=>whnf);first|refine Sm.rf ?_)
 (conv=>whnf)
 refine Lp.mk (ι:=Nat) (fun i=>[(0,.hold .box (bu h)),(1,.hold .one [I (a)]),(5,.hold .one [I ((i:Nat):Int)])]) (fun i=>i<=h.Objs.length/\∀ (j:Nat) (z:bO),j<i->h.Objs[j]? = some z->HY a z=false) (fun i=>h.Objs.length - i) (0) ?_ (⟨Q0 _,fun j z hj=>by omega⟩) fun i hi=>?_
 ·exact wC
 obtain⟨hi1,ha⟩:=hi;by_cases li:i<h.Objs.length
 ·have hx:=ah li
  have hbo:=rY ‹bm h E› (am li);have hso:0<=(nth h.Objs i).Size/\(nth h.Objs i).Size<=1000:=by
   rcases bm.oow ‹bm h E› _ (am li) with⟨s,hs,h1,h2⟩|⟨l,hl',e1,e2⟩
   ·have hc:=aG ((bm.L ‹bm h E›).sok s hs)
    have:=pb (n:=(nth h.Objs i).Size) (by omega);omega
   ·have h8:=cw ((bm.L ‹bm h E›).lok l hl')
    omega
  by_cases e1:(nth h.Objs i).Addr<=a
  ·by_cases e2:a<(nth h.Objs i).Addr+(nth h.Objs i).Size
   ·repeat'(first|refine gD ?_|(conv=>whnf);first|with_reducible refine Ix.nat (aa hx) ?_|refine Sm.rf ?_|refine Rw.one rfl (aa hx) rfl ?_|refine Sm.rf ?_)
    refine aR.mk rfl (R0 (fun z=>[I z]) (dR hx (O0 ⟨e1,e2⟩) ha).symm) ?_;exact wC
   ·repeat'(first|refine gD ?_|(conv=>whnf);first|with_reducible (first|refine Ix.nat (aa hx) ?_|refine Bf.D (fun hq=>?_) (fun hq=>?_))|refine Sm.rf ?_|refine Rw.one rfl (aa hx) rfl ?_|refine Sm.rf ?_)
    ((conv=>whnf);refine Nx.mk (i+1) ⟨by omega,dl hx (P0 fun x=>e2 x.2) ha⟩ (by omega) ?_;(exact wC))
  ·repeat'(first|refine gD ?_|(conv=>whnf);first|with_reducible (first|refine Ix.nat (aa hx) ?_|refine Bf.D (fun hq=>?_) (fun hq=>?_))|refine Sm.rf ?_|refine Rw.one rfl (aa hx) rfl ?_|refine Sm.rf ?_)
   ((conv=>whnf);refine Nx.mk (i+1) ⟨by omega,dl hx (P0 fun x=>e1 x.1) ha⟩ (by omega) ?_;(exact wC))
 ·repeat'(first|refine gD ?_|(conv=>whnf);first|refine Sm.rf ?_)
  refine aR.mk rfl (R0 (fun z=>[I z]) (gr (by omega) ha).symm) ?_;exact wC
theorem FH (h:ab) (a v:Int):bu {h with Kernel:=ki h.Kernel a v} = (bu h).set 0 (.s .own ((h.Kernel.Machine.Frames.Cells.map (aF .own)).set (ar h.Kernel.Machine.Table (a / 16)).Frame.toNat ((aF .own (nth h.Kernel.Machine.Frames.Cells (fE h.Kernel a))).set 0 (.s .own (((nth h.Kernel.Machine.Frames.Cells (fE h.Kernel a)).map (rI .own)).set (a % 16).toNat (splice (rI .own (nth (nth h.Kernel.Machine.Frames.Cells (fE h.Kernel a)) (a % 16).toNat)) 0 [I v])))))):=by
 simp[bu,ki,setCell,List.map_set,aF,splice,fE,rI]
theorem AC {α:Type} {p:α->Bool} {xs:List α} {x:α} (hx:x∈xs) (hp:p x=true):0<=dw p xs:=by
 have:=kS p xs;rw[show xs.any p=true from v3.2 ⟨x,hx,hp⟩,C0]at this;exact this
theorem xx (h:ab) (i:Nat) (j v:Int) (hi:bm h []) (li:i<h.Objs.length) (hj:0<=j/\j<=(nth h.Objs i).Size - 1):aT Tryz.prog 356 false [.ptr (bu h),.val none [I ((nth h.Objs i).Addr+j)],.val none [I v]]
  [.ptr (bu (if(ar h.Kernel.Machine.Table (((nth h.Objs i).Addr+j) / 16)).Mode=1\/¬(0<=v/\v<=999) then h else {h with Kernel:=ki h.Kernel ((nth h.Objs i).Addr+j) v})),.val none [I ((nth h.Objs i).Addr+j)],.val none [I v]] .one [I (if(ar h.Kernel.Machine.Table (((nth h.Objs i).Addr+j) / 16)).Mode=1 then 2 else if ¬(0<=v/\v<=999) then 3 else 0)]:=by
 obtain⟨m1,m2,m3⟩:=lB hi (am li) hj;have hfi:0<=dw (HY ((nth h.Objs i).Addr+j)) h.Objs:=AC (am li) (O0 (by omega));have c1:=DH h [] ((nth h.Objs i).Addr+j) hi;have hks:=bp hi.ker;have c2:=cP h.Kernel.Machine.Table (((nth h.Objs i).Addr+j) / 16) hks.1.2;have c3:=aD v 0 999;generalize hA:(nth h.Objs i).Addr+j=a at *;have hbd:0<=a/\a<512:=by omega
 obtain⟨-,-,-,f0,f1⟩:=ce hi.ker m1;have hul:=(aU.1 (aB.1 hi.ker).2.1).2.2.1;have hfr:fE h.Kernel a<h.Kernel.Machine.Frames.Cells.length:=by unfold fE;omega
 have hck:h.Kernel.Machine.Frames.Cells[(ar h.Kernel.Machine.Table (a / 16)).Frame.toNat]? = some (nth h.Kernel.Machine.Frames.Cells (fE h.Kernel a)):=ah hfr;have h16:=hi.lens.row _ (am hfr);have hzk:=ah (xs:=nth h.Kernel.Machine.Frames.Cells (fE h.Kernel a)) (i:=(a % 16).toNat) (by rw[h16];omega);have htm:a.tmod 16=a % 16:=fH hbd.1;refine fM 42 [(126,[2,0])] [(8,14,[27,28,29,30,31,32,33,34,35,36,37,38,39,40])] [(0,0),(0,0),(0,0)] Tryz.func356 rfl (fun u q=>?_);by_cases e1:(ar h.Kernel.Machine.Table (a / 16)).Mode=1
 ·rw[if_pos (Or.inl e1),if_pos e1]
  repeat'(first|refine gA ?_|(conv=>whnf);first|refine Sm.rf ?_|refine cv.mk (c1) (.inl rfl) ?_|refine Cl.eq (c2) ⟨⟨rfl,aE.enc_fz _⟩,⟨rfl,rfl⟩,trivial⟩ ?_|refine Cd.mk (by decide) ?_|refine Wr.mk (oK hbd) ?_)
  refine aR.mk rfl rfl ?_;exact wC
 rw[if_neg (c:=_=(1:Int)) e1];by_cases e2:0<=v/\v<=999
 ·rw[O0 e2]at c3
  rw[if_neg (c:=¬(0<=v/\v<=999)) (C3 e2),if_neg (c:=_\/¬(0<=v/\v<=999)) (fun y=>y.elim e1 fun y=>y e2)]
  repeat'(first|refine gA ?_|(conv=>whnf);first|refine Sm.rf ?_|refine cv.mk (c1) (.inl rfl) ?_|refine Cl.eq (c2) ⟨⟨rfl,aE.enc_fz _⟩,⟨rfl,rfl⟩,trivial⟩ ?_|refine Cl.mk (c3) ?_|refine Cd.mk (by decide) ?_|refine Wr.mk (oK hbd) ?_|refine Ev.mk htm ?_|refine Ix.mk f0 (aa hck) ?_|refine Rw.one rfl (aa hck) rfl ?_|refine Ix.mk (by omega) (aa hzk) ?_|refine Pu.two rfl rfl (aa hck) rfl rfl rfl (aa hzk) rfl (I2 _) (FH h a v) ?_|refine Sm.rf ?_)
  refine aR.mk rfl rfl ?_;exact wC
 ·rw[P0 e2]at c3
  rw[if_pos (Or.inr e2),if_pos e2]
  repeat'(first|refine gA ?_|(conv=>whnf);first|refine Sm.rf ?_|refine cv.mk (c1) (.inl rfl) ?_|refine Cl.eq (c2) ⟨⟨rfl,aE.enc_fz _⟩,⟨rfl,rfl⟩,trivial⟩ ?_|refine Cl.mk (c3) ?_|refine Cd.mk (by decide) ?_|refine Wr.mk (oK hbd) ?_)
  refine aR.mk rfl rfl ?_;exact wC
def v6 (l:aA) (n:Int):a7:=if(n+15) / 16<l.Pages then⟨l.Page+(n+15) / 16,l.Pages - (n+15) / 16⟩ else⟨0,0⟩
theorem vE (l:aA) (n:Int) (hl:bS l=true):ao Tryz.prog 386 false [.val (some 3) (aA.enc .imm l),.val none [I n]] (.tup [some 3,some 2,none]) (if 9<=n/\n<=l.Size then aA.enc .own (trimL l n)++a7.enc .own (v6 l n)++[B true] else aA.enc .own l++[I 0,I 0]++[B false]):=by
 have c1:=lQ l;rw[hl]at c1;have c2:=aD n 9 l.Size;have h8:=hl;unfold bS at h8;rw[C0]at h8;by_cases e:9<=n/\n<=l.Size
 ·rw[O0 e]at c2
  rw[if_pos e];have c3:=kI n;rw[show eC n=(n+15) / 16 by unfold eC;rw[if_pos (by omega)]]at c3;unfold v6;by_cases e2:(n+15) / 16<l.Pages
  ·rw[if_pos e2]
   refine fO 43 [(7,261,[37,38,39,40,42,0,1,2,3,5,4,1005,6,1005,7,8])] Tryz.func386 rfl ?_ (.inr ⟨trivial,trivial,trivial,trivial,trivial,trivial,trivial⟩)
   repeat'(first|refine gD ?_|(conv=>whnf);first|refine Sm.rf ?_|refine Cl.mk (c1) ?_|refine Cl.mk (c2) ?_|refine Cl.mk (c3) ?_|refine Sm.rf ?_)
   rfl
  ·rw[if_neg e2]
   refine fO 43 [(7,261,[37,38,39,40,42,0,1,2,3,5,4,1005,6,1005,7,8])] Tryz.func386 rfl ?_ (.inr ⟨trivial,trivial,trivial,trivial,trivial,trivial,trivial⟩)
   repeat'(first|refine gD ?_|(conv=>whnf);first|refine Sm.rf ?_|refine Cl.mk (c1) ?_|refine Cl.mk (c2) ?_|refine Cl.mk (c3) ?_|refine Sm.rf ?_)
   rfl
 ·rw[P0 e]at c2
  rw[if_neg e];refine fO 43 [(7,261,[37,38,39,40,42,0,1,2,3,5,4,1005,6,1005,7,8])] Tryz.func386 rfl ?_ (.inr ⟨trivial,trivial,trivial,trivial,trivial,trivial,trivial⟩)
  repeat'(first|refine gO ?_|(conv=>whnf);first|refine Sm.rf ?_|refine Cl.mk (c1) ?_|refine Cl.mk (c2) ?_|refine Sm.rf ?_)
  rfl
theorem yL (h:ab) (t a:Int) (hlc:h.Caches.length<=4) (ht:¬(0<=t/\t<=h.Caches.length - 1)):aT Tryz.prog 354 false [.ptr (bu h),.val none [I t],.val none [I a]] [.ptr (bu h),.val none [I t],.val none [I a]] .one [I 1]:=by
 have c0:=aD t 0 (h.Caches.length - 1:Int);rw[P0 ht]at c0;refine fM 148 [(380,[2,0]),(382,[2,0]),(384,[2,0,0]),(379,[2,0])] [(15,269,[68,69,70,71,72,73,74,75,77,67,78,79,11,0,1,2,3,4,5,6,7,13,8,1000,1001,1002,1003,1004,1013,9,10,11,12,14,1012,15]),(22,15,[92,93,94,95,96,97,98,99,100,101,102,103,104,105,106]),(25,271,[116,117,118,119,120,121,122,123,124,125,127,115,128,129,14,0,1,2,3,4,5,6,7,8,9,15,10,1000,1001,1002,1003,1015,11,12,13,14,16,1014,17])] [(0,0),(0,0),(0,0)] Tryz.func354 rfl (fun u q=>?_)
 repeat'(first|refine gO ?_|(conv=>whnf);first|refine Sm.rf ?_|refine Cl.mk (c0) ?_)
 refine aR.mk rfl rfl ?_;exact wC
theorem BG (h:ab) (i t:Nat) (hi:bm h []) (li:i<h.Objs.length) (htn:t<h.Caches.length) (hne:(nth h.Objs i).Thread≠t):aT Tryz.prog 354 false [.ptr (bu h),.val none [I (t:Nat)],.val none [I (nth h.Objs i).Addr]] [.ptr (bu (freeT h t i).1),.val none [I (t:Nat)],.val none [I (nth h.Objs i).Addr]] .one [I (freeT h t i).2]:=by
 have ho:=am li;obtain⟨-,hob,hfst⟩:=hi.objAt ho;have hii:nr h (nth h.Objs i).Addr=i:=by
  have h2:=(hi.objAt ho).1;exact gy (f:=(·.Addr)) (gJ hi.osr) h2 li (by rw[hob])
 rw[hii]at hfst;have hbd:=rY hi ho;have hon:=hi.onu _ ho;have hlen:=hi.lens;have hno:=hlen.objs;have hnc:=hi.nc;have hL:=km.of hi.mail;have hb4:=hL.b4;have c0:=aD (t:Nat) 0 (h.Caches.length - 1:Int);rw[O0 (by omega)]at c0;have c1:=pm h (nth h.Objs i).Addr (by omega);rw[hfst]at c1;have hx:=ah li;have c2:=ju (nth h.Objs i).Size;have hks:=bp hi.ker;have c4:=cP h.Kernel.Machine.Table ((nth h.Objs i).Addr / 16) hks.1.2;unfold freeT;by_cases hc:aN (nth h.Objs i).Size<0
 ·rw[if_pos hc]
  have c3:=oY h i hi li hc;refine fM 148 [(380,[2,0]),(382,[2,0]),(384,[2,0,0]),(379,[2,0])] [(15,269,[68,69,70,71,72,73,74,75,77,67,78,79,11,0,1,2,3,4,5,6,7,13,8,1000,1001,1002,1003,1004,1013,9,10,11,12,14,1012,15]),(22,15,[92,93,94,95,96,97,98,99,100,101,102,103,104,105,106]),(25,271,[116,117,118,119,120,121,122,123,124,125,127,115,128,129,14,0,1,2,3,4,5,6,7,8,9,15,10,1000,1001,1002,1003,1015,11,12,13,14,16,1014,17])] [(0,0),(0,0),(0,0)] Tryz.func354 rfl (fun u q=>?_)
  repeat'(first|refine gD ?_|(conv=>whnf);first|with_reducible refine Bf.D (fun hq=>?_) (fun hq=>?_)|refine Sm.rf ?_|refine Cl.mk (c0) ?_|refine Cl.eq (c1) ⟨⟨rfl,bA h⟩,⟨rfl,rfl⟩,trivial⟩ ?_|refine Ix.nat (aa hx) ?_|refine Rw.one rfl (aa hx) rfl ?_|refine Cl.mk (c2) ?_|refine cv.mk (c3) (.inl rfl) ?_)
  refine aR.mk rfl rfl ?_;exact wC
 rw[if_neg hc];obtain⟨s1,s2,s3,s4⟩:=N9.of hi (am li) hc;by_cases hm:(ar (tbl h) ((nth h.Objs i).Addr / 16)).Mode=1
 ·rw[if_pos hm]
  unfold tbl at hm;refine fM 148 [(380,[2,0]),(382,[2,0]),(384,[2,0,0]),(379,[2,0])] [(15,269,[68,69,70,71,72,73,74,75,77,67,78,79,11,0,1,2,3,4,5,6,7,13,8,1000,1001,1002,1003,1004,1013,9,10,11,12,14,1012,15]),(22,15,[92,93,94,95,96,97,98,99,100,101,102,103,104,105,106]),(25,271,[116,117,118,119,120,121,122,123,124,125,127,115,128,129,14,0,1,2,3,4,5,6,7,8,9,15,10,1000,1001,1002,1003,1015,11,12,13,14,16,1014,17])] [(0,0),(0,0),(0,0)] Tryz.func354 rfl (fun u q=>?_)
  repeat'(first|refine gA ?_|(conv=>whnf);first|with_reducible refine Bf.D (fun hq=>?_) (fun hq=>?_)|refine Sm.rf ?_|refine Cd.mk (by decide) ?_|refine Wr.mk (oK hbd) ?_|refine Cl.mk (c0) ?_|refine Cl.eq (c1) ⟨⟨rfl,bA h⟩,⟨rfl,rfl⟩,trivial⟩ ?_|refine Ix.nat (aa hx) ?_|refine Rw.one rfl (aa hx) rfl ?_|refine Cl.mk (c2) ?_|refine Cl.eq (c4) ⟨⟨rfl,aE.enc_fz _⟩,⟨rfl,rfl⟩,trivial⟩ ?_)
  refine aR.mk rfl rfl ?_;exact wC
 rw[if_neg hm,if_neg hne];unfold tbl at hm;have c5:=G4 h.Mail t ⟨(nth h.Objs i).Thread,(nth h.Objs i).Addr⟩ hi.mail (by omega);by_cases hs:bC (gp h.Mail t ⟨(nth h.Objs i).Thread,(nth h.Objs i).Addr⟩)=true;rotate_left
 ·rw[if_neg hs]
  rw[if_neg hs,show bC (gp h.Mail t ⟨(nth h.Objs i).Thread,(nth h.Objs i).Addr⟩)=false by simpa using hs]at c5;refine fM 148 [(380,[2,0]),(382,[2,0]),(384,[2,0,0]),(379,[2,0])] [(15,269,[68,69,70,71,72,73,74,75,77,67,78,79,11,0,1,2,3,4,5,6,7,13,8,1000,1001,1002,1003,1004,1013,9,10,11,12,14,1012,15]),(22,15,[92,93,94,95,96,97,98,99,100,101,102,103,104,105,106]),(25,271,[116,117,118,119,120,121,122,123,124,125,127,115,128,129,14,0,1,2,3,4,5,6,7,8,9,15,10,1000,1001,1002,1003,1015,11,12,13,14,16,1014,17])] [(0,0),(0,0),(0,0)] Tryz.func354 rfl (fun u q=>?_)
  repeat'(first|refine gA ?_|(conv=>whnf);first|with_reducible refine Bf.D (fun hq=>?_) (fun hq=>?_)|refine Sm.rf ?_|refine Cd.mk (by decide) ?_|refine Wr.mk (oK hbd) ?_|refine Cl.mk (c0) ?_|refine Cl.eq (c1) ⟨⟨rfl,bA h⟩,⟨rfl,rfl⟩,trivial⟩ ?_|refine Ix.nat (aa hx) ?_|refine Rw.one rfl (aa hx) rfl ?_|refine Cl.mk (c2) ?_|refine Cl.eq (c4) ⟨⟨rfl,aE.enc_fz _⟩,⟨rfl,rfl⟩,trivial⟩ ?_|refine Cl.eq (c5) ⟨⟨rfl,aH.enc_fz h.Mail⟩,⟨rfl,rfl⟩,⟨rfl,rfl⟩,trivial⟩ ?_|refine Sm.rf ?_)
  refine aR.mk rfl rfl ?_;exact wC
 rw[if_pos hs];rw[if_pos hs,hs]at c5;have hfr:fE h.Kernel (nth h.Objs i).Addr<h.Kernel.Machine.Frames.Cells.length:=by unfold fE;omega
 have hcz:=JY s1;have hcs:=dv (aN (nth h.Objs i).Size);unfold Mo;generalize gp h.Mail t ⟨(nth h.Objs i).Thread,(nth h.Objs i).Addr⟩ = M at c5;refine fM 148 [(380,[2,0]),(382,[2,0]),(384,[2,0,0]),(379,[2,0])] [(15,269,[68,69,70,71,72,73,74,75,77,67,78,79,11,0,1,2,3,4,5,6,7,13,8,1000,1001,1002,1003,1004,1013,9,10,11,12,14,1012,15]),(22,15,[92,93,94,95,96,97,98,99,100,101,102,103,104,105,106]),(25,271,[116,117,118,119,120,121,122,123,124,125,127,115,128,129,14,0,1,2,3,4,5,6,7,8,9,15,10,1000,1001,1002,1003,1015,11,12,13,14,16,1014,17])] [(0,0),(0,0),(0,0)] Tryz.func354 rfl (fun u q=>?_)
 repeat'(first|refine gA ?_|(conv=>whnf);first|with_reducible refine Bf.D (fun hq=>?_) (fun hq=>?_)|refine Sm.rf ?_|refine Cd.mk (by decide) ?_|refine Wr.mk (oK hbd) ?_|refine Cl.mk (c0) ?_|refine Cl.eq (c1) ⟨⟨rfl,bA h⟩,⟨rfl,rfl⟩,trivial⟩ ?_|refine Ix.nat (aa hx) ?_|refine Rw.one rfl (aa hx) rfl ?_|refine Cl.mk (c2) ?_|refine Cl.eq (c4) ⟨⟨rfl,aE.enc_fz _⟩,⟨rfl,rfl⟩,trivial⟩ ?_|refine Cl.eq (c5) ⟨⟨rfl,aH.enc_fz h.Mail⟩,⟨rfl,rfl⟩,⟨rfl,rfl⟩,trivial⟩ ?_|refine Sm.rf ?_)
 have hh0:({{h with Mail:=M} with Kernel:=fS h.Kernel (nth h.Objs i).Addr 0} : ab) = {h with Mail:=M}:=Fc {h with Mail:=M} _ hfr;have hoo:=R0 (fun y:ab=>C.s .own (y.Kernel.Machine.Frames.Cells.map (aF .own))) hh0
 (conv=>whnf)
 refine Lp.mk (ι:=Nat) (fun k=>[(0,.hold .box (bu {{h with Mail:=M} with Kernel:=fS h.Kernel (nth h.Objs i).Addr k})),(1,.hold .one [I ((t:Nat):Int)]),(2,.hold .one [I ((nth h.Objs i).Addr)]),(7,.hold .one [I ((i:Nat):Int)]),(8,.hold .box (bO.enc .own (nth h.Objs i))),(9,.hold .one [I (aN (nth h.Objs i).Size)]),(10,.hold .box (bj.enc .own (ar h.Kernel.Machine.Table ((nth h.Objs i).Addr / 16)))),(13,.hold .one [I ((k:Nat):Int)])]) (fun k=>k<=(csz (aN (nth h.Objs i).Size)).toNat) (fun k=>(csz (aN (nth h.Objs i).Size)).toNat - k) (0) ?_ (Q0 _) fun k hk=>?_
 ·repeat'(first|exact trivial|rfl |exact nN hoo|exact dK _|refine And.intro ?_ ?_|(exact Br (by first|omega|(simp only;omega)|(simp;omega))))
 have hmod:IntKind.i64.wrap 0=0:=rfl;have htm:(nth h.Objs i).Addr.tmod 16=(nth h.Objs i).Addr % 16:=fH hbd.1;have hck:(fS h.Kernel (nth h.Objs i).Addr k).Machine.Frames.Cells[(ar h.Kernel.Machine.Table ((nth h.Objs i).Addr / 16)).Frame.toNat]? = some (ly (nth h.Kernel.Machine.Frames.Cells (fE h.Kernel (nth h.Objs i).Addr)) ((nth h.Objs i).Addr % 16).toNat k):=U2 hfr;by_cases lk:k<(csz (aN (nth h.Objs i).Size)).toNat
 ·have hzk:=ah (xs:=ly (nth h.Kernel.Machine.Frames.Cells (fE h.Kernel (nth h.Objs i).Addr)) ((nth h.Objs i).Addr % 16).toNat k) (i:=((nth h.Objs i).Addr % 16+k).toNat) (by rw[od,s4];omega)
  repeat'(first|refine gD ?_|(conv=>whnf);first|refine Sm.rf ?_|refine Cd.mk (by decide) ?_|refine Ev.mk htm ?_|refine Cl.mk (hcs) ?_|refine Ix.mk s2.1 (aa hck) ?_|refine Rw.one rfl (aa hck) rfl ?_|refine Ix.mk (by omega) (aa hzk) ?_|refine Pu.two rfl rfl (aa hck) rfl rfl rfl (aa hzk) rfl (I2 _) (Db {h with Mail:=M} _ k _ hbd.1) ?_)
  ((conv=>whnf);refine Nx.mk (k+1) (by omega) (by omega) ?_;(exact wC))
 ·obtain rfl:k=(csz (aN (nth h.Objs i).Size)).toNat:=by omega
  have c6:=l8 {{h with Mail:=M} with Kernel:=fS h.Kernel (nth h.Objs i).Addr (csz (aN (nth h.Objs i).Size)).toNat} i li (by show h.Objs.length<=_;omega)
  repeat'(first|refine gA ?_|(conv=>whnf);first|with_reducible refine Bf.D (fun hq=>?_) (fun hq=>?_)|refine Sm.rf ?_|refine Cl.mk (hcs) ?_|refine cv.mk (c6) (.inl rfl) ?_)
  refine aR.mk rfl rfl ?_;exact wC
theorem LP (h:ab) (i:Nat) (t:Int) (hi:bm h []) (li:i<h.Objs.length):aT Tryz.prog 354 false [.ptr (bu h),.val none [I t],.val none [I (nth h.Objs i).Addr]] [.ptr (bu (if 0<=t/\t<=h.Caches.length - 1 then(freeT h t.toNat i).1 else h)),.val none [I t],.val none [I (nth h.Objs i).Addr]] .one [I (if 0<=t/\t<=h.Caches.length - 1 then(freeT h t.toNat i).2 else 1)]:=by
 have hlc:h.Caches.length<=4:=by have:=(d4.1 hi.mail).1.2.1;have:=hi.nc;omega
 by_cases ht:0<=t/\t<=h.Caches.length - 1
 ·rw[if_pos ht,if_pos ht]
  obtain⟨n,rfl⟩:=Z1 ht.1;simp only[W1];by_cases e:(nth h.Objs i).Thread=n
  ·have:=DW h (nth h.Objs i) n hi (am li) e hlc
   have hii:nr h (nth h.Objs i).Addr=i:=by
    obtain⟨h2,hob,-⟩:=hi.objAt (am li);exact gy (f:=(·.Addr)) (gJ hi.osr) h2 li (by rw[hob])
   rw[hii,<-xI e]at this;exact this
  ·exact BG h i n hi li (by omega) e
 ·rw[if_neg ht,if_neg ht]
  exact yL h t _ hlc ht
theorem Jm (c:aC) (k:Nat):aC.enc .own (qS c k)=[.s .own ((c.Lists.map (aF .own)).set k (aF .own ((nth c.Lists k).take ((nth c.Lists k).length - 1))))]:=by simp[aC.enc,qS,List.map_set]
theorem M6 (xs:List Int) (n:Nat):(xs.take n).map (rI .imm)=(xs.map (rI .imm)).take n:=I3
def N2 (c:aC) (k:Nat):List C:=if 0<(nth c.Lists k).length then aC.enc .own (qS c k)++[I (nth (nth c.Lists k) ((nth c.Lists k).length - 1)),B true] else aC.enc .own c++[I (-1),B false]
theorem Mw (c:aC) (k:Nat):gG (N2 c k):=by
 unfold N2;split
 ·exact aK (aC.enc_fr _) ⟨trivial,trivial,trivial⟩
 ·exact aK (aC.enc_fr _) ⟨trivial,trivial,trivial⟩
theorem ul (c:aC) (k:Nat) (ho:bn c=true) (hk:k<=3):ao Tryz.prog 289 false [.val (some 1) (aC.enc .imm c),.val none [I (k:Nat)]] (.tup [some 1,none,none]) (N2 c k):=by
 obtain⟨h1,h2⟩:=dY ho;have hs:aC.sml c:=⟨by omega,fun l hl=>by have:=h2 l hl;show l.length<=1048576;omega⟩
 have c1:=vI c k hs;rw[ho,O0 (by omega)]at c1;have c2:=ib c hs;have hx:=sj (c:=c) (k:=k) (by omega);have hxl:=h2 _ (am (xs:=c.Lists) (i:=k) (by omega));have hf:=Mw c k;unfold N2 at hf |-;by_cases hn:0<(nth c.Lists k).length
 ·rw[if_pos hn]at hf |-
  have hy:=ah (xs:=nth c.Lists k) (i:=(nth c.Lists k).length - 1) (by omega);have hy':(nth c.Lists k)[(((nth c.Lists k).length:Int) - 1).toNat]? = some (nth (nth c.Lists k) ((nth c.Lists k).length - 1)):=by rw[show(((nth c.Lists k).length:Int) - 1).toNat=(nth c.Lists k).length - 1 by omega];exact hy
  have hqq:((((nth c.Lists k).length:Nat):Int) - 1)=(((nth c.Lists k).length - 1:Nat):Int):=by omega
  rw[Jm]at hf |-;refine fO 54 [(5,268,[32,33,34,35,36,37,38,39,40,41,42,44,0,1,2,3,4,5,6,7,8,9,10,11,1000,1001,1002,12,13]),(6,265,[45,46,47,48,49,50,51,52,53,0,1,2,3,4,5,6,7,8,9,1001,1002,1003,1004,1005,1006,1007,1008,10,11])] Tryz.func289 rfl ?_ (.inr hf)
  repeat'(first|refine gA ?_|(conv=>whnf);first|with_reducible refine Ix.nat (aa hx) ?_|refine Sm.rf ?_|refine Rw.one rfl (aa hx) rfl ?_|refine Cl.mk (c1) ?_|refine Cl.mk (c2) ?_|refine Ix.mk (by omega) (aa hy') ?_|refine Ix.nat (aa hy) ?_|refine Sl.pre ((nth c.Lists k).length - 1) hqq (by rw[U0];omega) (aO fun _=>rfl) (M6 _ _) ?_|refine Sm.rf ?_|refine Fl.cp (fun _=>rfl) (fun _=>rfl) (by rw[C1];omega) (by decide) ?_|refine Ap.cp (fun _=>rfl) (fun _=>rfl) (by rw[C1];omega) (by decide) ?_|refine Pu.one rfl rfl (aa hx) rfl (W0 rfl) rfl ?_)
  rfl
 ·rw[if_neg hn]at hf |-
  refine fO 54 [(5,268,[32,33,34,35,36,37,38,39,40,41,42,44,0,1,2,3,4,5,6,7,8,9,10,11,1000,1001,1002,12,13]),(6,265,[45,46,47,48,49,50,51,52,53,0,1,2,3,4,5,6,7,8,9,1001,1002,1003,1004,1005,1006,1007,1008,10,11])] Tryz.func289 rfl ?_ (.inr hf)
  repeat'(first|refine gA ?_|(conv=>whnf);first|with_reducible refine Ix.nat (aa hx) ?_|refine Sm.rf ?_|refine Rw.one rfl (aa hx) rfl ?_|refine Cl.mk (c1) ?_|refine Cl.mk (c2) ?_)
  rfl
def Nh (xs:List a7) (n:Int):List C:=bD .own (ay xs n).1++[I (ay xs n).2.1,B (ay xs n).2.2]
theorem M4 (xs:List a7) (n:Int):gG (Nh xs n):=aK (jW _) ⟨trivial,trivial,trivial⟩
theorem nJ (pages:Int) (xs:List a7) (n:Int) (hp:0<=pages/\pages<=1048576) (ho:bx pages xs=true) (hn:1<=n/\n<=1000) (hl:xs.length<=4096):ao Tryz.prog 294 false [.val none [I pages],.val none (bD .imm xs),.val none [I n]] (.tup [none,none,none]) (Nh xs n):=by
 have c1:=kA pages xs hp ⟨by omega,fun _ _=>trivial⟩;rw[ho]at c1;have hb:=(Au ho).2;refine fO 98 [(8,21,[31,32,33,34,35,36,37,38,39,40,41,42,43,44,45,46,47,48,49,50,51]),(14,265,[71,72,73,74,76,77,78,79,81,0,1,2,3,5,6,7,8,10,4,1005,1006,1007,1008,1010,9,1010,11,1010,12,13])] Tryz.func294 rfl ?_ (.inr (M4 xs n))
 repeat'(first|refine gD ?_|(conv=>whnf);first|refine Sm.rf ?_|refine Cl.mk (c1) ?_|refine Ap.cp (fun _=>rfl) (fun _=>rfl) (by omega) (by decide) ?_)
 (conv=>whnf)
 refine Lp.mk (ι:=Nat) (fun i=>[(1,.hold .one (bD .imm xs)),(2,.hold .one [I (n)]),(9,.hold .one (bD .own xs)),(10,.hold .one [I (io xs n i)]),(11,.hold .one [I ((i:Nat):Int)])]) (fun i=>i<=xs.length) (fun i=>xs.length - i) (0) ?_ (Q0 _) fun i hi=>?_
 ·exact wC
 have hbd:=vW xs n i hi;by_cases li:i<xs.length
 ·have hx:=ah li
  have hy:=hb _ (am li);have hst:io xs n (i+1)=if n<=(nth xs i).Len/\(io xs n i<0\/(nth xs i).Len<(nth xs (io xs n i).toNat).Len) then((i:Nat):Int) else io xs n i:=rfl
  by_cases e1:n<=(nth xs i).Len
  ·by_cases e2:io xs n i<0
   ·rw[if_pos ⟨e1,.inl e2⟩]at hst
    repeat'(first|refine gD ?_|(conv=>whnf);first|with_reducible (first|refine Ix.nat (aa hx) ?_|refine Bf.D (fun hq=>?_) (fun hq=>?_))|refine Sm.rf ?_)
    ((conv=>whnf);refine Nx.mk (i+1) (by omega) (by omega) ?_)
    rw[hst];exact wC
   ·have hbx:=ah (xs:=xs) (i:=(io xs n i).toNat) (by omega)
    by_cases e3:(nth xs i).Len<(nth xs (io xs n i).toNat).Len
    ·rw[if_pos ⟨e1,.inr e3⟩]at hst
     repeat'(first|refine gD ?_|(conv=>whnf);first|with_reducible (first|refine Ix.nat (aa hx) ?_|refine Ix.mk (by omega) (aa hbx) ?_|refine Bf.D (fun hq=>?_) (fun hq=>?_))|refine Sm.rf ?_)
     ((conv=>whnf);refine Nx.mk (i+1) (by omega) (by omega) ?_)
     rw[hst];exact wC
    ·rw[if_neg (by omega)]at hst
     repeat'(first|refine gD ?_|(conv=>whnf);first|with_reducible (first|refine Ix.nat (aa hx) ?_|refine Ix.mk (by omega) (aa hbx) ?_|refine Bf.D (fun hq=>?_) (fun hq=>?_))|refine Sm.rf ?_)
     ((conv=>whnf);refine Nx.mk (i+1) (by omega) (by omega) ?_)
     rw[hst];exact wC
  ·rw[if_neg (by omega)]at hst
   repeat'(first|refine gD ?_|(conv=>whnf);first|with_reducible (first|refine Ix.nat (aa hx) ?_|refine Bf.D (fun hq=>?_) (fun hq=>?_))|refine Sm.rf ?_)
   ((conv=>whnf);refine Nx.mk (i+1) (by omega) (by omega) ?_)
   rw[hst];exact wC
 ·obtain rfl:i=xs.length:=by omega
  change gw xs n = -1\/_ at hbd;unfold Nh ay;rw[show io xs n xs.length=gw xs n from rfl];by_cases e:gw xs n<0
  ·rw[if_pos e]
   rw[show gw xs n = -1 from hbd.resolve_right fun g=>by have g1:0<=gw xs n:=g.1;omega]
   repeat'(first|refine gD ?_|(conv=>whnf);first|with_reducible refine Bf.D (fun hq=>?_) (fun hq=>?_)|refine Sm.rf ?_)
   rfl
  ·rw[if_neg e]
   obtain⟨b0,b1,b2⟩:=hbd.resolve_left (by omega);change 0<=gw xs n at b0;change gw xs n<xs.length at b1;obtain⟨b,hbe⟩:=Z1 (show 0<=gw xs n by omega);rw[hbe]at b1 |-;simp only[W1];have hbx:=ah (xs:=xs) (i:=b) (by omega);have hy:=hb _ (am (xs:=xs) (i:=b) (by omega));by_cases e4:(nth xs b).Len=n
   ·rw[if_pos e4]
    repeat'(first|refine gA ?_|(conv=>whnf);first|with_reducible (first|refine Ix.nat (aa hbx) ?_|refine Bf.D (fun hq=>?_) (fun hq=>?_))|refine Sm.rf ?_|refine Sl.pre b rfl (by rw[U0];omega) (aO fun _=>rfl) I3 ?_|refine Sl.suf (b+1) rfl (by rw[U0];omega) (aO fun _=>rfl) O3 ?_|refine Fl.cp (fun _=>rfl) (fun _=>rfl) (by rw[C1];omega) (by decide) ?_|refine Ap.dele (fun _=>rfl) (fun _=>rfl) (by omega) (by decide) ?_|refine Ap.cp (fun _=>rfl) (fun _=>rfl) (by rw[C1];omega) (by decide) ?_|refine Sm.rf ?_)
    rfl
   ·rw[if_neg e4]
    repeat'(first|refine gA ?_|(conv=>whnf);first|with_reducible (first|refine Ix.nat (aa hbx) ?_|refine Bf.D (fun hq=>?_) (fun hq=>?_))|refine Sm.rf ?_|refine Pu.one rfl rfl (aa hbx) rfl (W0 rfl) rfl ?_)
    exact R0 (fun z=>z++[I (nth xs b).At,B true]) (show [C.s d3.own _]=_ from by simp[bD,List.map_set];rfl)
theorem Jg (k:af) (p:Int) (f:Nat):af.enc .own (pE k p f)=((af.enc .own k).set 1 (.s .own ((k.Machine.Frames.Used.map (rB .own)).set f (rB .own true)))).set 2 (.s .own ((k.Machine.Table.Entries.map (bj.enc .own)).set p.toNat (bj.enc .own ⟨2,(f:Nat)⟩))):=by
 simp[af.enc,pE,List.map_set]
theorem BS (k:af) (p:Int) (hk:a8 k=true) (hc:k.Calls≠100000) (hp:0<=p/\p<k.Machine.Table.Entries.length) (hm:(nth k.Machine.Table.Entries p.toNat).Mode=0):aT Tryz.prog 296 false [.ptr (af.enc .own k),.val none [I p]] [.ptr (af.enc .own (fB k p).1),.val none [I p]] .one [B (fB k p).2]:=by
 have hs:=bp hk;have hul:=aU.1 (aB.1 hk).2.1;have ht:=(bt.1 (aB.1 hk).2.2.1).2.2;have htc:(dh k).Machine.Table.Entries.length<=32:=ht;have c0:=zG k.Machine.Frames (by omega);have c1:=me k hk hc;have c2:=dD (dh k) p hs.1.2;have hpe:ar (dh k).Machine.Table p=nth k.Machine.Table.Entries p.toNat:=by unfold ar;exact if_pos hp
 rw[hpe,hm]at c2;have c3:=aD p 0 ((k.Machine.Table.Entries.length:Int) - 1);rw[O0 (by omega)]at c3;have hx:=ah (xs:=k.Machine.Table.Entries) (i:=p.toNat) (by omega);change ao _ _ _ _ _ [I (qd k)]at c0;unfold fB;cases e:refd k<;>rw[e]at c1
 ·by_cases e2:qd k<0
  ·rw[if_pos (.inr e2)]
   refine fM 56 [(347,[2])] [] [(0,0),(0,0)] Tryz.func296 rfl (fun u q=>?_)
   repeat'(first|refine gA ?_|(conv=>whnf);first|with_reducible refine Bf.D (fun hq=>?_) (fun hq=>?_)|refine Cl.eq (c0) ⟨⟨rfl,aQ.enc_fz _⟩,trivial⟩ ?_|refine cv.mk (c1) (.inl rfl) ?_|refine Cl.mk (c3) ?_|refine Cl.eq (c2) ⟨af.enc_fz (dh k),⟨rfl,rfl⟩,trivial⟩ ?_)
   refine aR.mk rfl ?_ ?_
   ·rfl
   ·exact wC
  ·rw[if_neg (by simp[e2])]
   obtain⟨f1,f2⟩:=AO e2;obtain⟨f,hf⟩:=Z1 (show 0<=qd k by omega);rw[hf]at c0 f1 f2 e2 |-;simp only[W1]at f1 f2 |-;have hu:=ah (xs:=k.Machine.Frames.Used) (i:=f) f1;rw[Jg];refine fM 56 [(347,[2])] [] [(0,0),(0,0)] Tryz.func296 rfl (fun u q=>?_)
   repeat'(first|refine gA ?_|(conv=>whnf);first|with_reducible refine Bf.D (fun hq=>?_) (fun hq=>?_)|refine Cl.eq (c0) ⟨⟨rfl,aQ.enc_fz _⟩,trivial⟩ ?_|refine cv.mk (c1) (.inl rfl) ?_|refine Cl.mk (c3) ?_|refine Cl.eq (c2) ⟨af.enc_fz (dh k),⟨rfl,rfl⟩,trivial⟩ ?_|refine Ix.nat (aa hu) ?_|refine Ix.mk hp.1 (aa hx) ?_|refine Pu.one rfl rfl (aa hu) rfl (W0 rfl) rfl ?_|refine Pu.one rfl rfl (aa hx) rfl (W0 rfl) rfl ?_)
   refine aR.mk rfl ?_ ?_
   ·rfl
   ·exact wC
 ·rw[if_pos (.inl rfl)]
  refine fM 56 [(347,[2])] [] [(0,0),(0,0)] Tryz.func296 rfl (fun u q=>?_)
  repeat'(first|refine gA ?_|(conv=>whnf);first|with_reducible refine Bf.D (fun hq=>?_) (fun hq=>?_)|refine Cl.eq (c0) ⟨⟨rfl,aQ.enc_fz _⟩,trivial⟩ ?_|refine cv.mk (c1) (.inl rfl) ?_|refine Cl.mk (c3) ?_|refine Cl.eq (c2) ⟨af.enc_fz (dh k),⟨rfl,rfl⟩,trivial⟩ ?_)
  refine aR.mk rfl ?_ ?_
  ·rfl
  ·exact wC
def Ns (h:ab):List C:=(bu h).drop 5
theorem BM (h:ab) (p:Int) (hk:a8 h.Kernel=true) (hc:h.Kernel.Calls≠100000) (hp:0<=p/\p<h.Kernel.Machine.Table.Entries.length) (hm:(nth h.Kernel.Machine.Table.Entries p.toNat).Mode=0):aT Tryz.prog 296 false [.ptr (bu h),.val none [I p]] [.ptr (bu {h with Kernel:=(fB h.Kernel p).1}),.val none [I p]] .one [B (fB h.Kernel p).2]:=
 (BS h.Kernel p hk hc hp hm).frame (r:=Ns h) rfl
theorem GD (h:ab) (i:Nat):bu (slotT h i)=((bu h).set 14 (I (FN h.Seed))).set 6 (.s .own ((h.Spans.map (au.enc .own)).set i [I (nth h.Spans i).Page,I (nth h.Spans i).Class,I (gl (nth h.Spans i).Bits (oP h i))])):=by
 simp[bu,slotT,pB,List.map_set,au.enc]
theorem qm (h:ab) (E:List Int) (i:Nat) (hi:bm h E) (li:i<h.Spans.length):aT Tryz.prog 291 false [.ptr (bu h),.val none [I (i:Nat)]] [.ptr (bu (mP h i).1),.val none [I (i:Nat)]] .one [I (mP h i).2]:=by
 have hl:=hi.lens;have hls:=hl.spans;have hx:=ah li;have hso:=hi.L.sok _ (am li);have hbb:=eg hso;have hnum:=hi.nums;unfold bU at hnum;rw[C0]at hnum;have ht32:=(bt.1 (aB.1 hi.ker).2.2.1).2.2;have hub:=pX hi.L.sok (ps:=aS h (nth h.Spans i).Page) hbb (aS h (nth h.Spans i).Page).length;change 0<=gq h i/\gq h i<=65535 at hub;have c1:=lX (nth h.Spans i).Class;have c2:=wW h i ⟨by omega,fun _ _=>trivial⟩ ⟨by show h.Kernel.Machine.Table.Entries.length<=_;omega,fun _ _=>trivial⟩ hi.L.sok li;have c3:=uU (nth h.Spans i).Class (gq h i) (by omega);change ao _ _ _ _ _ (aF .own (mi h i)) at c3;have hfl:=Eg (nth h.Spans i).Class (gq h i);change (mi h i).length<=16 at hfl;unfold mP;by_cases hf:(mi h i).length=0
 ·rw[if_pos hf]
  refine fM 68 [] [(2,7,[16,17,18,19,20,21,22]),(7,12,[42,43,44,45,46,47,48,49,50,51,52,53]),(8,11,[56,57,58,59,60,61,62,63,64,65,66])] [(0,0),(0,0)] Tryz.func291 rfl (fun u q=>?_)
  repeat'(first|refine gA ?_|(conv=>whnf);first|refine Ix.nat (aa hx) ?_|refine Rw.one rfl (aa hx) rfl ?_|refine Cl.mk (c1) ?_|refine Cl.eq (c2) ⟨⟨rfl,bA h⟩,⟨rfl,rfl⟩,trivial⟩ ?_|refine Cl.mk (c3) ?_|refine Sm.rf ?_)
  refine aR.mk rfl rfl ?_;exact wC
 ·rw[if_neg hf]
  have hk:=yb (h:=h) (i:=i) (by omega);obtain⟨k1,k2,k3⟩:=vn hk;have hsl:=(ge (aG hso).2.2).2.2.1;have hcb:=vi h.Seed (n:=((mi h i).length:Nat)) (by omega);have c4:=te h.Seed ((mi h i).length:Nat) (by omega) (by omega);have c5:=xy (nth h.Spans i).Bits (oP h i) hbb (by omega);have c6:=xm (pB (nth h.Spans i) (oP h i)) (oP h i) (yY hso ⟨k1,k2⟩) ⟨k1,k2⟩;have hk':(mi h i)[(J1 h.Seed ((mi h i).length:Nat)).toNat]? = some (oP h i):=ah (by omega);have hx2:((h.Spans.map (au.enc .own)).set i [I (nth h.Spans i).Page,I (nth h.Spans i).Class,I (gl (nth h.Spans i).Bits (oP h i))])[i]? = some [I (nth h.Spans i).Page,I (nth h.Spans i).Class,I (gl (nth h.Spans i).Bits (oP h i))]:=q9 li;unfold sV;rw[GD];refine fM 68 [] [(2,7,[16,17,18,19,20,21,22]),(7,12,[42,43,44,45,46,47,48,49,50,51,52,53]),(8,11,[56,57,58,59,60,61,62,63,64,65,66])] [(0,0),(0,0)] Tryz.func291 rfl (fun u q=>?_)
  repeat'(first|refine gA ?_|(conv=>whnf);first|refine Ix.nat (aa hx) ?_|refine Ix.nat hx2 ?_|refine Rw.one rfl (aa hk') rfl ?_|refine Rw.one rfl (aa hx) rfl ?_|refine Rw.one rfl hx2 rfl ?_|refine Cl.mk (c1) ?_|refine Cl.eq (c2) ⟨⟨rfl,bA h⟩,⟨rfl,rfl⟩,trivial⟩ ?_|refine Cl.mk (c3) ?_|refine Cl.mk (c4) ?_|refine Cl.mk (c5) ?_|refine Cl.mk (c6) ?_|refine Ix.mk hcb.1 (aa hk') ?_|refine Sm.rf ?_|refine Pu.one rfl rfl (aa hx) rfl (W0 rfl) rfl ?_)
  refine aR.mk rfl ?_ ?_
  ·rfl
  ·exact wC
theorem Ap.ins {α:Type} {e:α->List C} {xs:List α} {y:α} {r:List C} {i sz by_:Nat} {K:List (List C)->Prop} (hr:r=e y) (h2:∀ y,(e y).length=sz) (h3:∀ y,aW (e y)=true) (hl:xs.length<=1048576) (hb:by_<=1000) (hK:K ((xs.take i++y::xs.drop i).map e)):Ap true ((xs.take i).map e++[r]) ((xs.drop i).map e) sz by_ K:=by
 subst hr;have h4:(xs.take i).length+1+(xs.drop i).length<=3145728:=by rw[C1,Q2];omega
 refine Ap.mk (fun r hr=>?_) (aO h2) (fun _ r hr=>by obtain⟨y,-,rfl⟩:=P3.1 hr;exact h3 y) (by simp only[P2,U0,List.length_singleton];omega) (by simp only[P2,U0,List.length_singleton];exact W3 (Nat.mul_le_mul h4 hb) (by decide)) ?_ hK
 ·rcases C2.1 hr with hr|hr
  ·exact aO h2 r hr
  ·rw[X0.1 hr];exact h2 y
 ·rw[List.map_append,List.map_cons,List.append_assoc];rfl
theorem tQ {α:Type} {p:α->Bool} {xs:List α} {y:α} {i:Nat} (h:jt p xs=i):iK p xs y=xs.take i++y::xs.drop i:=by unfold iK;rw[h]
def Fj (h:ab) (c:Int):ab × Int:=
 if(ay h.Free 1).2.2=false then(h,-1)
 else if(fB h.Kernel (ay h.Free 1).2.1).2=false then({h with Kernel:=(fB h.Kernel (ay h.Free 1).2.1).1},-1)
 else(wH h c,(tB h:Nat))
theorem yZ (h:ab) (E:List Int) (c:Nat) (hi:bm h E) (hcl:h.Kernel.Calls<=90000):aT Tryz.prog 292 false [.ptr (bu h),.val none [I (c:Nat)]] [.ptr (bu (Fj h c).1),.val none [I (c:Nat)]] .one [I (Fj h c).2]:=by
 have hl:=hi.lens;have hls:=hl.spans;have hpg:dG h<=32:=hl.ents;have c1:=gm h;have c2:=nJ (dG h:Nat) h.Free 1 ⟨by omega,by omega⟩ hi.rng (by decide) (by have:=hl.free;omega);unfold Nh at c2;have hun:=ko hi (Y3 1);unfold Fj wH tB;generalize ay h.Free 1=r at c2 hun |-;obtain⟨fr,p,ok⟩:=r;simp only at c2 hun |-;cases ok with
 | false=>
  rw[if_pos rfl];refine fM 79 [(296,[2,0]),(2000010,[0,6])] [(1,267,[11,12,13,14,15,16,17,10,18,19,20,0,1,2,3,4,5,6,7,8,9,10,11,1009,1010,12,1010,13])] [(0,0),(0,0)] Tryz.func292 rfl (fun u q=>?_)
  repeat'(first|refine gO ?_|(conv=>whnf);first|refine Sm.rf ?_|refine Cl.eq (c1) ⟨bA h,trivial⟩ ?_|refine Cl.eq (c2) ⟨⟨rfl,rfl⟩,⟨rfl,dE h.Free⟩,⟨rfl,rfl⟩,trivial⟩ ?_|refine Sm.rf ?_)
  refine aR.mk rfl rfl ?_;exact wC
 | true=>
  rw[if_neg (by simp)];obtain⟨u1,u2,u3,u4⟩:=hun rfl;have hpl:0<=p/\p<h.Kernel.Machine.Table.Entries.length:=⟨u1,by have:p+1<=((tbl h).Entries.length:Nat):=u2;unfold tbl at this;omega⟩
  have c3:=BM h p hi.ker (by omega) hpl (u3 p.toNat (by omega) (by omega));generalize fB h.Kernel p=w at c3 |-;obtain⟨k,b⟩:=w;simp only at c3 |-;cases b with
  | false=>
   rw[if_pos rfl];refine fM 79 [(296,[2,0]),(2000010,[0,6])] [(1,267,[11,12,13,14,15,16,17,10,18,19,20,0,1,2,3,4,5,6,7,8,9,10,11,1009,1010,12,1010,13])] [(0,0),(0,0)] Tryz.func292 rfl (fun u q=>?_)
   repeat'(first|refine gO ?_|(conv=>whnf);first|refine Sm.rf ?_|refine Cl.eq (c1) ⟨bA h,trivial⟩ ?_|refine Cl.eq (c2) ⟨⟨rfl,rfl⟩,⟨rfl,dE h.Free⟩,⟨rfl,rfl⟩,trivial⟩ ?_|refine cv.mk (c3) (.inl rfl) ?_|refine Sm.rf ?_)
   refine aR.mk rfl rfl ?_;exact wC
  | true=>
   rw[if_neg (by simp)];refine fM 79 [(296,[2,0]),(2000010,[0,6])] [(1,267,[11,12,13,14,15,16,17,10,18,19,20,0,1,2,3,4,5,6,7,8,9,10,11,1009,1010,12,1010,13])] [(0,0),(0,0)] Tryz.func292 rfl (fun u q=>?_)
   repeat'(first|refine gO ?_|(conv=>whnf);first|refine Sm.rf ?_|refine Cl.eq (c1) ⟨bA h,trivial⟩ ?_|refine Cl.eq (c2) ⟨⟨rfl,rfl⟩,⟨rfl,dE h.Free⟩,⟨rfl,rfl⟩,trivial⟩ ?_|refine cv.mk (c3) (.inl rfl) ?_|refine Sm.rf ?_)
   (conv=>whnf)
   refine Lp.mk (ι:=Nat) (fun i=>[(0,.hold .box (bu {h with Kernel:=k,Free:=fr})),(1,.hold .one [I ((c:Nat):Int)]),(6,.hold .one [I (p)]),(8,.hold .one [I ((i:Nat):Int)])]) (fun i=>i<=h.Spans.length/\∀ (j:Nat) (z:au),j<i->h.Spans[j]? = some z->Hk p z=false) (fun i=>h.Spans.length - i) (0) ?_ (⟨Q0 _,fun j z hj=>by omega⟩) fun i hi=>?_
   ·exact wC
   obtain⟨hi',ha⟩:=hi;have hl2:({h with Kernel:=k,Free:=fr} : ab).Spans.length=h.Spans.length:=rfl;by_cases go:i<h.Spans.length/\(nth h.Spans i).Page<p
   ·have hx:=ah go.1
    repeat'(first|refine gD ?_|(conv=>whnf);first|with_reducible refine Ix.nat (aa hx) ?_|refine Sm.rf ?_|refine Rw.one rfl (aa hx) rfl ?_)
    ((conv=>whnf);refine Nx.mk (i+1) ⟨by omega,dl hx (P0 (by omega)) ha⟩ (by omega) ?_;(exact wC))
   ·have hpos:jt (Hk p) h.Spans=i:=tR (by omega) ha fun z hz=>by
     have hlt:=(R1.1 hz).1;have:z=nth h.Spans i:=(bq hz).symm;subst this;exact O0 (by omega)
    have hx:i<h.Spans.length->h.Spans[i]? = some (nth h.Spans i):=fun hh=>ah hh
    rw[show addS h k fr p (c:Nat) = {h with Kernel:=k,Free:=fr,Spans:=h.Spans.take i++⟨p,(c:Nat),0⟩::h.Spans.drop i} by unfold addS;rw[tQ hpos],hpos]
    repeat'(first|refine gD ?_|(conv=>whnf);first|with_reducible (first|refine Ix.nat (aa (hx (by omega))) ?_|refine Bf.D (fun hq=>?_) (fun hq=>?_))|refine Sm.rf ?_|refine Rw.one rfl (aa (hx (by omega))) rfl ?_|refine DL.mk rfl (Ds h.Spans) rfl ?_|refine Sl.pre i rfl (by rw[U0];omega) (aO fun _=>rfl) I3 ?_|refine Sl.suf i rfl (by rw[U0];omega) (aO fun _=>rfl) O3 ?_|refine Ap.cp (fun _=>rfl) (fun _=>rfl) (by rw[C1];omega) (by decide) ?_|refine Ap.sn (aO fun _=>rfl) rfl (by rw[U0,C1];omega) (by decide) rfl ?_|refine Ap.ins (e:=au.enc .imm) (y:=⟨p,(c:Nat),0⟩) rfl (fun _=>rfl) (fun _=>rfl) (by omega) (by decide) ?_)
    all_goals
     refine aR.mk rfl rfl ?_;exact wC
end Go.Proofs.YtembpgjjnioagaaGreat.Ab
