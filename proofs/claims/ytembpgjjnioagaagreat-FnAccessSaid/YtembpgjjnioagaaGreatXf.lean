/- Pages given back: what holds of a heap is kept. No condition. -/
import Derived.Test.YtembpgjjnioagaaGreatXd
import Derived.Test.YtembpgjjnioagaaGreatXe
import Derived.Deep.LoopGhost
import Derived.Deep.RegionLaw
import Derived.Lib.Walk
import Derived.Sort.WalkB12
import Derived.Lib.SliceRun
import Derived.Shelf.RegionOpenPlain
set_option linter.unusedVariables false
set_option linter.unusedSimpArgs false
set_option linter.constructorNameAsVariable false
namespace Go.Proofs.YtembpgjjnioagaaGreat.Ab
def dC(k:af)(p:Int):Nat->af
 | 0=>k
 | n+1=>d4 (dC k p n) (p+n)
theorem kb{k:af}(h:aA k=true)(p:Int):∀n,aA (dC k p n)=true
 | 0=>h
 | n+1=>vO _ (kb h p n)
theorem gW(k:af)(p:Int):∀n,(dC k p n).Machine.Table.Entries.length=k.Machine.Table.Entries.length/\(dC k p n).Calls=k.Calls/\(dC k p n).Refuse=k.Refuse
 | 0=>⟨rfl,rfl,rfl⟩
 | n+1=>by
  obtain⟨a,b,c⟩:=gW k p n;obtain⟨d,e,f⟩:=oW (dC k p n) (p+n);exact⟨d.trans a,e.trans b,f.trans c⟩
theorem uN{k:af}(h:aA k=true){p:Int}(d:0<=p/\p<k.Machine.Table.Entries.length)(q:Nat):nth (d4 k p).Machine.Table.Entries q=if(q:Int)=p then⟨0,0⟩ else nth k.Machine.Table.Entries q:=by
 have g:ao k.Machine.Table p=nth k.Machine.Table.Entries p.toNat:=by unfold ao;rw[C8 d]
 unfold d4;split
 ·rename_i a
  split
  ·rename_i i
   rw[g]at a;have b:=(bn.1 (aB.1 h).2.2.1).1 p.toNat ω;unfold je at b;rw[C0]at b;have c:=b.2.2.1 a;rw[show q=p.toNat by omega];generalize nth k.Machine.Table.Entries p.toNat=e at a c;obtain⟨m,f⟩:=e;simp only at a c;rw[a,c]
  ·rfl
 ·rw[(nO _ _).1]
  simp only[ox,bS];by_cases e:(q:Int)=p
  ·rw[C8 ⟨ω,ω⟩,C8 e]
  ·rw[C7 λx=>e ω,C7 e]
theorem kV{k:af}(h:aA k=true){p:Int}(b:0<=p):∀n:Nat,p+n<=k.Machine.Table.Entries.length->∀q:Nat,nth (dC k p n).Machine.Table.Entries q=if p<=q/\(q:Int)<p+n then⟨0,0⟩ else nth k.Machine.Table.Entries q
 | 0,_,q=>by rw[C7 ω];rfl
 | n+1,f,q=>by
  have c:=kV h b n ω q;have d:=uN (kb h p n) (p:=p+n) ⟨ω,by rw[(gW k p n).1];omega⟩ q;show nth (d4 (dC k p n) (p+n)).Machine.Table.Entries q=_;rw[d,c];by_cases e:(q:Int)=p+n
  ·rw[C8 e,C8 ⟨ω,ω⟩]
  ·rw[C7 e]
   by_cases a:p<=q/\(q:Int)<p+n
   ·rw[C8 a,C8 ⟨ω,ω⟩]
   ·rw[C7 a,C7 ω]
theorem BX{α β:Type}(f:α->List β){xs c:List α}(h:xs.Sublist c):(xs.flatMap f).Sublist (c.flatMap f):=by
 induction h with
 | slnil=>exact List.Sublist.refl _
 | cons a _ b=>rw[z5];exact b.trans (List.sublist_append_right ..)
 | cons_cons a _ b=>rw[z5,z5];exact List.Sublist.append (List.Sublist.refl _) b
theorem vz{h:ab}{E:List Int}(c:bk h E){sp:List au}{la:List a8}{p:Int}{n:Nat}(Y:1<=n)(w:sp.Sublist h.Spans)(D:la.Sublist h.Larges)(j:∀q:Int,p<=q->q<p+n->q∈pgs h.Spans h.Larges)(K:0<=p)(F:∀q,q∈pgs sp la↔q∈pgs h.Spans h.Larges/\¬(p<=q/\q<p+n)) :
  ∃o,dl (dQ h) h.Free ⟨p,n⟩ = some o/\aA (dC h.Kernel p n)=true/\bv ((dC h.Kernel p n).Machine.Table.Entries.length:Nat) o=true/\bj sp la=true/\Pg (dC h.Kernel p n).Machine.Table o sp la:=by
 have t:=c.pg.bnd _ (j (p+n - 1) ω ω);have a:=(gW h.Kernel p n).1;have y:p+n<=h.Kernel.Machine.Table.Entries.length:=by unfold tbl at t;omega
 have g:=kV c.ker K n y;obtain⟨o,Q,R,S⟩:=sR (r:=⟨p,n⟩) c.rng ⟨K,by simp only;omega,y⟩ λq M N=>by
  simp only at M N;obtain⟨m,rfl⟩:=I2 (show 0<=q by omega);have A:m<(tbl h).Entries.length:=by unfold tbl;omega
  exact(c.pg.fre m A).1 ((c.pg.own m A).2 (j _ M N))
 refine⟨o,Q,kb c.ker p n,by rw[a];exact R,?_,?_⟩
 ·obtain⟨T,U,V⟩:=dc c.lay
  unfold bj;simp only[I0,C0];exact⟨⟨O3.2 λs d=>O3.1 T s (w.subset d),O3.2 λl d=>O3.1 U l (D.subset d)⟩,V.sublist ((w.map _).append (BX _ D))⟩
 ·have i:∀q:Nat,(q:Int)∈pgs sp la->nth (dC h.Kernel p n).Machine.Table.Entries q=nth (tbl h).Entries q:=λq f=>by rw[g,C7 ((F q).1 f).2];rfl
  have b:∀q:Nat,(nth (dC h.Kernel p n).Machine.Table.Entries q).Mode≠0↔(nth (tbl h).Entries q).Mode≠0/\¬(p<=q/\(q:Int)<p+n):=λq=>by
   rw[g];by_cases e:p<=q/\(q:Int)<p+n
   ·rw[C8 e];exact⟨λx=>absurd rfl x,λx=>absurd e x.2⟩
   ·rw[C7 e];exact⟨λx=>⟨x,e⟩,λx=>x.1⟩
  refine⟨λl d q f r O G B=>?_,λq f=>?_,λq f=>?_,λq f=>?_,λs d u H J P=>?_⟩
  ·have C:=(b r).1 G
   rw[a]at O;rw[i q (fe d f),g,C7 C.2]at B;exact c.pg.one l (D.subset d) q f r O C.1 B
  ·rw[a];exact c.pg.bnd q ((F q).1 f).1
  ·rw[a]at f
   rw[b,F,c.pg.own q f]
  ·rw[a]at f
   rw[b,S,c.pg.fre q f];simp only
   grind
  ·have k:∀s∈sp,0<=s.Page:=λs d=>(aF (c.L.sok s (w.subset d))).1
   have W:=i s.Page.toNat (by rw[Int.toNat_of_nonneg (k s d)];exact dr d);have X:=i u.Page.toNat (by rw[Int.toNat_of_nonneg (k u H)];exact dr H);rw[W,X]at P;exact c.pg.mesh s (w.subset d) u (w.subset H) J P
theorem dX{α:Type}[Inhabited α]{xs:List α}{k:Nat}{z:α} : z∈dele xs k↔∃j,j<xs.length/\j≠k/\nth xs j=z:=by
 unfold dele;rw[O2];constructor
 ·rintro(h|h)
  ·obtain⟨j,a,rfl⟩:=List.mem_take_iff_getElem.1 h
   exact⟨j,ω,ω,br (U1 ω)⟩
  ·obtain⟨j,a,rfl⟩:=List.mem_drop_iff_getElem.1 h
   exact⟨k+1+j,ω,ω,br (U1 ω)⟩
 ·rintro⟨j,a,b,rfl⟩
  rw[br (U1 a)];by_cases e:j<k
  ·exact .inl (List.mem_take_iff_getElem.2 ⟨j,ω,rfl⟩)
  ·refine .inr (List.mem_drop_iff_getElem.2 ⟨j - (k+1),ω,?_⟩)
   congr 1;omega
theorem oo{sp:List au}{la:List a8}{q:Int} : q∈pgs sp la↔(∃s∈sp,s.Page=q)\/∃l∈la,q∈lpgs l l.Pages.toNat:=by
 unfold pgs;simp only[O2,U3,List.mem_flatMap]
theorem yE{s:au}(h:s.Bits=0)(a:Int):¬eM s a:=by
 rintro⟨-,-,-,b⟩
 rw[fS,h]at b;simp at b
theorem bk.giveSpan{h:ab}{E:List Int}{i:Nat}(g:bk h E)(B:i<h.Spans.length)(y:(nth h.Spans i).Bits=0)(W:h.Meshing=true->(nth h.Spans i).Page≠h.Job.Plan.Keep/\(nth h.Spans i).Page≠h.Job.Plan.Move) :
  ∃o,dl (dQ h) h.Free ⟨(nth h.Spans i).Page,1⟩ = some o/\bk {h with Kernel:=d4 h.Kernel (nth h.Spans i).Page,Spans:=dele h.Spans i,Free:=o} E:=by
 have F:=g.L;have G:=aF (F.sok _ (am B));have A:∀q,q∈pgs (dele h.Spans i) h.Larges↔q∈pgs h.Spans h.Larges/\¬((nth h.Spans i).Page<=q/\q<(nth h.Spans i).Page+(1:Nat)):=λq=>by
  rw[oo,oo];constructor
  ·rintro(⟨s,r,rfl⟩|⟨l,C,D⟩)
   ·obtain⟨j,d,H,rfl⟩:=dX.1 r
    refine⟨.inl ⟨_,am d,rfl⟩,λe=>H (gy (f:=(·.Page)) F.nd d B ω)⟩
   ·refine⟨.inr ⟨l,C,D⟩,λe=>?_⟩
    obtain⟨k,J,rfl⟩:=dd.1 D;exact F.dis _ (am B) l C k J ω
  ·rintro⟨⟨s,r,rfl⟩|⟨l,C,D⟩,K⟩
   ·obtain⟨j,d,rfl⟩:=bf r
    refine .inl ⟨_,dX.2 ⟨j,d,λe=>K (by subst e;omega),rfl⟩,rfl⟩
   ·exact .inr ⟨l,C,D⟩
 obtain⟨o,X,Q,R,Y,S⟩:=vz g (sp:=dele h.Spans i) (la:=h.Larges) (p:=(nth h.Spans i).Page) (n:=1) (Q2 _) (eY ..) (List.Sublist.refl _) (λq q1 q2=>by rw[show q=(nth h.Spans i).Page by omega];exact dr (am B)) G.1 A;have M:dC h.Kernel (nth h.Spans i).Page 1=d4 h.Kernel (nth h.Spans i).Page:=by show d4 h.Kernel ((nth h.Spans i).Page+((0:Nat):Int))=_;rw[show(nth h.Spans i).Page+((0:Nat):Int)=(nth h.Spans i).Page by omega]
 rw[M]at Q R S;have t:∀b c,iV (dele h.Spans i) b c↔iV h.Spans b c:=λb c=>by
  constructor
  ·rintro⟨s,r,w⟩;exact⟨s,(eY ..).subset r,w⟩
  ·rintro⟨s,r,w,N⟩
   obtain⟨j,d,rfl⟩:=bf r;exact⟨_,dX.2 ⟨j,d,λe=>yE y b (by rw[<-e];exact w),rfl⟩,w,N⟩
 refine⟨o,X,{g with
   ker:=Q
   rng:=R
   lay:=Y
   srs:=g.srs.sublist (eY ..)
   pg:=S
   oow:=λZ ho=>?_
   hca:=λc G k J b y=>(t b k).2 (g.hca c G k J b y)
   hqu:=λx hx=>(t _ _).2 (g.hqu x hx)
   hfl:=λb y=>(t _ _).2 (g.hfl b y)
   hin:=λb y=>(t _ _).2 (g.hin b y)
   mem:=λb=>(g.mem b).trans ?_
   job:=λT=>?_}⟩
 ·rcases g.oow Z ho with⟨s,r,w,N⟩|w
  ·obtain⟨j,d,rfl⟩:=bf r
   exact .inl ⟨_,dX.2 ⟨j,d,λe=>yE y _ (by rw[<-e];exact w),rfl⟩,w,N⟩
  ·exact .inr w
 ·unfold kZ;rw[t]
 ·obtain⟨j1,⟨s,r,U⟩,⟨u,M,V⟩⟩:=g.job T
  obtain⟨n1,n2⟩:=W T;obtain⟨a,O,rfl⟩:=bf r;obtain⟨b,P,rfl⟩:=bf M;exact⟨j1,⟨_,dX.2 ⟨a,O,λe=>n1 (by rw[<-e];exact U),rfl⟩,U⟩,⟨_,dX.2 ⟨b,P,λe=>n2 (by rw[<-e];exact V),rfl⟩,V⟩⟩
theorem bk.dropL{h:ab}{E:List Int}{i k:Nat}(d:bk h E)(S:i<h.Objs.length)(y:k<h.Larges.length)(G:(nth h.Objs i).Addr=16*(nth h.Larges k).Page) :
  ∃o,dl (dQ h) h.Free ⟨(nth h.Larges k).Page,(nth h.Larges k).Pages⟩ = some o/\bk {h with Kernel:=dC h.Kernel (nth h.Larges k).Page (nth h.Larges k).Pages.toNat,Larges:=dele h.Larges k,Free:=o,Objs:=dele h.Objs i} E:=by
 have A:=d.L;have T:=aU (A.lok _ (am y));have C:∀q,q∈pgs h.Spans (dele h.Larges k)↔q∈pgs h.Spans h.Larges/\¬((nth h.Larges k).Page<=q/\q<(nth h.Larges k).Page+((nth h.Larges k).Pages.toNat:Nat)):=λq=>by
  rw[oo,oo];constructor
  ·rintro(⟨s,B,rfl⟩|⟨l,f,D⟩)
   ·refine⟨.inl ⟨s,B,rfl⟩,λe=>A.dis s B _ (am y) (s.Page - (nth h.Larges k).Page).toNat ω ω⟩
   ·obtain⟨j,c,t,rfl⟩:=dX.1 f
    refine⟨.inr ⟨_,am c,D⟩,λe=>?_⟩;obtain⟨m,N,rfl⟩:=dd.1 D;exact t (A.one j k c y m ((nth h.Larges j).Page+(m:Int) - (nth h.Larges k).Page).toNat N ω ω)
  ·rintro⟨⟨s,B,rfl⟩|⟨l,f,D⟩,g⟩
   ·exact .inl ⟨s,B,rfl⟩
   ·obtain⟨j,c,rfl⟩:=bf f
    refine .inr ⟨_,dX.2 ⟨j,c,λe=>g ?_,rfl⟩,D⟩;subst e;obtain⟨m,N,rfl⟩:=dd.1 D;omega
 obtain⟨o,O,U,V,W,X⟩:=vz d (sp:=h.Spans) (la:=dele h.Larges k) (p:=(nth h.Larges k).Page) (n:=(nth h.Larges k).Pages.toNat) ω (List.Sublist.refl _) (eY ..) (λq q1 q2=>fe (am y) (dd.2 ⟨(q - (nth h.Larges k).Page).toNat,ω,ω⟩)) T.2.2.1 C;rw[Int.toNat_of_nonneg ω]at O;have P:(E++holders h).Perm ((nth h.Objs i).Addr::(E++holders {h with Objs:=dele h.Objs i})):=by
  have Y:=(y2 S).map (·.Addr);refine List.perm_iff_count.2 λa=>?_
  have r:=Y.count_eq a;simp only[V4,List.count_cons]at r;simp only[holders,ch,W4,List.count_cons];omega
 have u:=P.nodup_iff.1 d.nd;obtain⟨K,u⟩:=List.nodup_cons.1 u;have w:∀b,(b=(nth h.Objs i).Addr\/b∈E++holders {h with Objs:=dele h.Objs i})↔kZ h.Spans h.Larges b:=λb=>by rw[<-d.mem b,P.mem_iff,List.mem_cons]
 have g:∀b,b∈E++holders {h with Objs:=dele h.Objs i}->b≠(nth h.Objs i).Addr:=λb H e=>K (by rw[<-e];exact H)
 refine⟨o,O,{d with
   ker:=U
   rng:=V
   lay:=W
   srl:=d.srl.sublist (eY ..)
   pg:=X
   osr:=d.osr.sublist (eY ..)
   onu:=λF J=>d.onu F ((eY ..).subset J)
   oid:=d.oid.sublist ((eY ..).map _)
   oow:=λF J=>?_
   nd:=u
   mem:=λb=>?_}⟩
 ·rcases d.oow F ((eY ..).subset J) with r|⟨l,f,Q,Z⟩
  ·exact .inl r
  ·obtain⟨j,c,rfl⟩:=bf f
   refine .inr ⟨_,dX.2 ⟨j,c,λe=>?_,rfl⟩,Q,Z⟩;subst e;refine g F.Addr (O2.2 (.inr ?_)) (by rw[G];exact Q);unfold holders;simp only[O2];exact .inl (.inl (.inl (U3.2 ⟨F,J,rfl⟩)))
 ·constructor
  ·intro H
   rcases(w b).1 (.inr H) with r|⟨l,f,rfl⟩
   ·exact .inl r
   ·obtain⟨j,c,rfl⟩:=bf f
    exact .inr ⟨_,dX.2 ⟨j,c,λe=>g _ H (by rw[G,e]),rfl⟩,rfl⟩
  ·rintro(r|⟨l,f,rfl⟩)
   ·refine((w b).2 (.inl r)).resolve_left λe=>?_
    obtain⟨s,B,⟨M,R,-⟩,-⟩:=r;exact(tS A (am y)).1 s B (by rw[e,G]at M R;exact⟨M,R⟩)
   ·obtain⟨j,c,t,rfl⟩:=dX.1 f
    refine((w _).2 (.inr ⟨_,am c,rfl⟩)).resolve_left λe=>t ?_
    have M:=aU (A.lok _ (am c));rw[G]at e;exact A.one j k c y 0 0 ω ω ω
def gk(h:ab)(p:Int):Bool:=h.Meshing&&(decide (p=h.Job.Plan.Keep) || decide (p=h.Job.Plan.Move))
def giveP(h:ab)(i:Nat):ab:={h with Kernel:=d4 h.Kernel (nth h.Spans i).Page,Spans:=dele h.Spans i,Free:=(dl (dQ h) h.Free ⟨(nth h.Spans i).Page,1⟩).getD h.Free}
def clrS(h:ab)(i:Nat)(a:Int):ab:={h with Spans:=h.Spans.set i (mn (nth h.Spans i) (dM (nth h.Spans i) a))}
def freeS(h:ab)(i:Nat)(a:Int):ab:=if(mn (nth h.Spans i) (dM (nth h.Spans i) a)).Bits=0/\gk h (nth h.Spans i).Page=false then giveP (clrS h i a) i else clrS h i a
def th(h:ab)(a:Int):Nat:=(fQ h (a / 16)).toNat
def freeA(h:ab)(a:Int):ab:=freeS h (th h a) a
def cput(c:aC)(k a:Int):Option aC:=if bt c=true/\0<=k/\k<=3/\bt (lD c k.toNat a)=true then some (lD c k.toNat a) else none
def recyc(t:Nat)(h:ab)(a:Int):ab:=match cput (nth h.Caches t) (nth h.Spans (th h a)).Class a with
 | some c=>{h with Caches:=h.Caches.set t c}
 | none=>freeA h a
theorem bk.at{h:ab}{E:List Int}{a:Int}(e:bk h E)(f:iV h.Spans a (-1)):th h a<h.Spans.length/\eM (nth h.Spans (th h a)) a/\fQ h (a / 16)=(th h a:Nat):=by
 obtain⟨s,g,c,-⟩:=f;obtain⟨i,d,rfl⟩:=bf g;have j:(nth h.Spans i).Page=a / 16:=by have l:=c.1;have n:=c.2.1;omega
 have b:=qR e.L d;rw[j]at b;have k:th h a=i:=by unfold th;rw[b];rfl
 rw[k];exact⟨d,c,b⟩
theorem HI{h:ab}{p:Int}(e:gk h p=false)(a:h.Meshing=true):p≠h.Job.Plan.Keep/\p≠h.Job.Plan.Move:=by
 unfold gk at e;rw[a]at e;simpa using e
theorem bk.freeS{h:ab}{E:List Int}{a:Int}{i:Nat}(f:bk h (a::E))(b:i<h.Spans.length)(g:eM (nth h.Spans i) a):bk (freeS h i a) E:=by
 have c:=f.give b g;unfold Ab.freeS;split
 ·rename_i e
  have d:nth (clrS h i a).Spans i=mn (nth h.Spans i) (dM (nth h.Spans i) a):=by unfold clrS;simp only[bS,true_and];rw[C8 b]
  obtain⟨o,j,k⟩:=bk.giveSpan (h:=clrS h i a) c (i:=i) (by unfold clrS;simp only[C1];exact b) (by rw[d];exact e.1) (λl=>by rw[d];exact HI e.2 l);unfold giveP;rw[j];exact k
 ·exact c
theorem bk.freeA{h:ab}{E:List Int}{a:Int}(b:bk h (a::E)):bk (freeA h a) E:=by
 obtain⟨c,d,-⟩:=b.at (b.hin a (O1 ..));exact b.freeS c d
theorem sU{c:aC}(h:bt c=true):c.Lists.length=4:=by
 unfold bt at h;simp only[I0,C0]at h;exact h.1
theorem bk.recyc{h:ab}{E:List Int}{a:Int}{t:Nat}(b:bk h (a::E))(f:t<h.Caches.length):bk (recyc t h a) E:=by
 obtain⟨g,i,-⟩:=b.at (b.hin a (O1 ..));unfold Ab.recyc;split
 ·rename_i c d
  unfold cput at d;split at d
  ·rename_i e
   cases d;obtain⟨j,l,n,k⟩:=e;exact b.put f (by rw[sU j];omega) ⟨_,am g,i,.inr ω⟩ k
  ·cases d
 ·exact b.freeA
theorem vX(h:ab)(i:Nat)(a:Int):(freeS h i a).Caches=h.Caches/\(freeS h i a).Objs=h.Objs/\(freeS h i a).Kernel.Calls=h.Kernel.Calls/\(freeS h i a).Mail=h.Mail/\(freeS h i a).Job=h.Job/\(freeS h i a).Clock=h.Clock/\(freeS h i a).Quar=h.Quar/\(freeS h i a).Kernel.Refuse=h.Kernel.Refuse:=by
 unfold freeS;split
 ·obtain⟨-,b,c⟩:=oW (clrS h i a).Kernel (nth (clrS h i a).Spans i).Page
  exact⟨rfl,rfl,b,rfl,rfl,rfl,rfl,c⟩
 ·exact⟨rfl,rfl,rfl,rfl,rfl,rfl,rfl,rfl⟩
theorem pf(t:Nat)(h:ab)(a:Int):(recyc t h a).Caches.length=h.Caches.length/\(recyc t h a).Objs=h.Objs/\(recyc t h a).Kernel.Calls=h.Kernel.Calls/\(recyc t h a).Mail=h.Mail/\(recyc t h a).Job=h.Job/\(recyc t h a).Clock=h.Clock/\(recyc t h a).Quar=h.Quar/\(recyc t h a).Kernel.Refuse=h.Kernel.Refuse:=by
 unfold recyc;split
 ·exact⟨C1 ..,rfl,rfl,rfl,rfl,rfl,rfl,rfl⟩
 ·obtain⟨b,c⟩:=vX h (th h a) a
  exact⟨T0 _ b,c⟩
def recycs(t:Nat)(h:ab)(az:List Int):ab:=az.foldl (recyc t) h
theorem iH(t:Nat):∀(az:List Int)(h:ab),(recycs t h az).Caches.length=h.Caches.length/\(recycs t h az).Objs=h.Objs/\(recycs t h az).Kernel.Calls=h.Kernel.Calls/\(recycs t h az).Mail=h.Mail/\(recycs t h az).Job=h.Job/\(recycs t h az).Clock=h.Clock/\(recycs t h az).Quar=h.Quar/\(recycs t h az).Kernel.Refuse=h.Kernel.Refuse
 | [],h=>⟨rfl,rfl,rfl,rfl,rfl,rfl,rfl,rfl⟩
 | a::az,h=>by
  obtain⟨b,c,d,e,f,g,i,j⟩:=iH t az (recyc t h a);obtain⟨k,l,n,o,p,q,r,u⟩:=pf t h a;exact⟨b.trans k,c.trans l,d.trans n,e.trans o,f.trans p,g.trans q,i.trans r,j.trans u⟩
theorem bk.recycs{t:Nat}{E:List Int} : ∀{az:List Int}{h:ab},bk h (az++E)->t<h.Caches.length->bk (recycs t h az) E
 | [],h,b,_=>b
 | a::az,h,b,c=>bk.recycs (az:=az) (h:=Ab.recyc t h a) (b.recyc c) (by rw[(pf t h a).1];exact c)
def qc(l:List aL):Int:=quarCells l l.length
def m6(room:Int):List aL->Nat
 | []=>0
 | x::xs=>if room<qc (x::xs) then m6 room xs+1 else 0
def GA(q:bB)(x:aL):bB:=⟨q.Room,(q.Lst++[x]).drop (m6 q.Room (q.Lst++[x]))⟩
def zV(q:bB)(x:aL):List aL:=(q.Lst++[x]).take (m6 q.Room (q.Lst++[x]))
theorem Dz(room:Int):∀l,m6 room l<=l.length
 | []=>Q2 _
 | x::xs=>by unfold m6;split;(have:=Dz room xs;simp only[List.length_cons];omega);omega
theorem zr{room:Int}(a:0<=room):∀l:List aL,qc (l.drop (m6 room l))<=room
 | []=>a
 | x::xs=>by
  unfold m6;split
  ·exact zr a xs
  ·rename_i h;show qc (x::xs)<=room;omega
theorem xO{room:Int} : ∀{l:List aL}{k:Nat},k<m6 room l->room<qc (l.drop k)
 | [],k,h=>by cases h
 | x::xs,0,h=>by
  unfold m6 at h;split at h
  ·assumption
  ·omega
 | x::xs,k+1,h=>by
  unfold m6 at h;split at h
  ·exact xO (l:=xs) ω
  ·omega
theorem iU{q:bB} : fx q=true↔(∀x∈q.Lst,0<=x.Class/\x.Class<=3/\0<=x.Addr/\0<=x.Since)/\(q.Lst.Pairwise λa b=>a.Since<=b.Since)/\(q.Lst.map (·.Addr)).Nodup/\0<=q.Room/\q.Room<=500/\qc q.Lst<=q.Room:=by
 refine Iff.trans ?_ (and_congr Iff.rfl (and_congr (tK (λa b:Int=>a<=b) (λa b c=>Int.le_trans) (λs:aL=>s.Since) q.Lst) (and_congr (y3 (λs:aL=>s.Addr) q.Lst) Iff.rfl)));unfold fx qc;simp only[I0,C0,cr,jr,Bool.not_eq_true',List.any_eq_false,dD];constructor
 ·rintro⟨e,f⟩
  refine⟨λx l=>?_,λi d=>(e i d).1.2.2.2.2,λi d=>(e i d).2,f⟩;obtain⟨i,d,rfl⟩:=bf l;obtain⟨⟨g,h,j,k,-⟩,-⟩:=e i d;exact⟨g,h,j,k⟩
 ·rintro⟨e,f,n,o⟩
  refine⟨λi d=>?_,o⟩;obtain⟨g,h,j,k⟩:=e _ (am d);exact⟨⟨g,h,j,k,f i d⟩,n i d⟩
theorem LC{q:bB}{x:aL}(h:fx q=true)(i:0<=x.Class/\x.Class<=3/\0<=x.Addr/\0<=x.Since)(j:∀y∈q.Lst,y.Since<=x.Since)(k:∀y∈q.Lst,y.Addr≠x.Addr):fx (GA q x)=true:=by
 obtain⟨l,n,o,g,p,r⟩:=iU.1 h;have c:(GA q x).Lst.Sublist (q.Lst++[x]):=List.drop_sublist ..;refine iU.2 ⟨λy d=>?_,List.Pairwise.sublist c ?_,List.Nodup.sublist (c.map _) ?_,g,p,zr g _⟩
 ·rcases O2.1 (c.subset d) with d|d
  ·exact l y d
  ·rw[Z0.1 d];exact i
 ·exact List.pairwise_append.2 ⟨n,List.pairwise_singleton ..,λa f b e=>by rw[Z0.1 e];exact j a f⟩
 ·rw[T4]
  refine List.nodup_append.2 ⟨o,by simp,λa f b e=>?_⟩;obtain⟨y,d,rfl⟩:=U3.1 f;simp only[V4,List.map_nil,Z0]at e;rw[e];exact k y d
def kU(r:List Int)(o:Nat):Nat->List Int
 | 0=>r
 | n+1=>(kU r o n).set (o+n) 0
def dh(k:af)(a:Int):Nat:=(ao k.Machine.Table (a / 16)).Frame.toNat
def fN(k:af)(a:Int)(n:Nat):af:={k with Machine:=⟨⟨k.Machine.Frames.Cells.set (dh k a) (kU (nth k.Machine.Frames.Cells (dh k a)) (a % 16).toNat n),k.Machine.Frames.Used⟩,k.Machine.Table⟩}
theorem ot(r:List Int)(o:Nat):∀n,(kU r o n).length=r.length
 | 0=>rfl
 | n+1=>by unfold kU;rw[C1,ot r o n]
theorem yw{r:List Int}{o:Nat} : ∀{n:Nat}{v:Int},v∈kU r o n->v∈r\/v=0
 | 0,v,h=>.inl h
 | n+1,v,h=>by
  rcases t5 h with h|h
  ·exact yw h
  ·exact .inr h
theorem AZ{k:af}(h:aA k=true)(a:Int)(n:Nat):aA (fN k a n)=true:=by
 obtain⟨g,i,l,o,p⟩:=aB.1 h;obtain⟨q,r,t,f⟩:=aT.1 i;refine aB.2 ⟨g,aT.2 ⟨?_,?_,?_,λj c=>?_⟩,l,o,p⟩
 ·simp only[fN,C1];exact q
 ·simp only[fN,C1];exact r
 ·simp only[fN,C1];exact t
 ·simp only[fN,C1]at c |-
  simp only[bS];split
  ·rename_i e
   have b:=f j c;unfold gp at b |-;simp only[I0,C0,O3]at b |-;rw[e.1]at *;refine⟨by rw[ot];exact b.1,λv d=>?_⟩;rcases yw d with d|rfl
   ·exact b.2 v d
   ·unfold gV;simp
  ·exact f j c
def xa(h:ab)(a:Int):Nat:=(h.Larges.findIdx? λl=>decide (l.Page*16=a)).getD 0
def freeL(h:ab)(i k:Nat):ab:={h with Kernel:=dC h.Kernel (nth h.Larges k).Page (nth h.Larges k).Pages.toNat,Larges:=dele h.Larges k,Free:=(dl (dQ h) h.Free ⟨(nth h.Larges k).Page,(nth h.Larges k).Pages⟩).getD h.Free,Objs:=dele h.Objs i}
def kB(h:ab)(o:bC):aL:=⟨o.Addr,aN o.Size,h.Clock⟩
def inQuar(h:ab)(i:Nat):ab:={h with Kernel:=fN h.Kernel (nth h.Objs i).Addr (csz (aN (nth h.Objs i).Size)).toNat,Objs:=dele h.Objs i,Quar:=GA h.Quar (kB h (nth h.Objs i))}
def HT(h:ab)(t i:Nat):ab:=recycs t (inQuar h i) ((zV h.Quar (kB h (nth h.Objs i))).map (·.Addr))
def freeOb(h:ab)(t i:Nat):ab × Int:=
 if aN (nth h.Objs i).Size<0 then(freeL h i (xa h (nth h.Objs i).Addr),0)
 else if(ao (tbl h) ((nth h.Objs i).Addr / 16)).Mode=1 then(h,5)
 else(HT h t i,0)
theorem yL{h:ab}{l:a8}(d:l∈h.Larges){a:Int}(e:a=16*l.Page):xa h a<h.Larges.length/\a=16*(nth h.Larges (xa h a)).Page/\(∀j,j<xa h a->(nth h.Larges j).Page*16≠a)/\h.Larges.findIdx? (λl=>decide (l.Page*16=a))=some (xa h a):=by
 cases b:h.Larges.findIdx? λl=>decide (l.Page*16=a) with
 | none=>
  have:=List.findIdx?_eq_none_iff.1 b l d;rw[Y3]at this;omega
 | some k=>
  obtain⟨c,f,g⟩:=O5.1 b;have i:xa h a=k:=by unfold xa;rw[b];rfl
  rw[i];rw[<-br (U1 c),C0]at f;refine⟨c,ω,λj n=>?_,rfl⟩;have:=g j n;rw[<-br (U1 (show j<h.Larges.length by omega))]at this;simpa using this
theorem eN{h:ab}{E:List Int}(a:bk h E){o:bC}(g:o∈h.Objs):(aN o.Size<0->PD h.Larges o.Addr o.Size)/\(¬aN o.Size<0->(∃s∈h.Spans,eM s o.Addr/\s.Class=aN o.Size)/\aN o.Size<=3):=by
 rcases a.oow o g with⟨s,d,b,c⟩|⟨l,f,b,c⟩
 ·have i:=aF (a.L.sok s d)
  exact⟨λe=>ω,λ_=>⟨⟨s,d,b,c⟩,ω⟩⟩
 ·have j:=cu (a.L.lok l f)
  refine⟨λ_=>⟨l,f,b,c⟩,λe=>absurd ?_ e⟩;unfold aN;rw[C7 ω,C7 ω,C7 ω,C7 ω,C7 ω]
  decide
theorem bk.inQuar{h:ab}{i:Nat}(a:bk h [])(j:i<h.Objs.length)(r:¬aN (nth h.Objs i).Size<0):bk (inQuar h i) ((zV h.Quar (kB h (nth h.Objs i))).map (·.Addr)):=by
 obtain⟨⟨s,l,n,t⟩,u⟩:=(eN a (am j)).2 r;have b:iV h.Spans (nth h.Objs i).Addr (aN (nth h.Objs i).Size):=⟨s,l,n,.inr t⟩
 have d:=a.nums;unfold cj at d;rw[C0]at d;have w:=aF (a.L.sok s l);have o:=a.dropO j b.any;have A:=o.cells (k:=fN h.Kernel (nth h.Objs i).Addr (csz (aN (nth h.Objs i).Size)).toNat) (AZ a.ker _ _) rfl;have f:∀y∈h.Quar.Lst,y.Addr≠(nth h.Objs i).Addr:=λy g e=>by
  have c:=o.nd;rw[List.cons_append,List.nil_append]at c;refine(List.nodup_cons.1 c).1 ?_;rw[<-e];unfold holders;simp only[O2];exact .inl (.inr (U3.2 ⟨y,g,rfl⟩))
 have p:=bk.toQuar (x:=kB h (nth h.Objs i)) (q:=GA h.Quar (kB h (nth h.Objs i))) (out:=zV h.Quar (kB h (nth h.Objs i))) A (LC a.quar ⟨by show 0<=aN _;omega,u,by show 0<=(nth h.Objs i).Addr;have:=n.1;omega,d.2.2.1⟩ (λy g=>a.snc y g) f) (by unfold zV GA;simp only[List.take_append_drop]) (v4 _) b;rw[List.append_nil]at p;exact p
theorem bk.freeOb{h:ab}{t i:Nat}(a:bk h [])(b:i<h.Objs.length)(e:t<h.Caches.length):bk (freeOb h t i).1 []:=by
 unfold Ab.freeOb;split
 ·rename_i c
  obtain⟨l,f,d,-⟩:=(eN a (am b)).1 c;obtain⟨g,j,-⟩:=yL f d;obtain⟨o,k,n⟩:=a.dropL b g j;unfold Ab.freeL;rw[k];exact n
 ·rename_i c
  split
  ·exact a
  ·have d:=a.inQuar b c
   refine bk.recycs (E:=[]) ?_ e;rw[List.append_nil];exact d
theorem Gd:∀{H L:List Int},H.Nodup->(∀x∈H,x∈L)->H.length<=L.length
 | [],L,_,_=>R0 _
 | y::H,L,f,b=>by
  have c:y∈L:=b y (O1 ..);have a:=List.nodup_cons.1 f;have:=Gd (L:=L.erase y) a.2 λz d=>(List.mem_erase_of_ne (λe:z=y=>a.1 (by rw[<-e];exact d))).2 (b z (I4 _ d))
  rw[List.length_erase_of_mem c]at this;have g:=List.length_pos_of_mem c;simp only[List.length_cons];omega
theorem vQ{H:List Int}{n:Nat}(c:H.Nodup)(a:∀x∈H,0<=x/\x<n):H.length<=n:=by
 have:=Gd (L:=(List.range n).map λ(i:Nat)=>(i:Int)) c λx b=>U3.2 ⟨x.toNat,List.mem_range.2 (by have:=a x b;omega),by have:=a x b;omega⟩
 simpa using this
theorem gQ{α:Type}{f:α->Int}{xs:List α}(h:xs.Pairwise λa b=>f a<f b):(xs.map f).Nodup:=by
 unfold List.Nodup;rw[List.pairwise_map];exact h.imp λh e=>ω
theorem KK:∀(b:List (List Int))(k:Nat)(s:List Int),(fC k s b).isSome=true->∀l∈b,l.length<=8
 | [],_,_,_,l,a=>by cases a
 | x::b,k,s,h,l,a=>by
  simp only[fC]at h;cases e:dK k s x with
  | none=>rw[e]at h;cases h
  | some d=>
   rw[e]at h;rcases List.mem_cons.1 a with rfl|a
   ·unfold dK at e
    split at e
    ·rename_i c;exact c.1
    ·cases e
   ·exact KK b (k+1) d h l a
theorem dZ{c:aC}(h:bt c=true):c.Lists.length=4/\∀l∈c.Lists,l.length<=8:=by
 have a:=h;unfold bt at h;simp only[I0,C0]at h;exact⟨h.1,KK _ _ _ h.2⟩
structure M6(h:ab):Prop where
 cells:h.Kernel.Machine.Frames.Cells.length<=32
 row:∀r∈h.Kernel.Machine.Frames.Cells,r.length=16
 used:h.Kernel.Machine.Frames.Used.length<=32
 ents:h.Kernel.Machine.Table.Entries.length<=32
 ref:h.Kernel.Refuse.length<=40
 free:h.Free.length<=32
 spans:h.Spans.length<=32
 larges:h.Larges.length<=32
 objs:h.Objs.length<=512
 caches:h.Caches.length<=4
 lists:∀c∈h.Caches,c.Lists.length=4/\∀l∈c.Lists,l.length<=8
 quar:h.Quar.Lst.length<=512
theorem iV.bd{h:ab}{E:List Int}(b:bk h E){a c:Int}(d:iV h.Spans a c):0<=a/\a<512:=by
 obtain⟨s,e,⟨f,g,-⟩,-⟩:=d;have i:=aF (b.L.sok s e);omega
theorem bk.lens{h:ab}{E:List Int}(d:bk h E):M6 h:=by
 obtain⟨O,t,u,P,Q,R,w⟩:=aB.1 d.ker;obtain⟨S,A,T,B⟩:=aT.1 t;obtain⟨U,V,C⟩:=bn.1 u;obtain⟨p,D,W⟩:=eK.1 d.rng;obtain⟨X,Y,F,Z⟩:=iU.1 d.quar;have q:=d.mail;unfold bD at q;simp only[I0,C0]at q;have G:=d.nc;refine⟨A,λr g=>?_,ω,C,w,?_,?_,?_,?_,ω,λc J=>dZ (d.cach c J),?_⟩
 ·obtain⟨j,K,rfl⟩:=bf g
  have:=B j K;unfold gp at this;simp only[I0,C0]at this;exact this.1
 ·have:=vQ (H:=h.Free.map (·.At)) (n:=32) (gQ (p.1.imp_of_mem fun {a b} ha hb h=>by have:=p.2 a ha;omega)) λx f=>by
   obtain⟨r,g,rfl⟩:=U3.1 f;have:=D r g;omega
  simpa using this
 ·have:=vQ (H:=h.Spans.map (·.Page)) (n:=32) d.L.nd λx f=>by
   obtain⟨s,i,rfl⟩:=U3.1 f;have:=aF (d.L.sok s i);omega
  simpa using this
 ·have:=vQ (H:=h.Larges.map (·.Page)) (n:=32) (gQ d.srl) λx f=>by
   obtain⟨l,k,rfl⟩:=U3.1 f;have:=aU (d.L.lok l k);omega
  simpa using this
 ·have:=vQ (H:=h.Objs.map (·.Addr)) (n:=512) (gQ d.osr) λx f=>by
   obtain⟨o,M,rfl⟩:=U3.1 f;rcases d.oow o M with⟨s,i,⟨k1,k2,-⟩,-⟩|⟨l,k,e,-⟩
   ·have:=aF (d.L.sok s i);omega
   ·have:=aU (d.L.lok l k);omega
  simpa using this
 ·have:=vQ (H:=h.Quar.Lst.map (·.Addr)) (n:=512) F λx f=>by
   obtain⟨y,N,rfl⟩:=U3.1 f;exact(d.hqu y N).bd d
  simpa using this
theorem M6.sml{h:ab}(a:M6 h)(d:aA h.Kernel=true)(e:aH.sml h.Mail)(f:bW.sml h.Job):ab.sml h:=
 ⟨b6 d,⟨by have:=a.free;omega,λ_ _=>trivial⟩,⟨by have:=a.spans;omega,λ_ _=>trivial⟩,⟨by have:=a.larges;omega,λ_ _=>trivial⟩,⟨by have:=a.objs;omega,λ_ _=>trivial⟩,⟨by have:=a.caches;omega,λc b=>⟨by have:=(a.lists c b).1;omega,λl g=>by have:=(a.lists c b).2 l g;show l.length<=1048576;omega⟩⟩,e,⟨by have:=a.quar;omega,λ_ _=>trivial⟩,f⟩
def kE(a:Int)(o:bC):Bool:=decide (o.Addr=a)
def ny(h:ab)(a:Int):Nat:=(di (kE a) h.Objs).toNat
theorem bk.objAt{h:ab}{E:List Int}(k:bk h E){o:bC}(l:o∈h.Objs):ny h o.Addr<h.Objs.length/\nth h.Objs (ny h o.Addr)=o/\di (kE o.Addr) h.Objs=(ny h o.Addr:Nat):=by
 obtain⟨i,a,rfl⟩:=bf l;have d:di (kE (nth h.Objs i).Addr) h.Objs=(i:Nat):=dB (ah a) (by unfold kE;simp) λj z p g=>by
  have b:=br g;have c:=(V1.1 g).1;subst b;unfold kE;refine Q0 λe=>?_
  have:=gy (f:=(·.Addr)) (gQ k.osr) c a e;omega
 have n:ny h (nth h.Objs i).Addr=i:=by unfold ny;rw[d];rfl
 rw[n];exact⟨a,rfl,d⟩
theorem re(k:af)(p:Int)(n:Nat):(dC k p n).Calls=k.Calls/\(dC k p n).Refuse=k.Refuse:=(gW k p n).2
open Go.RowKit
set_option maxRecDepth 20000
set_option maxHeartbeats 4000000
theorem HV(y:a7)(a:List a7):cT [] (y::a)=cT [y] a:=by rw[cT];rfl
theorem BR{α:Type}[Inhabited α]{xs:List α}(h:xs≠[]):xs.getLast? = some (nth xs (xs.length - 1)):=by
 have a:0<xs.length:=List.length_pos_iff.2 h;rw[List.getLast?_eq_getElem?,ah ω]
theorem Kq{α:Type}{xs:List α}(h:xs≠[])(v:α):xs.dropLast++[v]=xs.set (xs.length - 1) v:=by
 have b:0<xs.length:=List.length_pos_iff.2 h;refine List.ext_getElem (by simp;omega) λi a c=>?_
 rw[List.getElem_set];by_cases e:xs.length - 1=i
 ·subst e
  rw[C8 rfl,List.getElem_append_right (by simp)];simp
 ·rw[C7 e,List.getElem_append_left (by simp at a |-;omega),List.getElem_dropLast]
theorem K8{out:List a7}{y:a7}{a:List a7}(h:out≠[])(e:(nth out (out.length - 1)).At+(nth out (out.length - 1)).Len=y.At):cT out (y::a)=cT (out.set (out.length - 1) ⟨(nth out (out.length - 1)).At,(nth out (out.length - 1)).Len+y.Len⟩) a:=by
 rw[cT,BR h];simp only;rw[C8 e,Kq h]
theorem LG{out:List a7}{y:a7}{a:List a7}(h:out≠[])(e:¬(nth out (out.length - 1)).At+(nth out (out.length - 1)).Len=y.At):cT out (y::a)=cT (out++[y]) a:=by
 rw[cT,BR h];simp only;rw[C7 e]
theorem pZ(xs:List a7)(B:xs.length<=4194304)(o:∀y∈xs,0<=y.At/\1<=y.Len/\y.At+y.Len<=1048576):ar Tryz.prog 404 false [.val none (bw .imm xs)] .one (bw .own (cT [] xs)):=by
 refine fO 63 [(6,21,[15,16,17,18,19,20,21,22,23,24,25,26,27,28,29,30,31,32,33,34,35]),(7,15,[38,39,40,41,42,43,44,45,46,47,48,49,50,51,52])] Tryz.func404 rfl ?_ (.inr (kf _))
 repeat'(first|refine gO ?_|fail)
 (conv=>whnf)
 refine CC (ι:=Nat × List a7) (λq=>[(0,.hold .one (bw .imm xs)),(3,.hold .one (bw .own q.2)),(4,.hold .one [I ((q.1:Nat):Int)])]) (λq=>q.1<=xs.length/\cT q.2 (xs.drop q.1)=cT [] xs/\q.2.length<=q.1/\∀y∈q.2,0<=y.At/\1<=y.Len/\y.At+y.Len<=1048576) (λq=>xs.length - q.1) ((0,[])) ?_ (⟨R0 _,rfl,Q2 _,λy g=>by cases g⟩) λq p=>?_
 ·exact wB
 obtain⟨i,out⟩:=q;obtain⟨t,b,j,c⟩:=p;simp only at t b j c |-;by_cases k:i<xs.length
 ·have l:=ah k
  have g:=o _ (am k);rw[iI k]at b;by_cases h:out=[]
  ·subst h
   rw[HV]at b;have D:([]:List a7).length=0:=rfl
   repeat'(first|refine gD ?_|(conv=>whnf);first|with_reducible refine CA (aa l) ?_|refine Ln.mk (show List.length _=0 from rfl) ?_|refine Ap.sm (λr u=>by cases u) rfl (by simp) (by decide) rfl ?_)
   ((conv=>whnf)
    refine CB (i+1,[nth xs i]) ⟨(by simp only;omega),b,(by simp),(λy a=>by rw[Z0.1 a];exact g)⟩ (by simp only;omega) ?_
    (repeat'(first|exact trivial|rfl|exact CH rfl (CH (T0 (C.s dy.own) (by simp[a7.enc])) trivial)|refine CH ?_ ?_)))
  ·have n:0<out.length:=List.length_pos_iff.2 h
   have d:out[((out.length:Int) - 1).toNat]? = some (nth out (out.length - 1)):=by
    rw[show((out.length:Int) - 1).toNat=out.length - 1 by omega];exact ah ω
   have w:=c _ (am (xs:=out) (i:=out.length - 1) ω);by_cases e:(nth out (out.length - 1)).At+(nth out (out.length - 1)).Len=(nth xs i).At
   ·rw[K8 h e]at b
    repeat'(first|refine gA ?_|(conv=>whnf);first|with_reducible refine CA (aa l) ?_|refine CJ ω (aa d) ?_|refine CF rfl (aa d) rfl ?_|refine CN rfl rfl (aa d) rfl (X0 rfl) rfl ?_)
    ((conv=>whnf)
     refine CB (i+1,out.set (out.length - 1) ⟨(nth out (out.length - 1)).At,(nth out (out.length - 1)).Len+(nth xs i).Len⟩) ⟨(by simp only;omega),b,(by simp only;rw[C1];omega),(λy a=>?_)⟩ (by simp only;omega) ?_)
    ·rcases t5 a with a|rfl
     ·exact c y a
     ·simp only;omega
    ·(repeat'(first|exact trivial|rfl|exact CH rfl (CH (T0 (C.s dy.own) (by rw[show((out.length:Int) - 1).toNat=out.length - 1 by omega,X4];rfl)) trivial)|refine CH ?_ ?_))
   ·rw[LG h e]at b
    repeat'(first|refine gA ?_|(conv=>whnf);first|with_reducible refine CA (aa l) ?_|refine CJ ω (aa d) ?_|refine CF rfl (aa d) rfl ?_|refine Ap.sm (aO λ_=>rfl) rfl (by simp;omega) (by decide) rfl ?_)
    ((conv=>whnf)
     refine CB (i+1,out++[nth xs i]) ⟨(by simp only;omega),b,(by simp;omega),(λy a=>?_)⟩ (by simp only;omega) ?_)
    ·rcases O2.1 a with a|a
     ·exact c y a
     ·rw[Z0.1 a];exact g
    ·(repeat'(first|exact trivial|rfl|exact CH rfl (CH (T0 (C.s dy.own) (by simp[a7.enc])) trivial)|refine CH ?_ ?_))
 ·obtain rfl:i=xs.length:=ω
  rw[List.drop_length]at b
  repeat'(first|refine gD ?_|fail)
  rw[<-b];rfl
theorem xF(r y:a7)(a:List a7)(put:Bool):kX r (y::a) put=if ovl y r then none else if !put&&decide (y.At > r.At) then(kX r a true).map λt=>r::y::t else(kX r a put).map λt=>y::t:=by rw[kX]
theorem ky(pages:Int)(xs:List a7)(r:a7)(H:0<=pages/\pages<=1048576)(J:gC xs):ar Tryz.prog 387 false [.val none [I pages],.val none (bw .imm xs),.val (some 2) (a7.enc .imm r)] (.tup [none,none]) (EA xs (dl pages xs r)):=by
 have w:=J.1;have n:=kD pages xs H J;have E:=vr pages r H;cases o:bv pages xs<;>rw[o]at n
 ·rw[show dl pages xs r=none by unfold dl;rw[C7 (by rw[o];simp)]]
  refine fO 82 [] Tryz.func387 rfl ?_ (.inr (r9 _ _))
  repeat'(first|refine gO ?_|(conv=>whnf);first|refine C6 (n) ?_|refine CL (λ_=>rfl) (λ_=>rfl) w (by decide) ?_)
  rfl
 cases k:rangeIn pages r<;>rw[k]at E
 ·rw[show dl pages xs r=none by unfold dl;rw[C7 (by rw[k];simp)]]
  refine fO 82 [] Tryz.func387 rfl ?_ (.inr (r9 _ _))
  repeat'(first|refine gO ?_|(conv=>whnf);first|refine C6 (n) ?_|refine C6 (E) ?_|refine CL (λ_=>rfl) (λ_=>rfl) w (by decide) ?_)
  rfl
 obtain⟨K,L⟩:=yX o;have p:0<=r.At/\1<=r.Len/\r.At+r.Len<=pages:=by
  unfold rangeIn at k;rw[C0]at k;omega
 rw[show dl pages xs r=(kX r xs false).map (cT []) by unfold dl;rw[C8 ⟨o,k⟩,yx (pages:=pages) K p.2.1 λz M=>by simp at M]];refine fO 82 [] Tryz.func387 rfl ?_ (.inr (r9 _ _))
 repeat'(first|refine gO ?_|(conv=>whnf);first|refine C6 (n) ?_|refine C6 (E) ?_|refine CL (λ_=>rfl) (λ_=>rfl) w (by decide) ?_)
 (conv=>whnf)
 refine CC (ι:=Nat × List a7 × Bool) (λq=>[(1,.hold .one (bw .imm xs)),(5,.hold .box (a7.enc .imm r)),(8,.hold .one (bw .own xs)),(9,.hold .one (bw .own q.2.1)),(10,.hold .one [B (q.2.2)]),(11,.hold .one [I ((q.1:Nat):Int)])]) (λq=>q.1<=xs.length/\(kX r (xs.drop q.1) q.2.2).map (q.2.1++·)=kX r xs false/\q.2.1.length<=q.1+q.2.2.toNat/\(∀y∈q.2.1,0<=y.At/\1<=y.Len/\y.At+y.Len<=1048576)) (λq=>xs.length - q.1) ((0,[],false)) ?_ (⟨R0 _,by simp,by simp,by simp⟩) λq g=>?_
 ·exact wB
 obtain⟨i,out,put⟩:=q;obtain⟨N,b,d,e⟩:=g;simp only at N b d e |-;have l:0<=r.At/\1<=r.Len/\r.At+r.Len<=1048576:=ω
 by_cases F:i<xs.length
 ·have u:=ah F
  have O:=L _ (am F);have h:0<=(nth xs i).At/\1<=(nth xs i).Len/\(nth xs i).At+(nth xs i).Len<=1048576:=ω
  rw[iI F]at b;by_cases j:ovl (nth xs i) r=true
  ·rw[<-b]
   rw[xF,C8 j];unfold ovl at j;rw[C0]at j
   repeat'(first|refine gD ?_|(conv=>whnf);first|with_reducible (first|refine CA (aa u) ?_|refine Bf.D (λg=>?_) (λg=>?_)))
   rfl
  ·rw[xF,C7 j]at b
   unfold ovl at j;rw[C0]at j;cases put with
   | false=>
    have d:out.length<=i:=by simpa using d
    by_cases P:(nth xs i).At > r.At
    ·rw[C8 (by simp;omega),Option.map_map]at b
     repeat'(first|refine gD ?_|(conv=>whnf);first|with_reducible (first|refine CA (aa u) ?_|refine Bf.D (λg=>?_) (λg=>?_))|refine Ap.sm (aO λ_=>rfl) rfl (by simp;omega) (by decide) rfl ?_|refine Ap.sm (λr p=>by simp at p;rcases p with⟨a,_,rfl⟩|rfl<;>rfl) rfl (by simp;omega) (by decide) rfl ?_)
     ((conv=>whnf)
      refine CB (i+1,out++[r,nth xs i],true) ⟨(by simp only;omega),(by rw[<-b];congr 1;funext t;simp),(by simp;omega),(λy c=>?_)⟩ (by simp only;omega) ?_)
     ·rcases O2.1 c with c|c
      ·exact e y c
      ·rcases List.mem_cons.1 c with rfl|c
       ·exact l
       ·rw[Z0.1 c];exact h
     ·(repeat'(first|exact trivial|rfl|exact CH rfl (CH (T0 (C.s dy.own) (by simp[a7.enc])) trivial)|refine CH ?_ ?_))
    ·rw[C7 (by simp;omega),Option.map_map]at b
     repeat'(first|refine gD ?_|(conv=>whnf);first|with_reducible (first|refine CA (aa u) ?_|refine Bf.D (λg=>?_) (λg=>?_))|refine Ap.sm (aO λ_=>rfl) rfl (by simp;omega) (by decide) rfl ?_)
     ((conv=>whnf)
      refine CB (i+1,out++[nth xs i],false) ⟨(by simp only;omega),(by rw[<-b];congr 1;funext t;simp),(by simp;omega),(λy c=>?_)⟩ (by simp only;omega) ?_)
     ·rcases O2.1 c with c|c
      ·exact e y c
      ·rw[Z0.1 c];exact h
     ·(repeat'(first|exact trivial|rfl|exact CH rfl (CH (T0 (C.s dy.own) (by simp[a7.enc])) trivial)|refine CH ?_ ?_))
   | true=>
    have d:out.length<=i+1:=d;rw[C7 (by simp),Option.map_map]at b;by_cases Q:(nth xs i).At<r.At+r.Len
    all_goals
     repeat'(first|refine gD ?_|(conv=>whnf);first|with_reducible (first|refine CA (aa u) ?_|refine Bf.D (λg=>?_) (λg=>?_))|refine Ap.sm (aO λ_=>rfl) rfl (by simp;omega) (by decide) rfl ?_)
     ((conv=>whnf)
      refine CB (i+1,out++[nth xs i],true) ⟨(by simp only;omega),(by rw[<-b];congr 1;funext t;simp),(by simp;omega),(λy c=>?_)⟩ (by simp only;omega) ?_)
     ·rcases O2.1 c with c|c
      ·exact e y c
      ·rw[Z0.1 c];exact h
     ·(repeat'(first|exact trivial|rfl|exact CH rfl (CH (T0 (C.s dy.own) (by simp[a7.enc])) trivial)|refine CH ?_ ?_))
 ·obtain rfl:i=xs.length:=ω
  rw[List.drop_length]at b;cases put with
  | false=>
   have d:out.length<=xs.length:=by simpa using d
   rw[<-b];have G:=pZ (out++[r]) (by simp;omega) (λy c=>by
     rcases O2.1 c with c|c
     · exact e y c
     · rw[Z0.1 c];exact l)
   repeat'(first|refine gD ?_|(conv=>whnf);first|refine Ap.sm (aO λ_=>rfl) rfl (by simp;omega) (by decide) (show(out++[r]).map (a7.enc .own)=_ by simp[a7.enc]) ?_|refine CE (G) ⟨⟨rfl,dA _⟩,trivial⟩ ?_)
   rfl
  | true=>
   have d:out.length<=xs.length+1:=d;rw[<-b];have G:=pZ out ω e
   repeat'(first|refine gD ?_|(conv=>whnf);first|refine CE (G) ⟨⟨rfl,dA _⟩,trivial⟩ ?_)
   simp[kX,EA]
   rfl
theorem shl64{i:Int}(d:0<=i/\i<=15):IntKind.i64.wrap (1*2 ^ min i.toNat IntKind.i64.bits)=2 ^ i.toNat/\0<=(2:Int) ^ i.toNat/\(2:Int) ^ i.toNat<=32768:=by
 have a:min i.toNat IntKind.i64.bits=i.toNat:=Nat.min_eq_left (show i.toNat<=64 by omega);have b:(0:Int)<=2 ^ i.toNat/\(2:Int) ^ i.toNat<=32768:=by
  have:(2:Nat) ^ i.toNat<=2 ^ 15:=Nat.pow_le_pow_right (by decide) ω;have c:((2 ^ i.toNat:Nat):Int)=(2:Int) ^ i.toNat:=Int.natCast_pow 2 i.toNat;rw[<-c];exact⟨Int.natCast_nonneg _,Int.ofNat_le.2 this⟩
 rw[a,Int.one_mul];exact⟨eA ω ω,b⟩
theorem clr64{b i:Int}(a:0<=b/\b<=65535):IntKind.i64.wrap ((BitVec.ofInt IntKind.i64.bits b &&& ~~~BitVec.ofInt IntKind.i64.bits (2 ^ i.toNat)).toNat:Nat)=wV b i:=by
 have:=zn (i:=i) a;unfold wV at this |-;exact eA ω ω
theorem r8(b i:Int)(c:0<=b/\b<=65535)(d:0<=i/\i<=15):ar Tryz.prog 405 false [.val none [I b],.val none [I i]] .one [I (wV b i)]:=by
 have a:=nR b i;rw[O0 ω]at a;have e:IntKind.u64.wrap i=i:=by unfold IntKind.wrap;simp[IntKind.signed,IntKind.bits];omega
 refine fO 15 [] Tryz.func405 rfl ?_
 repeat'(first|refine gO ?_|(conv=>whnf);first|refine C9 ?_|refine C6 (a) ?_|refine CK ω ?_|refine CI e ?_|refine CI (shl64 d).1 ?_|refine CI (clr64 c) ?_)
 rfl
theorem L8{s:au}{k:Int}(a:aY s.Bits k=true):0<=k/\k<=15:=by
 have:=(fS _ _).1 a;omega
theorem x5(s:au)(k:Int)(a:bg s=true)(b:aY s.Bits k=true):ar Tryz.prog 391 false [.val (some 3) (au.enc .imm s),.val none [I k]] (.tup [some 3,none]) (au.enc .own (mn s k)++[B true]):=by
 have e:=ed a;have g:=L8 b;have c:=fR s;have d:=ia s.Bits k ω;rw[a]at c;rw[b]at d;refine fO 23 [] Tryz.func391 rfl ?_ (.inr (aP (au.enc_fr _) ⟨trivial,trivial⟩))
 repeat'(first|refine gO ?_|(conv=>whnf);first|refine C9 ?_|refine C6 (c) ?_|refine C6 (d) ?_|refine C6 (r8 s.Bits k e g) ?_)
 rfl
theorem wt(c:aC)(k:Int)(b:aC.sml c):ar Tryz.prog 340 false [.val (some 1) (aC.enc .imm c),.val none [I k]] .one [B (bt c&&decide (0<=k/\k<=3))]:=by
 have a:=mj c b;cases e:bt c<;>rw[e]at a
 all_goals
  refine fO 11 [] Tryz.func340 rfl ?_
  repeat'(first|refine gO ?_|(conv=>whnf);first|refine C9 ?_|refine C6 (a) ?_|refine C6 (aE k 0 3) ?_)
  all_goals rfl
theorem rm{c:aC}{k:Nat}(a:k<c.Lists.length):c.Lists[k]? = some (nth c.Lists k):=ah a
theorem KJ{c:aC}(h:bt c=true)(k:Nat)(a:Int):aC.sml (lD c k a):=by
 obtain⟨f,d⟩:=dZ h;refine⟨by simp only[lD,C1];omega,λl b=>?_⟩;rcases t5 b with b|rfl
 ·have:=d l b;show l.length<=1048576;omega
 ·show(nth c.Lists k++[a]).length<=1048576
  by_cases e:k<c.Lists.length
  ·have:=d _ (am e);simp;omega
  ·have:nth c.Lists k=[]:=by unfold nth;rw[Z1,W1 ω];rfl
   rw[this];simp
theorem JP(c:aC)(k:Nat)(a:Int):aC.enc .own (lD c k a)=[.s .own ((c.Lists.map (aD .own)).set k (aD .own (nth c.Lists k++[a])))]:=by simp[aC.enc,lD,X4]
theorem fE{α:Type}{f:α->List C}{xs:List α}{k:Nat}{y:α}{r:List C}(h:xs[k]? = some y):((xs.map f).set k r)[k]? = some r:=by
 rw[Z2 (by rw[W0];exact(V1.1 h).1)]
theorem gY{α β:Type}(f:α->β)(xs:List α)(y:α):(xs++[y]).map f=xs.map f++[f y]:=by simp
def Ft(c:aC)(k a:Int):List C:=aC.enc .own ((cput c k a).getD c)++[B (cput c k a).isSome]
theorem Ju(c:aC)(k a:Int):gh (Ft c k a):=aP (aC.enc_fr _) ⟨trivial,trivial⟩
theorem wN(c:aC)(k:Nat)(a:Int)(h:bt c=true)(B:k<=3):ar Tryz.prog 403 false [.val (some 1) (aC.enc .imm c),.val none [I (k:Nat)],.val none [I a]] (.tup [some 1,none]) (Ft c k a):=by
 obtain⟨D,q⟩:=dZ h;have r:aC.sml c:=⟨ω,λl u=>by have:=q l u;show l.length<=1048576;omega⟩
 have n:=wt c k r;rw[h,O0 ω]at n;have t:=gU c r;have d:=KJ h k a;have o:=mj (lD c k a) d;have w:=gU (lD c k a) d;have b:=rm (c:=c) (k:=k) ω;have y:=q _ (am (xs:=c.Lists) (i:=k) ω);have j:=aC.enc_fz (lD c k a);rw[JP]at j;have g:=Ju c k a;unfold Ft at g |-;cases e:bt (lD c k a)<;>rw[e]at o
 ·have p:cput c k a=none:=by unfold cput;rw[C7 λx=>by have:=x.2.2.2;rw[C2,e]at this;cases this]
  rw[p]at g |-;refine fO 35 [(4,267,[16,17,18,19,20,21,22,23,24,25,27,0,1,2,3,4,5,6,7,8,9,10,1000,1001,1002,11,12])] Tryz.func403 rfl ?_ (.inr g)
  repeat'(first|refine gO ?_|(conv=>whnf);first|with_reducible refine CA (aa b) ?_|refine C9 ?_|refine CA (fE b) ?_|refine CF rfl (fE b) rfl ?_|refine C6 (n) ?_|refine C6 (t) ?_|refine Lq.one rfl rfl (aa b) rfl (X0 rfl) rfl rfl ?_|refine CF rfl (aa b) rfl ?_|refine CN rfl rfl (fE b) rfl (X0 rfl) (show [C.s dy.own ((c.Lists.map (aD .own)).set k (aD .own (nth c.Lists k++[a])))]=_ from by simp only[List.set_cons_zero,List.set_set,C2];rfl) ?_|refine Ap.sm (aO λ_=>rfl) rfl (by simp;omega) (by decide) (gY _ _ _) ?_|refine CE (o) ⟨⟨rfl,j⟩,trivial⟩ ?_)
  rfl
 ·have p:cput c k a=some (lD c k a):=by unfold cput;rw[C8 ⟨h,ω,ω,by rw[C2];exact e⟩,C2]
  rw[p]at g |-;refine fO 35 [(4,267,[16,17,18,19,20,21,22,23,24,25,27,0,1,2,3,4,5,6,7,8,9,10,1000,1001,1002,11,12])] Tryz.func403 rfl ?_ (.inr g)
  repeat'(first|refine gO ?_|(conv=>whnf);first|with_reducible refine CA (aa b) ?_|refine C9 ?_|refine CA (fE b) ?_|refine CF rfl (fE b) rfl ?_|refine C6 (n) ?_|refine C6 (t) ?_|refine Lq.one rfl rfl (aa b) rfl (X0 rfl) rfl rfl ?_|refine CF rfl (aa b) rfl ?_|refine CN rfl rfl (fE b) rfl (X0 rfl) (show [C.s dy.own ((c.Lists.map (aD .own)).set k (aD .own (nth c.Lists k++[a])))]=_ from by simp only[List.set_cons_zero,List.set_set,C2];rfl) ?_|refine Ap.sm (aO λ_=>rfl) rfl (by simp;omega) (by decide) (gY _ _ _) ?_|refine CE (o) ⟨⟨rfl,j⟩,trivial⟩ ?_|refine CE (w) ⟨⟨rfl,j⟩,trivial⟩ ?_)
  rfl
def bu(x:ab):List C:=[.s .own (x.Kernel.Machine.Frames.Cells.map (aD .own)),.s .own (x.Kernel.Machine.Frames.Used.map (rB .own)),.s .own (x.Kernel.Machine.Table.Entries.map (aZ.enc .own)),I x.Kernel.Calls,.s .own (x.Kernel.Refuse.map (rI .own)),.s .own (x.Free.map (a7.enc .own)),.s .own (x.Spans.map (au.enc .own)),.s .own (x.Larges.map (a8.enc .own)),.s .own (x.Objs.map (bC.enc .own)),.s .own (x.Caches.map (aC.enc .own)),.s .own (x.Mail.Buffers.map (bT .own)),.s .own (x.Mail.Inbox.map (aD .own)),I x.Quar.Room,.s .own (x.Quar.Lst.map (aL.enc .own)),I x.Seed,I x.Clock,I x.Limit,I x.Next,B x.Meshing,I x.Job.Plan.Keep,I x.Job.Plan.Move,.s .imm (x.Job.Plan.Cells.map (rI .imm)),I x.Job.Phase,I x.Job.Next]
theorem bz(x:ab):dw (bu x)=ab.enc .imm x:=by simp[dw,bu,ab.enc,aC.enc_fz,aZ.enc_fz,a8.enc_fz,bC.enc_fz,a7.enc_fz,au.enc_fz,aL.enc_fz,rB,oR,rI,dS,<-bY,U4]
def uO(x:bW):List C:=[I x.Plan.Keep,I x.Plan.Move,.s .imm (x.Plan.Cells.map (rI .imm)),I x.Phase,I x.Next]
theorem Pu.two{g a:List C}{off i k j h l c:Nat}{cs:List C}{K:List C->Prop}{o d:dy}{rows rows2:List (List C)}{r f:List C}(h1:g[off]? = some (.s o rows))(u:o.mine=true)(n:rows[i]? = some r)(w:r.length=k)(p:r[j]? = some (.s d rows2))(y:d.mine=true)(q:rows2[h]? = some f)(A:f.length=l)(E:c+cs.length<=l)(B:a=g.set off (.s o (rows.set i (r.set j (.s d (rows2.set h (splice f c cs)))))))(D:K a):Pu g off [(i,k,j),(h,l,c)] cs K:=by
 have t:o≠.imm:=λe=>by subst e;cases u
 have b:d≠.imm:=λe=>by subst e;cases y
 refine Pu.mk (r:=f) (j:=c) (by simp[bQ,h1,n,w,p,q,A]) (by simp[jf,h1,n,t,p,q,b]) ω (by rw[B];simp[eX,h1,n,p,q]) D
theorem wj(x:List au):fz (.s .own (x.map (au.enc .own)))=.s .imm (x.map (au.enc .imm)):=(List.cons.inj (v7 x)).1
theorem rE(x:List a8):fz (.s .own (x.map (a8.enc .own)))=.s .imm (x.map (a8.enc .imm)):=(List.cons.inj (D0 x)).1
theorem tF(x:List bC):fz (.s .own (x.map (bC.enc .own)))=.s .imm (x.map (bC.enc .imm)):=(List.cons.inj (Gr x)).1
theorem Ap.dele{α:Type}{e:α->List C}{xs:List α}{i sz by_:Nat}{K:List (List C)->Prop}(a:∀y,(e y).length=sz)(b:∀y,aW (e y)=true)(h:xs.length<=1048576)(c:by_<=1000)(d:K ((Ab.dele xs i).map e)):Ap true ((xs.take i).map e) ((xs.drop (i+1)).map e) sz by_ K:=by
 have f:(xs.take i).length+(xs.drop (i+1)).length<=2097152:=by rw[I1,W2];omega
 refine CQ (aO a) (aO a) (λ_ r g=>by obtain⟨y,-,rfl⟩:=U3.1 g;exact b y) (by rw[W0,W0];omega) (by rw[W0,W0];exact t4 (Nat.mul_le_mul f c) (by decide)) ?_ d;unfold Ab.dele;rw[T4]
theorem H6(h:ab)(p:Int)(a:aG.sml h.Kernel.Machine.Table):ar Tryz.prog 348 false [.ptr (ab.enc .imm h),.val none [I p]] .one [I (ao h.Kernel.Machine.Table p).Mode]:=by
 refine fO 13 [] Tryz.func348 rfl ?_
 repeat'(first|refine gO ?_|(conv=>whnf);first|refine C9 ?_|refine C6 (cM h.Kernel.Machine.Table p a) ?_)
 rfl
def MM(h:ab):List C:=(bu h).drop 5
theorem Pc(h:ab)(k:af):bu {h with Kernel:=k} = af.enc .own k++MM h:=rfl
theorem AM(h:ab):MM h=[.s .own (h.Free.map (a7.enc .own)),.s .own (h.Spans.map (au.enc .own)),.s .own (h.Larges.map (a8.enc .own)),.s .own (h.Objs.map (bC.enc .own)),.s .own (h.Caches.map (aC.enc .own)),.s .own (h.Mail.Buffers.map (bT .own)),.s .own (h.Mail.Inbox.map (aD .own)),I h.Quar.Room,.s .own (h.Quar.Lst.map (aL.enc .own)),I h.Seed,I h.Clock,I h.Limit,I h.Next,B h.Meshing,I h.Job.Plan.Keep,I h.Job.Plan.Move,.s .imm (h.Job.Plan.Cells.map (rI .imm)),I h.Job.Phase,I h.Job.Next]:=rfl
theorem Hp(h:ab)(f:Int)(a:aG.sml h.Kernel.Machine.Table)(b:0<=f/\f<h.Kernel.Machine.Frames.Cells.length/\f<h.Kernel.Machine.Frames.Used.length) :
  aS Tryz.prog 349 false [.ptr (bu h),.val none [I f]] [.ptr (bu {h with Kernel:=gr h.Kernel f}),.val none [I f]] (.tup []) []:=by
 have c:=ah (xs:=h.Kernel.Machine.Frames.Cells) (i:=f.toNat) ω;have d:=ah (xs:=h.Kernel.Machine.Frames.Used) (i:=f.toNat) ω;rw[Pc h (gr h.Kernel f)];by_cases e:(pagesOn h.Kernel.Machine.Table f).length=0
 ·rw[xN e,AM]
  refine fM 30 [] [(2,8,[21,22,23,24,25,26,27,28])] [(0,0),(0,0)] Tryz.func349 rfl (λu q=>?_) (.inr trivial)
  repeat'(first|refine gA ?_|(conv=>whnf);first|with_reducible (first|refine CJ b.1 (aa d) ?_|refine CJ b.1 (aa c) ?_)|refine C9 ?_|refine CE (ge h.Kernel.Machine.Table f a) ⟨⟨rfl,CV h.Kernel.Machine.Table⟩,⟨rfl,rfl⟩,trivial⟩ ?_|refine CN rfl rfl (aa c) rfl (X0 rfl) rfl ?_|refine CN rfl rfl (aa d) rfl (X0 rfl) rfl ?_|refine Mk.mk 16 rfl rfl (by decide) (by decide) rfl ?_)
  refine CD rfl rfl ?_;exact wB
 ·rw[Df e]
  show aS _ _ _ [.ptr (bu h),_] [.ptr (bu h),_] _ _;refine fM 30 [] [(2,8,[21,22,23,24,25,26,27,28])] [(0,0),(0,0)] Tryz.func349 rfl (λu q=>?_) (.inr trivial)
  repeat'(first|refine gA ?_|(conv=>whnf);first|refine C9 ?_|refine CE (ge h.Kernel.Machine.Table f a) ⟨⟨rfl,CV h.Kernel.Machine.Table⟩,⟨rfl,rfl⟩,trivial⟩ ?_)
  refine CD rfl rfl ?_;exact wB
theorem lN(h:ab)(p:Int)(b:aA h.Kernel=true) :
  aS Tryz.prog 297 false [.ptr (bu h),.val none [I p]] [.ptr (bu {h with Kernel:=d4 h.Kernel p}),.val none [I p]] .one [B (decide ((ao h.Kernel.Machine.Table p).Mode≠0))]:=by
 have k:=b6 b;have c:=H6 h p k.1.2;by_cases a:(ao h.Kernel.Machine.Table p).Mode=0
 ·rw[show d4 h.Kernel p=h.Kernel by unfold d4;rw[C8 a]]
  refine fM 32 [(349,[2,0])] [] [(0,0),(0,0)] Tryz.func297 rfl (λu q=>?_)
  repeat'(first|refine gA ?_|(conv=>whnf);first|refine C9 ?_|refine CE (c) ⟨bz h,⟨rfl,rfl⟩,trivial⟩ ?_)
  refine CD rfl ?_ ?_
  ·exact T0 (λz=>[B z]) ((by simp[a]))
  ·exact wB
 ·obtain⟨l,r,n,d,o⟩:=ce b a
  have j:=(aT.1 (aB.1 b).2.1).2.2.1;rw[show d4 h.Kernel p=gr (ox h.Kernel p) (ao h.Kernel.Machine.Table p).Frame by unfold d4;rw[C7 a]];have e:=Hp {h with Kernel:=ox h.Kernel p} (ao h.Kernel.Machine.Table p).Frame (HR b) ⟨d,by simp only[ox];omega,by simp only[ox];omega⟩;rw[Pc h (ox h.Kernel p),KH,AM]at e;have g:=ah (xs:=h.Kernel.Machine.Table.Entries) (i:=p.toNat) ω;rw[n]at c e a |-;refine fM 32 [(349,[2,0])] [] [(0,0),(0,0)] Tryz.func297 rfl (λu q=>?_)
  repeat'(first|refine gA ?_|(conv=>whnf);first|with_reducible refine CJ l (aa g) ?_|refine C9 ?_|refine CE (c) ⟨bz h,⟨rfl,rfl⟩,trivial⟩ ?_|refine CN rfl rfl (aa g) rfl (X0 rfl) rfl ?_|refine CF rfl (aa g) rfl ?_|refine CG (e) (.inl rfl) ?_)
  refine CD rfl ?_ ?_
  ·exact T0 (λz=>[B z]) ((by simp[a]))
  ·exact wB
theorem sG(h:ab)(p:Int):ar Tryz.prog 290 false [.ptr (ab.enc .imm h),.val none [I p]] .one [B (gk h p)]:=by
 cases e:h.Meshing
 all_goals
  have b:ab.enc .imm h=(ab.enc .imm h).set 18 (B h.Meshing):=rfl;rw[e]at b;rw[b];refine fO 29 [] Tryz.func290 rfl ?_
  repeat'(first|refine gO ?_|(conv=>whnf);first|with_reducible (first|refine Bf.D (λa=>?_) (λa=>?_)|refine Bf.E (λa=>?_) (λa=>?_)|refine Bf.N (λa=>?_) (λa=>?_))|refine C9 ?_)
  all_goals exact T0 (λz=>[B z]) ((by unfold gk;rw[e];first|(simp[*];done)|(simp[*];rw[Z3];simp)))
theorem gl(h:ab):ar Tryz.prog 295 false [.ptr (ab.enc .imm h)] .one [I (dQ h:Nat)]:=by
 refine fO 11 [] Tryz.func295 rfl ?_
 repeat'(first|refine gO ?_|(conv=>whnf);first|refine C9 ?_)
 rfl
theorem pD(h:ab)(a:Int)(k:h.Objs.length<=1048576):ar Tryz.prog 53 false [.val (some 24) (ab.enc .imm h),.val none [I a]] .one [I (di (kE a) h.Objs)]:=by
 refine fO 22 [] Tryz.func53 rfl ?_
 repeat'(first|refine gO ?_|(conv=>whnf);first|refine C9 ?_)
 (conv=>whnf)
 refine CC (ι:=Nat) (λi=>[(1,.hold .one [I (a)]),(2,.hold .box (ab.enc .imm h)),(5,.hold .one [I ((i:Nat):Int)])]) (λi=>i<=h.Objs.length/\∀(j:Nat)(z:bC),j<i->h.Objs[j]? = some z->kE a z=false) (λi=>h.Objs.length - i) (0) ?_ (⟨R0 _,λj z l=>ω⟩) λi d=>?_
 ·exact wB
 obtain⟨d,c⟩:=d;by_cases g:i<h.Objs.length
 ·have b:=ah g
  by_cases e:(nth h.Objs i).Addr=a
  ·repeat'(first|refine gA ?_|(conv=>whnf);first|with_reducible refine CA (aa b) ?_|refine C9 ?_)
   exact T0 (λz=>[I z]) (dB b (by unfold kE;simp[e]) c).symm
  ·repeat'(first|refine gA ?_|(conv=>whnf);first|with_reducible refine CA (aa b) ?_|refine C9 ?_)
   ((conv=>whnf);refine CB (i+1) ⟨ω,cY b (by unfold kE;simp[e]) c⟩ ω ?_;(exact wB))
 ·repeat'(first|refine gD ?_|(conv=>whnf);first|refine C9 ?_)
  exact T0 (λz=>[I z]) (fH ω c).symm
theorem ly(h:ab)(i:Nat)(b:i<h.Objs.length)(a:h.Objs.length<=1048576):aS Tryz.prog 382 false [.ptr (bu h),.val none [I (i:Nat)]] [.ptr (bu {h with Objs:=dele h.Objs i}),.val none [I (i:Nat)]] (.tup []) []:=by
 refine fM 23 [] [(0,273,[4,5,6,7,8,9,10,11,13,14,15,16,17,18,19,21,22,0,1,2,3,4,5,6,7,9,10,11,12,13,14,15,8,1000,1009,1010,1011,1012,1013,1014,1015,16,1000,17,18,19]),(1048576,0,[8])] [(0,0),(0,0)] Tryz.func382 rfl (λu q=>?_) (.inr trivial)
 repeat'(first|refine gO ?_|(conv=>whnf);first|refine C9 ?_|refine DE.mk rfl (tF h.Objs) rfl ?_|refine CS i rfl (by rw[W0];omega) (aO λ_=>rfl) R3 ?_|refine Sl.suf (i+1) rfl (by rw[W0];omega) (aO λ_=>rfl) T3 ?_|refine CR (λ_=>rfl) (λ_=>rfl) (by rw[I1];omega) (by decide) ?_|refine Ap.dele (λ_=>rfl) (λ_=>rfl) a (by decide) ?_|refine CL (λ_=>rfl) (λ_=>rfl) (by rw[I1];omega) (by decide) ?_|refine C9 ?_)
 refine CD rfl rfl ?_;exact wB
theorem zR(h:ab)(E:List Int)(i:Nat)(b:bk h E)(e:i<h.Spans.length):aS Tryz.prog 392 false [.ptr (bu h),.val none [I (i:Nat)]] [.ptr (bu (giveP h i)),.val none [I (i:Nat)]] (.tup []) []:=by
 have a:=b.lens;have g:=a.spans;have c:=ah e;have j:=lN {h with Spans:=dele h.Spans i} (nth h.Spans i).Page b.ker;have d:=gl {h with Kernel:=d4 h.Kernel (nth h.Spans i).Page,Spans:=dele h.Spans i};rw[show dQ {h with Kernel:=d4 h.Kernel (nth h.Spans i).Page,Spans:=dele h.Spans i} = dQ h from(oW _ _).1]at d;have k:dQ h<=32:=a.ents;have l:=ky (dQ h:Nat) h.Free ⟨(nth h.Spans i).Page,1⟩ ⟨ω,ω⟩ ⟨by have:=a.free;omega,λ_ _=>trivial⟩;refine fM 52 [(297,[2,0])] [(1,273,[13,14,15,16,17,18,19,20,22,23,24,25,26,27,28,30,31,0,1,2,3,4,5,6,7,9,10,11,12,13,14,15,8,1000,1009,1010,1011,1012,1013,1014,1015,16,1000,17,18,19]),(1048577,0,[6]),(3,270,[38,39,40,41,42,43,44,45,47,37,48,49,50,51,0,1,2,3,4,5,6,7,8,1000,1001,1002,1003,1004,1005,1006,9,10,11,12,13,14,15,1012])] [(0,0),(0,0)] Tryz.func392 rfl (λu q=>?_) (.inr trivial)
 repeat'(first|refine gO ?_|(conv=>whnf);first|with_reducible refine CA (aa c) ?_|refine C9 ?_|refine DE.mk rfl (wj h.Spans) rfl ?_|refine CS i rfl (by rw[W0];omega) (aO λ_=>rfl) R3 ?_|refine Sl.suf (i+1) rfl (by rw[W0];omega) (aO λ_=>rfl) T3 ?_|refine CR (λ_=>rfl) (λ_=>rfl) (by rw[I1];omega) (by decide) ?_|refine Ap.dele (λ_=>rfl) (λ_=>rfl) ω (by decide) ?_|refine CL (λ_=>rfl) (λ_=>rfl) (by rw[I1];omega) (by decide) ?_|refine CF rfl (aa c) rfl ?_|refine C9 ?_|refine CG (j) (.inl rfl) ?_|refine CE (d) ⟨bz _,trivial⟩ ?_|refine CE (l) ⟨⟨rfl,rfl⟩,⟨rfl,dA h.Free⟩,⟨rfl,rfl⟩,trivial⟩ ?_)
 refine CD rfl rfl ?_;exact wB
theorem u7(h:ab)(i:Nat)(a:Int):bu (clrS h i a)=(bu h).set 6 (.s .own ((h.Spans.map (au.enc .own)).set i (au.enc .own (mn (nth h.Spans i) (dM (nth h.Spans i) a))))):=by
 simp[bu,clrS,X4]
theorem qu{α β:Type}{f:α->β}{xs:List α}{i:Nat}{y:β}(a:i<xs.length):((xs.map f).set i y)[i]? = some y:=by
 rw[Z2 (by rw[W0];exact a)]
theorem Ht{s:au}(c:bg s=true){a:Int}(b:eM s a):gR s a=(dM s a,0):=by
 unfold gR;rw[C8 ((fI c).2 ⟨b.1,b.2.1⟩),b.2.2.1];rfl
theorem lO(h:ab)(E:List Int)(a:Int)(c:bk h (a::E)):aS Tryz.prog 364 false [.ptr (bu h),.val none [I a]] [.ptr (bu (freeA h a)),.val none [I a]] (.tup []) []:=by
 obtain⟨g,n,t⟩:=c.at (c.hin a (O1 ..));have d:=(c.hin a (O1 ..)).bd c;have B:=c.lens;have C:=B.spans;have e:=c.L.sok _ (am g);have k:=iQ h (a / 16) ω;rw[t]at k;unfold freeA;generalize th h a=i at g n k e;have b:=ah g;have o:=sr (nth h.Spans i) a ⟨ω,ω⟩;rw[Ht e n]at o;have w:=x5 (nth h.Spans i) (dM (nth h.Spans i) a) e n.2.2.2;have D:=c.give g n;have l:=sG (clrS h i a) (nth h.Spans i).Page;rw[show gk (clrS h i a) (nth h.Spans i).Page=gk h (nth h.Spans i).Page from rfl]at l;have p:=zR (clrS h i a) E i D (by unfold clrS;simp only[C1];exact g);have r:=bz (clrS h i a);rw[u7]at p r;have j:((h.Spans.map (au.enc .own)).set i (au.enc .own (mn (nth h.Spans i) (dM (nth h.Spans i) a))))[i]? = some (au.enc .own (mn (nth h.Spans i) (dM (nth h.Spans i) a))):=qu g;unfold freeS;by_cases y:(mn (nth h.Spans i) (dM (nth h.Spans i) a)).Bits=0
 ·cases F:gk h (nth h.Spans i).Page<;>rw[F]at l
  ·rw[C8 ⟨y,rfl⟩]
   refine fM 68 [(392,[2,0])] [(2,274,[26,27,28,29,30,31,32,33,34,35,36,37,38,39,25,40,41,42,0,1,2,3,4,5,6,7,8,9,10,11,12,13,14,15,16,17,18,1016])] [(0,0),(0,0)] Tryz.func364 rfl (λu q=>?_) (.inr trivial)
   repeat'(first|refine gA ?_|(conv=>whnf);first|with_reducible refine CI ((T0 _ (tdiv16 d.1)).trans (eA ω ω)) ?_|refine C9 ?_|refine CK (by decide) ?_|refine CE (k) ⟨⟨rfl,bz h⟩,⟨rfl,rfl⟩,trivial⟩ ?_|refine CA (aa b) ?_|refine CA j ?_|refine CF rfl (aa b) rfl ?_|refine CF rfl j rfl ?_|refine C6 (o) ?_|refine C6 (w) ?_|refine C9 ?_|refine CN rfl rfl (aa b) rfl (X0 rfl) rfl ?_|refine CE (l) ⟨r,⟨rfl,rfl⟩,trivial⟩ ?_|refine CG (p) (.inl rfl) ?_)
   refine CD rfl rfl ?_;exact wB
  ·rw[C7 λx=>by cases x.2]
   rw[u7];refine fM 68 [(392,[2,0])] [(2,274,[26,27,28,29,30,31,32,33,34,35,36,37,38,39,25,40,41,42,0,1,2,3,4,5,6,7,8,9,10,11,12,13,14,15,16,17,18,1016])] [(0,0),(0,0)] Tryz.func364 rfl (λu q=>?_) (.inr trivial)
   repeat'(first|refine gA ?_|(conv=>whnf);first|with_reducible refine CI ((T0 _ (tdiv16 d.1)).trans (eA ω ω)) ?_|refine C9 ?_|refine CK (by decide) ?_|refine CE (k) ⟨⟨rfl,bz h⟩,⟨rfl,rfl⟩,trivial⟩ ?_|refine CA (aa b) ?_|refine CA j ?_|refine CF rfl (aa b) rfl ?_|refine CF rfl j rfl ?_|refine C6 (o) ?_|refine C6 (w) ?_|refine C9 ?_|refine CN rfl rfl (aa b) rfl (X0 rfl) rfl ?_|refine CE (l) ⟨r,⟨rfl,rfl⟩,trivial⟩ ?_|refine CG (p) (.inl rfl) ?_)
   refine CD rfl rfl ?_;exact wB
 ·rw[C7 λx=>y x.1]
  rw[u7];refine fM 68 [(392,[2,0])] [(2,274,[26,27,28,29,30,31,32,33,34,35,36,37,38,39,25,40,41,42,0,1,2,3,4,5,6,7,8,9,10,11,12,13,14,15,16,17,18,1016])] [(0,0),(0,0)] Tryz.func364 rfl (λu q=>?_) (.inr trivial)
  repeat'(first|refine gA ?_|(conv=>whnf);first|with_reducible refine CI ((T0 _ (tdiv16 d.1)).trans (eA ω ω)) ?_|refine C9 ?_|refine CK (by decide) ?_|refine CE (k) ⟨⟨rfl,bz h⟩,⟨rfl,rfl⟩,trivial⟩ ?_|refine CA (aa b) ?_|refine CA j ?_|refine CF rfl (aa b) rfl ?_|refine CF rfl j rfl ?_|refine C6 (o) ?_|refine C6 (w) ?_|refine C9 ?_|refine CN rfl rfl (aa b) rfl (X0 rfl) rfl ?_|refine CE (l) ⟨r,⟨rfl,rfl⟩,trivial⟩ ?_|refine CG (p) (.inl rfl) ?_)
  refine CD rfl rfl ?_;exact wB
theorem J3(h:ab)(t:Nat)(c:aC):bu {h with Caches:=h.Caches.set t c} = (bu h).set 9 (.s .own ((h.Caches.map (aC.enc .own)).set t (aC.enc .own c))):=by
 simp[bu,X4]
theorem m0(h:ab)(E:List Int)(t:Nat)(a:Int)(b:bk h (a::E))(w:t<h.Caches.length):aS Tryz.prog 384 false [.ptr (bu h),.val none [I (t:Nat)],.val none [I a]] [.ptr (bu (recyc t h a)),.val none [I (t:Nat)],.val none [I a]] (.tup []) []:=by
 obtain⟨o,y,p⟩:=b.at (b.hin a (O1 ..));have g:=(b.hin a (O1 ..)).bd b;have B:=b.lens;have C:=B.spans;have j:=aF (b.L.sok _ (am o));have r:=b.cach _ (am w);have l:=iQ h (a / 16) ω;rw[p]at l;have D:=lO h E a b;unfold recyc;generalize th h a=i at o y l j;have n:=ah o;have k:=ah w;have d:=wN (nth h.Caches t) (nth h.Spans i).Class.toNat a r ω;rw[Int.toNat_of_nonneg j.2.2.1]at d;unfold Ft at d;cases e:cput (nth h.Caches t) (nth h.Spans i).Class a with
 | none=>
  rw[e]at d;refine fM 46 [(364,[2,0])] [(1,277,[16,17,18,19,20,21,22,23,24,25,26,27,28,29,30,31,32,15,33,34,7,0,1,2,3,4,5,6,7,8,9,10,11,12,13,14,15,16,17,18,19,20,21,1019,22]),(3,6,[36,37,38,39,40,41])] [(0,0),(0,0),(0,0)] Tryz.func384 rfl (λu q=>?_) (.inr trivial)
  repeat'(first|refine gO ?_|(conv=>whnf);first|with_reducible refine CI ((T0 _ (tdiv16 g.1)).trans (eA ω ω)) ?_|refine C9 ?_|refine CK (by decide) ?_|refine CE (l) ⟨⟨rfl,bz h⟩,⟨rfl,rfl⟩,trivial⟩ ?_|refine CA (aa n) ?_|refine CA (aa k) ?_|refine CF rfl (aa n) rfl ?_|refine CF rfl (aa k) rfl ?_|refine CE (d) ⟨⟨rfl,aC.enc_fz _⟩,⟨rfl,rfl⟩,⟨rfl,rfl⟩,trivial⟩ ?_|refine C9 ?_|refine CG (D) (.inl rfl) ?_)
  refine CD rfl rfl ?_;exact wB
 | some c=>
  rw[e]at d;simp only;rw[J3];refine fM 46 [(364,[2,0])] [(1,277,[16,17,18,19,20,21,22,23,24,25,26,27,28,29,30,31,32,15,33,34,7,0,1,2,3,4,5,6,7,8,9,10,11,12,13,14,15,16,17,18,19,20,21,1019,22]),(3,6,[36,37,38,39,40,41])] [(0,0),(0,0),(0,0)] Tryz.func384 rfl (λu q=>?_) (.inr trivial)
  repeat'(first|refine gO ?_|(conv=>whnf);first|with_reducible refine CI ((T0 _ (tdiv16 g.1)).trans (eA ω ω)) ?_|refine C9 ?_|refine CK (by decide) ?_|refine CE (l) ⟨⟨rfl,bz h⟩,⟨rfl,rfl⟩,trivial⟩ ?_|refine CA (aa n) ?_|refine CA (aa k) ?_|refine CF rfl (aa n) rfl ?_|refine CF rfl (aa k) rfl ?_|refine CE (d) ⟨⟨rfl,aC.enc_fz _⟩,⟨rfl,rfl⟩,⟨rfl,rfl⟩,trivial⟩ ?_|refine C9 ?_|refine CN rfl rfl (aa k) rfl (X0 rfl) rfl ?_)
  refine CD rfl rfl ?_;exact wB
theorem oP(h:ab)(i:Nat)(d:bk h [])(o:i<h.Objs.length)(t:aN (nth h.Objs i).Size<0):aS Tryz.prog 380 false [.ptr (bu h),.val none [I (i:Nat)]] [.ptr (bu (freeL h i (xa h (nth h.Objs i).Addr))),.val none [I (i:Nat)]] (.tup []) []:=by
 obtain⟨l,w,y,-⟩:=(eN d (am o)).1 t;obtain⟨p,B,c,-⟩:=yL w y;generalize xa h (nth h.Objs i).Addr=g at p B c;have a:=d.lens;have C:=a.larges;have D:=a.objs;have b:=ah o;have N:=aU (d.L.lok _ (am p));have E:dQ h<=32:=a.ents;refine fM 89 [(297,[2,0]),(382,[2,0])] [(4,11,[23,24,25,26,27,28,29,30,31,32,33]),(8,7,[41,42,43,44,45,46,47]),(9,273,[50,51,52,53,54,55,56,57,58,59,60,62,49,63,64,65,66,0,1,2,3,4,5,6,7,8,9,10,11,1000,1001,1002,1003,1004,1005,1006,12,13,14,15,16,17,18,1015]),(10,273,[67,68,69,70,71,72,73,74,76,77,78,79,80,81,82,84,85,0,1,2,3,4,5,6,7,9,10,11,12,13,14,15,8,1000,1009,1010,1011,1012,1013,1014,1015,16,1000,17,18,19]),(1048586,0,[7])] [(0,0),(0,0)] Tryz.func380 rfl (λu q=>?_) (.inr trivial)
 repeat'(first|refine gO ?_|(conv=>whnf);first|refine C9 ?_)
 (conv=>whnf)
 refine CC (ι:=Nat) (λk=>[(0,.hold .box (bu h)),(1,.hold .one [I ((i:Nat):Int)]),(4,.hold .one [I ((k:Nat):Int)])]) (λk=>k<=g) (λk=>g - k) (0) ?_ (R0 _) λk O=>?_
 ·exact wB
 have j:=ah (xs:=h.Larges) (i:=k) ω;have F:=aU (d.L.lok _ (am (xs:=h.Larges) (i:=k) ω));have G:0<=(nth h.Objs i).Addr/\(nth h.Objs i).Addr<=512:=ω
 by_cases e:k=g
 ·subst e
  repeat'(first|refine gA ?_|(conv=>whnf);first|with_reducible refine CA (aa j) ?_|refine C9 ?_|refine CF rfl (aa j) rfl ?_|refine CF rfl (aa b) rfl ?_|refine CA (aa b) ?_)
  (conv=>whnf)
  refine CC (ι:=Nat) (λn=>[(0,.hold .box (bu {h with Kernel:=dC h.Kernel (nth h.Larges k).Page n})),(1,.hold .one [I ((i:Nat):Int)]),(4,.hold .one [I ((k:Nat):Int)]),(5,.hold .box (a8.enc .own (nth h.Larges k))),(6,.hold .one [I ((n:Nat):Int)])]) (λn=>n<=(nth h.Larges k).Pages.toNat) (λn=>(nth h.Larges k).Pages.toNat - n) (0) ?_ (R0 _) λn P=>?_
  ·exact wB
  by_cases Q:n<(nth h.Larges k).Pages.toNat
  ·have H:=lN {h with Kernel:=dC h.Kernel (nth h.Larges k).Page n} ((nth h.Larges k).Page+n) (kb d.ker _ _)
   repeat'(first|refine gD ?_|(conv=>whnf);first|refine C9 ?_|refine CG (H) (.inl rfl) ?_|refine C9 ?_)
   ((conv=>whnf);refine CB (n+1) ω ω ?_;(exact wB))
  ·obtain rfl:n=(nth h.Larges k).Pages.toNat:=ω
   have r:=gl {h with Kernel:=dC h.Kernel (nth h.Larges k).Page (nth h.Larges k).Pages.toNat};rw[show dQ {h with Kernel:=dC h.Kernel (nth h.Larges k).Page (nth h.Larges k).Pages.toNat} = dQ h from(gW _ _ _).1]at r;have J:=ky (dQ h:Nat) h.Free ⟨(nth h.Larges k).Page,(nth h.Larges k).Pages⟩ ⟨ω,ω⟩ ⟨by have:=a.free;omega,λ_ _=>trivial⟩;have K:=ly {h with Kernel:=dC h.Kernel (nth h.Larges k).Page (nth h.Larges k).Pages.toNat,Larges:=dele h.Larges k,Free:=(dl (dQ h) h.Free ⟨(nth h.Larges k).Page,(nth h.Larges k).Pages⟩).getD h.Free} i o (by show h.Objs.length<=_;omega)
   repeat'(first|refine gD ?_|(conv=>whnf);first|refine C9 ?_|refine DE.mk rfl (rE h.Larges) rfl ?_|refine CS k rfl (by rw[W0];omega) (aO λ_=>rfl) R3 ?_|refine Sl.suf (k+1) rfl (by rw[W0];omega) (aO λ_=>rfl) T3 ?_|refine CR (λ_=>rfl) (λ_=>rfl) (by rw[I1];omega) (by decide) ?_|refine Ap.dele (λ_=>rfl) (λ_=>rfl) ω (by decide) ?_|refine CL (λ_=>rfl) (λ_=>rfl) (by rw[I1];omega) (by decide) ?_|refine C9 ?_|refine CE (r) ⟨bz _,trivial⟩ ?_|refine CE (J) ⟨⟨rfl,rfl⟩,⟨rfl,dA h.Free⟩,⟨rfl,rfl⟩,trivial⟩ ?_|refine CG (K) (.inl rfl) ?_)
   refine CD rfl rfl ?_;exact wB
 ·have M:=c k ω
  repeat'(first|refine gA ?_|(conv=>whnf);first|with_reducible refine CA (aa j) ?_|refine C9 ?_|refine CF rfl (aa j) rfl ?_|refine CF rfl (aa b) rfl ?_|refine CA (aa b) ?_)
  ((conv=>whnf);refine CB (k+1) ω ω ?_;(exact wB))
def Nh(q:bB)(x:aL):List C:=bB.enc .own (GA q x)++bV .own (zV q x)
theorem LJ(q:bB)(x:aL):gh (Nh q x):=aP (bB.enc_fr _) (sQ _)
theorem zq(q:bB)(a:aL)(K:q.Lst.length<=4096)(e:fx q=true)(r:0<=a.Class/\a.Class<=3/\0<=a.Addr/\0<=a.Since)(t:∀y∈q.Lst,y.Since<=a.Since)(u:∀y∈q.Lst,y.Addr≠a.Addr) :
  ar Tryz.prog 383 false [.val (some 2) (bB.enc .imm q),.val (some 3) (aL.enc .imm a)] (.tup [some 2,none]) (Nh q a):=by
 have b:bB.sml q:=⟨ω,λ_ _=>trivial⟩
 have w:=qj q b;have l:=mF q b;rw[e]at l;have n:=ym a;rw[O0 r]at n;have o:=qE q a.Addr b;rw[show q.Lst.any (dD a.Addr)=false by rw[List.any_eq_false];intro y B;unfold dD;simpa using u y B]at o;have C:=(iU.1 e).2.2.2;have g:=LJ q a;have L:(aL.mk a.Addr a.Class a.Since)=a:=rfl;have c:=Dz q.Room (q.Lst++[a]);simp only[U2,List.length_singleton]at c;by_cases E:q.Lst.length=0
 all_goals
  try have h:(nth q.Lst (q.Lst.length - 1)).Since<=a.Since:=t _ (am ω)
  try have j:=ah (xs:=q.Lst) (i:=q.Lst.length - 1) ω
  try have d:q.Lst[((q.Lst.length:Int) - 1).toNat]? = some (nth q.Lst (q.Lst.length - 1)):=by rw[show((q.Lst.length:Int) - 1).toNat=q.Lst.length - 1 by omega];exact j
  refine fO 74 [(3,27,[15,16,17,18,19,20,21,22,23,24,25,26,27,28,29,30,31,32,33,34,35,36,37,38,39,40,41]),(7,6,[52,53,54,55,56,57]),(9,268,[61,62,63,64,65,66,67,69,70,71,72,73,0,1,2,3,4,5,6,8,9,10,11,12,7,1008,1009,1010,1011,1012,13,14])] Tryz.func383 rfl ?_ (.inr g)
  repeat'(first|refine gD ?_|(conv=>whnf);first|with_reducible refine Bf.D (λe=>?_) (λe=>?_)|refine C9 ?_|refine C6 (w) ?_|refine C6 (l) ?_|refine C6 (n) ?_|refine C6 (o) ?_|refine CJ ω (aa d) ?_|refine Ap.sm (aO λ_=>rfl) rfl (by simp;omega) (by decide) (gY (aL.enc .own) q.Lst a) ?_)
  (conv=>whnf)
  refine Lp.fz 8 (ι:=Nat) (λk=>[(2,.hold .box (bB.enc .imm q)),(4,.hold .box [I 0,.z]),(8,.hold .one (bV .imm (q.Lst++[a]))),(9,.hold .one [I (k:Nat)])]) (λk=>k<=m6 q.Room (q.Lst++[a])) (λk=>m6 q.Room (q.Lst++[a]) - k) 0 ?_ (R0 _) λk M=>?_
  ·(repeat'(first|exact trivial|rfl|exact CH rfl (show Ks (dw (bV .own (q.Lst++[a]))) (bV .imm (q.Lst++[a])) by rw[AI];exact kL _)|refine CH ?_ ?_))
  have N:(q.Lst++[a]).length=q.Lst.length+1:=by simp
  have F:((q.Lst++[a]).drop k).length<=5000:=by rw[W2];omega
  have G:((q.Lst++[a]).take k).length<=5000:=by rw[I1];omega
  have p:=sN ((q.Lst++[a]).drop k) ⟨ω,λ_ _=>trivial⟩;by_cases H:k<m6 q.Room (q.Lst++[a])
  ·have J:q.Room<quarCells ((q.Lst++[a]).drop k) ((q.Lst++[a]).drop k).length:=xO H
   repeat'(first|refine gD ?_|(conv=>whnf);first|refine C9 ?_|refine Sl.suf k rfl (by rw[W0];omega) (aO λ_=>rfl) T3 ?_|refine C6 (p) ?_|refine C9 ?_)
   ((conv=>whnf);refine CB (k+1) ω ω ?_;(exact wB))
  ·obtain rfl:k=m6 q.Room (q.Lst++[a]):=ω
   have J:quarCells ((q.Lst++[a]).drop (m6 q.Room (q.Lst++[a]))) ((q.Lst++[a]).drop (m6 q.Room (q.Lst++[a]))).length<=q.Room:=zr C.1 _
   repeat'(first|refine gD ?_|(conv=>whnf);first|refine C9 ?_|refine Sl.suf (m6 q.Room (q.Lst++[a])) rfl (by rw[W0];omega) (aO λ_=>rfl) T3 ?_|refine CS (m6 q.Room (q.Lst++[a])) rfl (by rw[W0];omega) (aO λ_=>rfl) R3 ?_|refine C6 (p) ?_|refine C9 ?_|refine CR (λ_=>rfl) (λ_=>rfl) ω (by decide) ?_|refine CL (λ_=>rfl) (λ_=>rfl) ω (by decide) ?_)
   rfl
theorem nl{z:Int}(h:0<=z/\z<512):IntKind.i64.wrap (z.tdiv 16)=z / 16:=(T0 _ (tdiv16 h.1)).trans (eA ω ω)
theorem lR{h:ab}{E:List Int}(a:bk h E){o:bC}(b:o∈h.Objs):0<=o.Addr/\o.Addr<512:=by
 rcases a.oow o b with⟨s,c,⟨f,g,-⟩,-⟩|⟨l,d,e,-⟩
 ·have:=aF (a.L.sok s c);omega
 ·have:=aU (a.L.lok l d);omega
theorem Kr{k:Int}(h:0<=k/\k<=3):1<=csz k/\csz k<=8:=by
 rcases co h with e|e|e|e<;>rw[e]<;>decide
structure Pp(h:ab)(o:bC):Prop where
 cl:0<=aN o.Size/\aN o.Size<=3
 fr:0<=(ao h.Kernel.Machine.Table (o.Addr / 16)).Frame/\(ao h.Kernel.Machine.Table (o.Addr / 16)).Frame<h.Kernel.Machine.Frames.Cells.length
 fit:o.Addr % 16+csz (aN o.Size)<=16
 row:(nth h.Kernel.Machine.Frames.Cells (dh h.Kernel o.Addr)).length=16
theorem Pp.of{h:ab}{E:List Int}(b:bk h E){o:bC}(l:o∈h.Objs)(q:¬aN o.Size<0):Pp h o:=by
 obtain⟨⟨s,d,f,r⟩,B⟩:=(eN b l).2 q;have t:=aF (b.L.sok s d);have u:=lR b l;have n:s.Page=o.Addr / 16:=by have C:=f.1;have D:=f.2.1;omega
 have c:(o.Addr / 16).toNat<(tbl h).Entries.length:=by have:=b.pg.bnd _ (dr (la:=h.Larges) d);omega
 have a:(((o.Addr / 16).toNat:Nat):Int)=o.Addr / 16:=ω
 have p:=(b.pg.own _ c).2 (by rw[a,<-n];exact dr d);have g:(ao h.Kernel.Machine.Table (o.Addr / 16)).Mode≠0:=by rw[<-a];unfold tbl at p c;rw[kv c];exact p
 obtain⟨-,-,-,i,w⟩:=ce b.ker g;have y:=(aT.1 (aB.1 b.ker).2.1).2.2.1;have j:dh h.Kernel o.Addr<h.Kernel.Machine.Frames.Cells.length:=by unfold dh;omega
 refine⟨ω,⟨i,ω⟩,?_,b.lens.row _ (am j)⟩;have A:=f.2.2.1;rw[n,<-r]at *;rcases co (k:=s.Class) ⟨ω,ω⟩ with e|e|e|e<;>rw[e]at A |-<;>omega
theorem FA(h:ab)(a:Int)(b:dh h.Kernel a<h.Kernel.Machine.Frames.Cells.length):({h with Kernel:=fN h.Kernel a 0} : ab)=h:=by
 have e:h.Kernel.Machine.Frames.Cells.set (dh h.Kernel a) (nth h.Kernel.Machine.Frames.Cells (dh h.Kernel a))=h.Kernel.Machine.Frames.Cells:=by
  refine List.ext_getElem? λi=>?_
  rw[C3];split
  ·rename_i e
   subst e;exact(ah b).symm
  ·rfl
 unfold fN kU;rw[e]
theorem AF(h:ab)(a:Int)(k:Nat)(v:Int)(_:0<=a):bu {h with Kernel:=fN h.Kernel a (k+1)} = (bu {h with Kernel:=fN h.Kernel a k}).set 0 (.s .own (((fN h.Kernel a k).Machine.Frames.Cells.map (aD .own)).set (ao h.Kernel.Machine.Table (a / 16)).Frame.toNat ((aD .own (kU (nth h.Kernel.Machine.Frames.Cells (dh h.Kernel a)) (a % 16).toNat k)).set 0 (.s .own (((kU (nth h.Kernel.Machine.Frames.Cells (dh h.Kernel a)) (a % 16).toNat k).map (rI .own)).set (a % 16+k).toNat (splice (rI .own v) 0 [I 0])))))):=by
 have e:(a % 16+k).toNat=(a % 16).toNat+k:=ω
 rw[e];simp[bu,fN,X4,kU,aD,splice,dh]
 rfl
theorem Dd(t:Nat)(h:ab)(xs:List aL)(k:Nat)(a:k<xs.length):recycs t h ((xs.take (k+1)).map (·.Addr))=recyc t (recycs t h ((xs.take k).map (·.Addr))) (nth xs k).Addr:=by
 unfold recycs;rw[Q4,ah a];simp
theorem DN(h:ab)(o:bC)(t:Nat)(a:bk h [])(P:o∈h.Objs)(ht:o.Thread=t)(hlc:h.Caches.length<=4):aS Tryz.prog 354 false [.ptr (bu h),.val none [I (t:Nat)],.val none [I o.Addr]] [.ptr (bu (freeOb h t (ny h o.Addr)).1),.val none [I (t:Nat)],.val none [I o.Addr]] .one [I (freeOb h t (ny h o.Addr)).2]:=by
 obtain⟨l,B,C⟩:=a.objAt P;have b:=lR a P;have hon:=a.onu o P;have d:=a.lens;have hno:=d.objs;have E:t<h.Caches.length:=ω
 have M:=aE (t:Nat) 0 (h.Caches.length - 1:Int);rw[O0 ω]at M;have F:=pD h o.Addr ω;rw[C]at F;generalize ny h o.Addr=i at l B F;subst B;have r:=ah l;have Q:=jh (nth h.Objs i).Size;unfold freeOb;have R:=b6 a.ker;have Z:=cM h.Kernel.Machine.Table ((nth h.Objs i).Addr / 16) R.1.2;by_cases w:aN (nth h.Objs i).Size<0
 ·rw[C8 w]
  have c3:=oP h i a l w;refine fM 148 [(380,[2,0]),(382,[2,0]),(384,[2,0,0]),(379,[2,0])] [(15,269,[68,69,70,71,72,73,74,75,77,67,78,79,11,0,1,2,3,4,5,6,7,13,8,1000,1001,1002,1003,1004,1013,9,10,11,12,14,1012,15]),(22,15,[92,93,94,95,96,97,98,99,100,101,102,103,104,105,106]),(25,271,[116,117,118,119,120,121,122,123,124,125,127,115,128,129,14,0,1,2,3,4,5,6,7,8,9,15,10,1000,1001,1002,1003,1015,11,12,13,14,16,1014,17])] [(0,0),(0,0),(0,0)] Tryz.func354 rfl (λu q=>?_)
  repeat'(first|refine gD ?_|(conv=>whnf);first|with_reducible refine Bf.D (λn=>?_) (λn=>?_)|refine C9 ?_|refine C6 (M) ?_|refine CE (F) ⟨⟨rfl,bz h⟩,⟨rfl,rfl⟩,trivial⟩ ?_|refine CA (aa r) ?_|refine CF rfl (aa r) rfl ?_|refine C6 (Q) ?_|refine CG (c3) (.inl rfl) ?_)
  refine CD rfl rfl ?_;exact wB
 rw[C7 w];obtain⟨S,s2,s3,s4⟩:=Pp.of a (am l) w;by_cases N:(ao (tbl h) ((nth h.Objs i).Addr / 16)).Mode=1
 ·rw[C8 N]
  unfold tbl at N;refine fM 148 [(380,[2,0]),(382,[2,0]),(384,[2,0,0]),(379,[2,0])] [(15,269,[68,69,70,71,72,73,74,75,77,67,78,79,11,0,1,2,3,4,5,6,7,13,8,1000,1001,1002,1003,1004,1013,9,10,11,12,14,1012,15]),(22,15,[92,93,94,95,96,97,98,99,100,101,102,103,104,105,106]),(25,271,[116,117,118,119,120,121,122,123,124,125,127,115,128,129,14,0,1,2,3,4,5,6,7,8,9,15,10,1000,1001,1002,1003,1015,11,12,13,14,16,1014,17])] [(0,0),(0,0),(0,0)] Tryz.func354 rfl (λu q=>?_)
  repeat'(first|refine gA ?_|(conv=>whnf);first|with_reducible refine Bf.D (λn=>?_) (λn=>?_)|refine C9 ?_|refine CK (by decide) ?_|refine CI (nl b) ?_|refine C6 (M) ?_|refine CE (F) ⟨⟨rfl,bz h⟩,⟨rfl,rfl⟩,trivial⟩ ?_|refine CA (aa r) ?_|refine CF rfl (aa r) rfl ?_|refine C6 (Q) ?_|refine CE (Z) ⟨⟨rfl,CV _⟩,⟨rfl,rfl⟩,trivial⟩ ?_)
  refine CD rfl rfl ?_;exact wB
 rw[C7 N];unfold tbl at N;have G:dh h.Kernel (nth h.Objs i).Addr<h.Kernel.Machine.Frames.Cells.length:=by unfold dh;omega
 have hcz:=Kr S;have g:=a.inQuar l w;have H:=dt (aN (nth h.Objs i).Size);refine fM 148 [(380,[2,0]),(382,[2,0]),(384,[2,0,0]),(379,[2,0])] [(15,269,[68,69,70,71,72,73,74,75,77,67,78,79,11,0,1,2,3,4,5,6,7,13,8,1000,1001,1002,1003,1004,1013,9,10,11,12,14,1012,15]),(22,15,[92,93,94,95,96,97,98,99,100,101,102,103,104,105,106]),(25,271,[116,117,118,119,120,121,122,123,124,125,127,115,128,129,14,0,1,2,3,4,5,6,7,8,9,15,10,1000,1001,1002,1003,1015,11,12,13,14,16,1014,17])] [(0,0),(0,0),(0,0)] Tryz.func354 rfl (λu q=>?_)
 repeat'(first|refine gA ?_|(conv=>whnf);first|with_reducible refine Bf.D (λn=>?_) (λn=>?_)|refine C9 ?_|refine CK (by decide) ?_|refine CI (nl b) ?_|refine C6 (M) ?_|refine CE (F) ⟨⟨rfl,bz h⟩,⟨rfl,rfl⟩,trivial⟩ ?_|refine CA (aa r) ?_|refine CF rfl (aa r) rfl ?_|refine C6 (Q) ?_|refine CE (Z) ⟨⟨rfl,CV _⟩,⟨rfl,rfl⟩,trivial⟩ ?_)
 rw[show bu h=bu {h with Kernel:=fN h.Kernel (nth h.Objs i).Addr 0} by rw[FA h _ G]]
 (conv=>whnf)
 refine CC (ι:=Nat) (λk=>[(0,.hold .box (bu {h with Kernel:=fN h.Kernel (nth h.Objs i).Addr k})),(1,.hold .one [I ((t:Nat):Int)]),(2,.hold .one [I ((nth h.Objs i).Addr)]),(7,.hold .one [I ((i:Nat):Int)]),(8,.hold .box (bC.enc .own (nth h.Objs i))),(9,.hold .one [I (aN (nth h.Objs i).Size)]),(10,.hold .box (aZ.enc .own (ao h.Kernel.Machine.Table ((nth h.Objs i).Addr / 16)))),(13,.hold .one [I ((k:Nat):Int)])]) (λk=>k<=(csz (aN (nth h.Objs i).Size)).toNat) (λk=>(csz (aN (nth h.Objs i).Size)).toNat - k) (0) ?_ (R0 _) λk hk=>?_
 ·exact wB
 have hmod:IntKind.i64.wrap 0=0:=rfl;have T:(nth h.Objs i).Addr.tmod 16=(nth h.Objs i).Addr % 16:=dI b.1;have p:(fN h.Kernel (nth h.Objs i).Addr k).Machine.Frames.Cells[(ao h.Kernel.Machine.Table ((nth h.Objs i).Addr / 16)).Frame.toNat]? = some (kU (nth h.Kernel.Machine.Frames.Cells (dh h.Kernel (nth h.Objs i).Addr)) ((nth h.Objs i).Addr % 16).toNat k):=Z2 G;by_cases O:k<(csz (aN (nth h.Objs i).Size)).toNat
 ·have J:=ah (xs:=kU (nth h.Kernel.Machine.Frames.Cells (dh h.Kernel (nth h.Objs i).Addr)) ((nth h.Objs i).Addr % 16).toNat k) (i:=((nth h.Objs i).Addr % 16+k).toNat) (by rw[ot,s4];omega)
  repeat'(first|refine gD ?_|(conv=>whnf);first|refine C9 ?_|refine CK (by decide) ?_|refine CM T ?_|refine C6 (H) ?_|refine CJ s2.1 (aa p) ?_|refine CF rfl (aa p) rfl ?_|refine CJ ω (aa J) ?_|refine Pu.two rfl rfl (aa p) rfl rfl rfl (aa J) rfl (Q2 _) (AF h _ k _ b.1) ?_)
  ((conv=>whnf);refine CB (k+1) ω ω ?_;(exact wB))
 ·obtain rfl:k=(csz (aN (nth h.Objs i).Size)).toNat:=ω
  have c5:=ly {h with Kernel:=fN h.Kernel (nth h.Objs i).Addr (csz (aN (nth h.Objs i).Size)).toNat} i l (by show h.Objs.length<=_;omega);have j:=a.nums;unfold cj at j;rw[C0]at j;have K:=(a.dropO l (iV.any (c:=aN (nth h.Objs i).Size) (by obtain⟨⟨s,hs,k1,k2⟩,-⟩:=(eN a (am l)).2 w;exact⟨s,hs,k1,.inr k2⟩))).nd;rw[List.cons_append,List.nil_append]at K;have c6:=zq h.Quar (kB h (nth h.Objs i)) (by have:=d.quar;omega) a.quar ⟨S.1,S.2,b.1,j.2.2.1⟩ (λy U=>a.snc y U) (λy U e=>(List.nodup_cons.1 K).1 (by rw[show(nth h.Objs i).Addr=y.Addr from e.symm];unfold holders;simp only[O2];exact .inl (.inr (U3.2 ⟨y,U,rfl⟩))));unfold Nh at c6;have V:(zV h.Quar (kB h (nth h.Objs i))).length<=513:=by have:=d.quar;unfold zV;rw[I1,U2];simp only[List.length_singleton];omega
  repeat'(first|refine gA ?_|(conv=>whnf);first|with_reducible refine Bf.D (λn=>?_) (λn=>?_)|refine C9 ?_|refine C6 (H) ?_|refine CG (c5) (.inl rfl) ?_|refine CE (c6) ⟨⟨rfl,bB.enc_fz h.Quar⟩,⟨rfl,rfl⟩,trivial⟩ ?_|refine C9 ?_)
  have W:HT h t i=recycs t (inQuar h i) ((zV h.Quar (kB h (nth h.Objs i))).map (·.Addr)):=rfl;simp only;rw[W];have hqn:(inQuar h i).Caches.length=h.Caches.length:=rfl;generalize zV h.Quar (kB h (nth h.Objs i))=out at g V
  (conv=>whnf)
  refine CC (ι:=Nat) (λk=>[(0,.hold .box (bu (recycs t (inQuar h i) ((out.take k).map (·.Addr))))),(1,.hold .one [I ((t:Nat):Int)]),(15,.hold .one (bV .own out)),(16,.hold .one [I ((k:Nat):Int)])]) (λk=>k<=out.length) (λk=>out.length - k) (0) ?_ (R0 _) λk hk=>?_
  ·exact wB
  by_cases O:k<out.length
  ·have L:=ah O
   have X:out.map (·.Addr)=(out.take k).map (·.Addr)++(nth out k).Addr::(out.drop (k+1)).map (·.Addr):=by
    conv=>lhs;rw[<-List.take_append_drop k out,iI O]
    simp
   have Y:bk (recycs t (inQuar h i) ((out.take k).map (·.Addr))) ((nth out k).Addr::(out.drop (k+1)).map (·.Addr)):=bk.recycs (by rw[<-X];exact g) E;have c7:=m0 _ _ t _ Y (by rw[(iH t _ _).1];exact E)
   repeat'(first|refine gD ?_|(conv=>whnf);first|refine C9 ?_|refine CA (aa L) ?_|refine CF rfl (aa L) rfl ?_|refine CG (c7) (.inl rfl) ?_)
   ((conv=>whnf);refine CB (k+1) ω ω ?_)
   rw[Dd t _ out k O];exact wB
  ·obtain rfl:k=out.length:=ω
   rw[z4]
   repeat'(first|refine gD ?_|(conv=>whnf);first|refine C9 ?_)
   refine CD rfl rfl ?_;exact wB
def oE(rows:List (List C)):C:=match rows with|[]=>.s .imm []|_=>.s .own rows
set_option maxRecDepth 100000
theorem dv(c:C):Mp c c:=(kL [c]).1
def cE(h:ab)(s l o:C):List C:=[.s .own (h.Kernel.Machine.Frames.Cells.map (aD .own)),.s .own (h.Kernel.Machine.Frames.Used.map (rB .own)),.s .own (h.Kernel.Machine.Table.Entries.map (aZ.enc .own)),I h.Kernel.Calls,.s .own (h.Kernel.Refuse.map (rI .own)),.s .own (h.Free.map (a7.enc .own)),s,l,o,.s .own (h.Caches.map (aC.enc .own)),.s .own (h.Mail.Buffers.map (bT .own)),.s .own (h.Mail.Inbox.map (aD .own)),I h.Quar.Room,.s .own (h.Quar.Lst.map (aL.enc .own)),I h.Seed,I h.Clock,I h.Limit,I h.Next,B h.Meshing,I h.Job.Plan.Keep,I h.Job.Plan.Move,.s .own (h.Job.Plan.Cells.map (rI .own)),I h.Job.Phase,I h.Job.Next]
def oS(h:ab):C:=oE (h.Spans.map (au.enc .own))
def oL(h:ab):C:=oE (h.Larges.map (a8.enc .own))
def oO(h:ab):C:=oE (h.Objs.map (bC.enc .own))
def xC(h:ab):List C:=cE h (oS h) (oL h) (oO h)
theorem Jh(rows:List (List C)):fz (oE rows)=fz (.s .own rows):=by cases rows<;>rfl
theorem NJ(h:ab){s l o:C}(a:fz s=.s .imm (h.Spans.map (au.enc .imm)))(b:fz l=.s .imm (h.Larges.map (a8.enc .imm)))(c:fz o=.s .imm (h.Objs.map (bC.enc .imm))):dw (cE h s l o)=ab.enc .imm h:=by
 have d:=CT h;have e:dw (cE h s l o)=(((dw (ab.enc .own h)).set 6 (fz s)).set 7 (fz l)).set 8 (fz o):=rfl;rw[e,d,a,b,c];rfl
theorem NT(h:ab):fz (oS h)=.s .imm (h.Spans.map (au.enc .imm)):=(Jh _).trans (wj _)
theorem Pn(h:ab):fz (oL h)=.s .imm (h.Larges.map (a8.enc .imm)):=(Jh _).trans (rE _)
theorem NP(h:ab):fz (oO h)=.s .imm (h.Objs.map (bC.enc .imm)):=(Jh _).trans (tF _)
theorem Fr(h:ab):dw (xC h)=ab.enc .imm h:=NJ h (NT h) (Pn h) (NP h)
theorem EY{rows:List (List C)}(h:MD rows):Nc (oE rows):=by cases rows with|nil=>exact⟨.inr rfl,trivial⟩|cons r a=>exact⟨.inl λe=>(by cases e),h⟩
theorem zZ(h:ab):gh (xC h):=by
 have a:=ab.enc_fr h;simp only[ab.enc,gh]at a;unfold xC cE;simp only[gh];refine⟨a.1,a.2.1,a.2.2.1,a.2.2.2.1,a.2.2.2.2.1,a.2.2.2.2.2.1,EY ?_,EY ?_,EY ?_,a.2.2.2.2.2.2.2.2.2⟩
 ·exact a.2.2.2.2.2.2.1.2
 ·exact a.2.2.2.2.2.2.2.1.2
 ·exact a.2.2.2.2.2.2.2.2.1.2
theorem DK{w:World}{S Y:ac}{rows:List (List C)}{v:Value}(h:dJ w S Y (.s .own rows) v):dJ w S Y (oE rows) v:=by
 cases rows with
 | cons=>exact h
 | nil=>
  cases h with
  | nil _ o a d=>exact .nil _ .imm a trivial
  | own _ o g k n e rows u f d i j b c l p q r t=>simp at i;omega
theorem KD{w:World}{S Y:ac}{h:ab}{u:Nat->Value}(d:cB w S Y (ab.enc .own h) u):cB w S Y (xC h) u:=by
 obtain⟨f,b,e,g⟩:=d;refine⟨f,λj c a=>?_,e,g⟩;have i:xC h=(((ab.enc .own h).set 6 (oS h)).set 7 (oL h)).set 8 (oO h):=rfl;rw[i]at a;by_cases k:j=8
 ·subst k
  have:c=oO h:=by simpa[ab.enc] using a.symm
  rw[this];exact DK (b 8 _ rfl)
 by_cases l:j=7
 ·subst l
  have:c=oL h:=by simpa[ab.enc] using a.symm
  rw[this];exact DK (b 7 _ rfl)
 by_cases n:j=6
 ·subst n
  have:c=oS h:=by simpa[ab.enc] using a.symm
  rw[this];exact DK (b 6 _ rfl)
 ·rw[List.getElem?_set_ne ω,List.getElem?_set_ne ω,List.getElem?_set_ne ω]at a
  exact b j c a
theorem EQ(h:ab)(a:ab.sml h):ar Tryz.prog 65 false [.val (some 24) (ab.enc .imm h)] .agg (xC h):=by
 obtain⟨b,c⟩:=x9 h a;refine⟨b,λw S d g i=>(c w S d g i).mono λe w1 j=>?_⟩;obtain⟨v,k,l,X,S1,n,o,p,q,r⟩:=j;exact⟨v,k,l,X,S1,n,o,p,q,KD r⟩
theorem ml{c a:C}(h:a=c):Mp c a:=by subst h;exact dv _
def GS(c:aC)(k:Nat):aC:=⟨c.Lists.set k []⟩
theorem Lt(c:aC)(k:Nat):aC.enc .own (GS c k)=[.s .own ((c.Lists.map (aD .own)).set k (aD .own []))]:=by simp[aC.enc,GS,X4]
theorem HZ(xs:List Int):([]:List Int).map (rI .imm)=(xs.map (rI .imm)).drop xs.length:=by rw[List.drop_eq_nil_of_le (by rw[W0];omega)];rfl
theorem Kk(xs:List Int):xs.map (rI .imm)=(xs.map (rI .imm)).take xs.length:=by rw[Q5 (by rw[W0];omega)]
def Px(c:aC)(k:Nat):List C:=aC.enc .own (GS c k)++aD .own (nth c.Lists k)
theorem N6(c:aC)(k:Nat):gh (Px c k):=aP (aC.enc_fr _) (bI _)
theorem sX(c:aC)(k:Nat)(d:bt c=true)(p:k<=3):ar Tryz.prog 390 false [.val (some 1) (aC.enc .imm c),.val none [I (k:Nat)],.val none [I 8]] (.tup [some 1,none]) (Px c k):=by
 obtain⟨q,e⟩:=dZ d;have g:aC.sml c:=⟨ω,λl j=>by have:=e l j;show l.length<=1048576;omega⟩
 have h:=wt c k g;rw[d,O0 ω]at h;have n:=gU c g;have a:=rm (c:=c) (k:=k) ω;have o:=e _ (am (xs:=c.Lists) (i:=k) ω);have b:=N6 c k;unfold Px at b |-;rw[Lt]at b |-;refine fO 52 [(5,268,[29,30,31,32,33,34,35,36,37,38,39,41,0,1,2,3,4,5,6,7,8,9,10,11,1000,1001,1002,12,13]),(6,265,[42,43,44,45,46,47,48,49,50,0,1,2,3,4,5,6,7,8,9,1000,10,11])] Tryz.func390 rfl ?_ (.inr b)
 repeat'(first|refine gO ?_|(conv=>whnf);first|with_reducible refine CA (aa a) ?_|refine C9 ?_|refine CF rfl (aa a) rfl ?_|refine C6 (h) ?_|refine C6 (n) ?_|refine CM (z:=((nth c.Lists k).length:Int)) (by simp;omega) ?_|refine Sl.suf (nth c.Lists k).length rfl (by rw[W0];omega) (aO λ_=>rfl) (HZ _) ?_|refine CS (nth c.Lists k).length rfl (by rw[W0];omega) (aO λ_=>rfl) (Kk _) ?_|refine C9 ?_|refine CR (λ_=>rfl) (λ_=>rfl) (by simp) (by decide) ?_|refine CL (λ_=>rfl) (λ_=>rfl) (by simp) (by decide) ?_|refine CR (λ_=>rfl) (λ_=>rfl) ω (by decide) ?_|refine CL (λ_=>rfl) (λ_=>rfl) ω (by decide) ?_|refine CN rfl rfl (aa a) rfl (X0 rfl) rfl ?_)
 rfl
theorem mR{k:Int} : ∀{l s s2 c:List Int},(∀x∈s2,x∈s)->pI k s l=some c->(∀x∈s,x∈c)/\∃d,pI k s2 l=some d/\∀x∈d,x∈c
 | [],s,s2,c,h,e=>by
  simp only[pI,U0]at e |-;subst e;exact⟨λ_ h=>h,s2,rfl,h⟩
 | a::l,s,s2,c,h,e=>by
  simp only[pI]at e |-;split at e
  ·rename_i g
   rw[C8 (show good k s2 a from⟨g.1,g.2.1,g.2.2.1,λx=>g.2.2.2 (h a x)⟩)];obtain⟨f,i⟩:=mR (l:=l) (s:=s++[a]) (s2:=s2++[a]) (λx b=>by
     rcases O2.1 b with b|b
     · exact O2.2 (.inl (h x b))
     · exact O2.2 (.inr b)) e
   exact⟨λx b=>f x (O2.2 (.inl b)),i⟩
  ·cases e
theorem rg:∀{a:List (List Int)}{k:Nat}{s s2:List Int},(∀x∈s2,x∈s)->(fC k s a).isSome=true->(fC k s2 a).isSome=true
 | [],_,_,_,_,_=>rfl
 | l::a,k,s,s2,h,e=>by
  simp only[fC,dK]at e |-;split at e
  ·rename_i g
   rw[C8 g];cases b:pI k s l with
   | none=>rw[b]at e;cases e
   | some i=>
    rw[b]at e;obtain⟨-,c,d,f⟩:=mR h b;rw[d];exact rg f e
  ·cases e
theorem Dv:∀{a:List (List Int)}{k:Nat}{s s2:List Int}(i:Nat),(∀x∈s2,x∈s)->(fC k s a).isSome=true->(fC k s2 (a.set i [])).isSome=true
 | [],_,_,_,_,_,_=>rfl
 | l::a,k,s,s2,i,h,e=>by
  simp only[fC,dK]at e;split at e
  ·rename_i g
   cases b:pI k s l with
   | none=>rw[b]at e;cases e
   | some o=>
    rw[b]at e;obtain⟨c,d,f,j⟩:=mR h b;cases i with
    | zero=>
     simp only[List.set_cons_zero,fC,dK];rw[C8 ⟨by simp,g.2⟩];exact rg (λx n=>c x (h x n)) e
    | succ i=>
     simp only[List.set_cons_succ,fC,dK];rw[C8 g,f];exact Dv i j e
  ·cases e
theorem MT{c:aC}(h:bt c=true)(k:Nat):bt (GS c k)=true:=by
 unfold bt at h |-;simp only[I0,C0]at h |-;exact⟨by simp only[GS,C1];exact h.1,Dv k (λ_ h=>h) h.2⟩
def spilt(h:ab)(t k:Nat):ab:={h with Caches:=h.Caches.set t (GS (nth h.Caches t) k)}
theorem bk.spilt{h:ab}{E:List Int}{t k:Nat}(f:bk h E)(i:t<h.Caches.length)(n:k<(nth h.Caches t).Lists.length):bk (spilt h t k) (nth (nth h.Caches t).Lists k++E):=by
 have p:(E++holders h).Perm (nth (nth h.Caches t).Lists k++E++holders (Ab.spilt h t k)):=by
  refine List.perm_iff_count.2 λb=>?_
  have r:=gS (λc:aC=>c.Lists.flatten) b h.Caches t (GS (nth h.Caches t) k) i;have q:=gS (λx:List Int=>x) b (nth h.Caches t).Lists k [] n;rw[<-jL,<-jL]at q;simp only[List.count_nil]at q;simp only[GS]at r;simp only[holders,ch,Ab.spilt,GS,W4];omega
 have g:∀c∈(Ab.spilt h t k).Caches,c∈h.Caches\/c=GS (nth h.Caches t) k:=λc u=>t5 u
 exact {f with
   nc:=by show(h.Caches.set ..).length=_;rw[C1];exact f.nc
   cach:=λc a=>by
     rcases g c a with a|rfl
     · exact f.cach c a
     · exact MT (f.cach _ (am i)) k
   onu:=by show ∀o∈h.Objs,1<=o.Id/\o.Id<=h.Next - 1/\0<=o.Thread/\o.Thread<=(h.Caches.set t _).length - 1;rw[C1];exact f.onu
   hca:=λc a j l b d=>by
     rcases g c a with a|rfl
     · exact f.hca c a j l b d
     · simp only[GS,C1]at l
       simp only[GS,bS]at d;by_cases e:k=j
       · subst e
         rw[C8 ⟨rfl,l⟩]at d;cases d
       · rw[C7 λx=>e x.1]at d
         exact f.hca _ (am i) _ l b d
   hin:=λb d=>by
     rcases O2.1 d with d|d
     · exact(f.hca _ (am i) k n b d).any
     · exact f.hin b d
   nd:=p.nodup_iff.1 f.nd
   mem:=λb=>by rw[<-p.mem_iff];exact f.mem b}
def freeAs(h:ab)(az:List Int):ab:=az.foldl freeA h
theorem kr:∀(az:List Int)(h:ab),(freeAs h az).Caches=h.Caches/\(freeAs h az).Objs=h.Objs/\(freeAs h az).Kernel.Calls=h.Kernel.Calls/\(freeAs h az).Mail=h.Mail/\(freeAs h az).Job=h.Job/\(freeAs h az).Clock=h.Clock/\(freeAs h az).Quar=h.Quar/\(freeAs h az).Kernel.Refuse=h.Kernel.Refuse
 | [],h=>⟨rfl,rfl,rfl,rfl,rfl,rfl,rfl,rfl⟩
 | a::az,h=>by
  obtain⟨b,c,d,e,f,g,i,j⟩:=kr az (freeA h a);obtain⟨k,l,n,o,p,q,r,t⟩:=vX h (th h a) a;exact⟨b.trans k,c.trans l,d.trans n,e.trans o,f.trans p,g.trans q,i.trans r,j.trans t⟩
theorem bk.freeAs{E:List Int} : ∀{az:List Int}{h:ab},bk h (az++E)->bk (freeAs h az) E
 | [],_,b=>b
 | a::az,h,b=>bk.freeAs (az:=az) (h:=Ab.freeA h a) b.freeA
theorem sC(h:ab)(az:List Int)(k:Nat)(a:k<az.length):freeAs h (az.take (k+1))=freeA (freeAs h (az.take k)) (nth az k):=by
 rw[Q4,ah a];simp[freeAs]
def flushN(t:Nat)(h:ab):Nat->ab × Nat
 | 0=>(h,0)
 | k+1=>(freeAs (spilt (flushN t h k).1 t k) (nth (nth (flushN t h k).1.Caches t).Lists k),(flushN t h k).2+(nth (nth (flushN t h k).1.Caches t).Lists k).length)
theorem jE{t:Nat}{h:ab}(c:bk h [])(e:t<h.Caches.length):∀{k:Nat},k<=4->bk (flushN t h k).1 []/\(flushN t h k).1.Caches.length=h.Caches.length/\(flushN t h k).1.Kernel.Calls=h.Kernel.Calls/\(flushN t h k).1.Objs=h.Objs/\(flushN t h k).1.Mail=h.Mail/\(flushN t h k).1.Job=h.Job/\(flushN t h k).2<=8*k
 | 0,_=>⟨c,rfl,rfl,rfl,rfl,rfl,R0 _⟩
 | k+1,y=>by
  obtain⟨d,f,g,i,j,l,A⟩:=jE c e (k:=k) ω;have a:t<(flushN t h k).1.Caches.length:=ω
  obtain⟨B,n⟩:=dZ (d.cach _ (am a));have b:k<(nth (flushN t h k).1.Caches t).Lists.length:=ω
  have o:=d.spilt a b;have C:=n _ (am b);obtain⟨p,q,r,u,w,-⟩:=kr (nth (nth (flushN t h k).1.Caches t).Lists k) (Ab.spilt (flushN t h k).1 t k);refine⟨bk.freeAs o,?_,r.trans g,q.trans i,u.trans j,w.trans l,?_⟩
  ·show(Ab.freeAs _ _).Caches.length=_
   rw[p];simp only[Ab.spilt,C1];exact f
  ·simp only[flushN];omega
theorem B8{h:ab}{t k:Nat}(d:bk h [])(e:t<h.Caches.length)(j:k<4):t<(flushN t h k).1.Caches.length/\bt (nth (flushN t h k).1.Caches t)=true/\k<(nth (flushN t h k).1.Caches t).Lists.length/\(nth (nth (flushN t h k).1.Caches t).Lists k).length<=8/\(flushN t h k).2<=8*k:=by
 obtain⟨f,l,-,-,-,-,g⟩:=jE d e (k:=k) ω;have a:t<(flushN t h k).1.Caches.length:=ω
 have c:=f.cach _ (am a);obtain⟨n,i⟩:=dZ c;have b:k<(nth (flushN t h k).1.Caches t).Lists.length:=ω
 exact⟨a,c,b,i _ (am b),g⟩
theorem KC{h:ab}{t k j:Nat}(a:bk h [])(b:t<h.Caches.length)(d:k<4)(e:j<(nth (nth (flushN t h k).1.Caches t).Lists k).length):bk (freeAs (spilt (flushN t h k).1 t k) ((nth (nth (flushN t h k).1.Caches t).Lists k).take j)) (nth (nth (nth (flushN t h k).1.Caches t).Lists k) j::(nth (nth (flushN t h k).1.Caches t).Lists k).drop (j+1)):=by
 obtain⟨f,g⟩:=B8 a b d;have c:=((jE a b (k:=k) ω).1).spilt f g.2.1;rw[List.append_nil]at c;refine bk.freeAs ?_;rw[<-iI e,List.take_append_drop];exact c
theorem xn(h:ab)(t:Nat)(i:bk h [])(l:t<h.Caches.length):aS Tryz.prog 362 false [.ptr (bu h),.val none [I (t:Nat)]] [.ptr (bu (flushN t h 4).1),.val none [I (t:Nat)]] .one [I ((flushN t h 4).2:Nat)]:=by
 refine fM 48 [(364,[2,0])] [(6,6,[26,27,28,29,30,31])] [(0,0),(0,0)] Tryz.func362 rfl (λu q=>?_)
 repeat'(first|refine gO ?_|fail)
 (conv=>whnf)
 refine CC (ι:=Nat) (λk=>[(0,.hold .box (bu (flushN t h k).1)),(1,.hold .one [I ((t:Nat):Int)]),(5,.hold .one [I (((flushN t h k).2:Nat):Int)]),(6,.hold .one [I ((k:Nat):Int)])]) (λk=>k<=4) (λk=>4 - k) (0) ?_ (R0 _) λk D=>?_
 ·repeat'(first|exact trivial|rfl |exact ml a|exact dv _|refine CH ?_ ?_|(exact yD (by first|omega|(simp only;omega)|(simp;omega))))
 by_cases n:k<4
 ·obtain⟨o,p,E,F,G⟩:=B8 i l n
  have r:=sX (nth (flushN t h k).1.Caches t) k p ω;have c:=λj=>KC i l n (j:=j)
  have e:=ah o;have w:(flushN t h (k+1)).1=freeAs (spilt (flushN t h k).1 t k) (nth (nth (flushN t h k).1.Caches t).Lists k):=rfl;have y:(flushN t h (k+1)).2=(flushN t h k).2+(nth (nth (flushN t h k).1.Caches t).Lists k).length:=rfl;have a:C.s dy.own ((spilt (flushN t h k).1 t k).Caches.map (aC.enc .own))=C.s dy.own (((flushN t h k).1.Caches.map (aC.enc .own)).set t (aC.enc .own (GS (nth (flushN t h k).1.Caches t) k))):=by simp[spilt,X4]
  repeat'(first|refine gD ?_|(conv=>whnf);first|refine CA (aa e) ?_|refine CF rfl (aa e) rfl ?_|refine CE (r) ⟨⟨rfl,aC.enc_fz _⟩,⟨rfl,rfl⟩,⟨rfl,rfl⟩,trivial⟩ ?_|refine C9 ?_|refine CN rfl rfl (aa e) rfl (X0 rfl) rfl ?_)
  generalize (flushN t h k).1=d at *;generalize (flushN t h k).2=m at *
  (conv=>whnf)
  refine CC (ι:=Nat) (λj=>[(0,.hold .box (bu (freeAs (spilt d t k) ((nth (nth d.Caches t).Lists k).take j)))),(1,.hold .one [I ((t:Nat):Int)]),(5,.hold .one [I (((m+j):Nat):Int)]),(6,.hold .one [I ((k:Nat):Int)]),(8,.hold .one (aD .own (nth (nth d.Caches t).Lists k))),(9,.hold .one [I ((j:Nat):Int)])]) (λj=>j<=(nth (nth d.Caches t).Lists k).length) (λj=>(nth (nth d.Caches t).Lists k).length - j) (0) ?_ (R0 _) λj H=>?_
  ·repeat'(first|exact trivial|rfl |exact ml a|exact dv _|refine CH ?_ ?_|(exact yD (by first|omega|(simp only;omega)|(simp;omega))))
  by_cases g:j<(nth (nth d.Caches t).Lists k).length
  ·have b:=ah g
   have B:=lO _ _ _ (c j g)
   repeat'(first|refine gD ?_|(conv=>whnf);first|refine CA (aa b) ?_|refine CF rfl (aa b) rfl ?_|refine CG (B) (.inl rfl) ?_)
   ((conv=>whnf);refine CB (j+1) ω ω ?_)
   rw[sC _ _ _ g];exact wC
  ·obtain rfl:j=(nth (nth d.Caches t).Lists k).length:=ω
   rw[z4]
   repeat'(first|refine gD ?_|fail)
   ((conv=>whnf);refine CB (k+1) ω ω ?_)
   rw[w,y];exact wC
 ·obtain rfl:k=4:=ω
  repeat'(first|refine gD ?_|fail)
  refine CD rfl rfl ?_;exact wC
def FY(s:Int):Int:=(1103515245*s+12345) % 1073741824
theorem EH(s:Int):0<=FY s/\FY s<=1073741823:=by unfold FY;omega
theorem w9(s:Int)(b:0<=s/\s<=1073741823):ar Tryz.prog 377 false [.val none [I s]] .one [I (FY s)]:=by
 have a:=aE s 0 1073741823;rw[O0 b]at a;refine fO 10 [] Tryz.func377 rfl ?_
 repeat'(first|refine gO ?_|(conv=>whnf);first|refine C9 ?_|refine CM (z:=FY s) (dI ω) ?_|refine C6 (a) ?_|refine CK (by decide) ?_)
 rfl
def JQ(s n:Int):Int:=FY s / 1024 % n
theorem tW(s:Int){n:Int}(h:1<=n):0<=JQ s n/\JQ s n<n:=⟨Int.emod_nonneg _ ω,Int.emod_lt_of_pos _ ω⟩
theorem sF(s n:Int)(b:0<=s/\s<=1073741823)(c:1<=n/\n<=1000):ar Tryz.prog 343 false [.val none [I s],.val none [I n]] (.tup [none,none]) [I (JQ s n),I (FY s)]:=by
 have d:=aE s 0 1073741823;have e:=aE n 1 1000;rw[O0 b]at d;rw[O0 c]at e;have g:=EH s;have i:=tW s c.1;have a:(FY s).tdiv 1024=FY s / 1024:=Int.tdiv_eq_ediv_of_nonneg g.1;have h:((FY s).tdiv 1024).tmod n=JQ s n:=by rw[a];exact dI ω
 refine fO 23 [] Tryz.func343 rfl ?_ (.inr ⟨trivial,trivial,trivial⟩)
 repeat'(first|refine gO ?_|(conv=>whnf);first|refine C9 ?_|refine C6 (d) ?_|refine C6 (e) ?_|refine C6 (w9 s b) ?_|refine CK (by decide) ?_|refine CK ω ?_|refine CM h ?_|refine CI (eA (by rw[a];omega) (by rw[a];omega)) ?_)
 rfl
def pN(n:Nat):List Int:=(List.range n).map λ(i:Nat)=>(i:Int)
theorem Ey(n:Nat):pN (n+1)=pN n++[(n:Int)]:=by unfold pN;rw[List.range_succ,T4];rfl
theorem yf(n:Nat):(pN n).length=n:=by simp[pN]
def vP(xs:List Int)(i k:Nat):List Int:=(xs.set i (nth xs k)).set k (nth xs i)
theorem Hj(xs:List Int)(i k:Nat):(vP xs i k).length=xs.length:=by simp[vP]
def gu(n:Nat)(s:Int):Nat->List Int × Int
 | 0=>(pN n,s)
 | j+1=>(vP (gu n s j).1 (n - 1 - j) (JQ (gu n s j).2 ((n - 1 - j:Nat)+1:Int)).toNat,FY (gu n s j).2)
theorem kT(n:Nat){s:Int}(a:0<=s/\s<=1073741823):∀j,(gu n s j).1.length=n/\0<=(gu n s j).2/\(gu n s j).2<=1073741823
 | 0=>⟨yf n,a⟩
 | j+1=>⟨by simp only[gu,Hj];exact(kT n a j).1,EH _⟩
def shuf(n:Nat)(s:Int):List Int × Int:=gu n s (n - 1)
theorem Kn(xs:List Int)(i k:Nat):(vP xs i k).map (rI .own)=((xs.map (rI .own)).set i (rI .own (nth xs k))).set k (rI .own (nth xs i)):=by simp[vP,X4]
theorem G2{xs:List Int}{i k:Nat}(v:Int)(a:k<xs.length):((xs.map (rI .own)).set i (rI .own v))[k]? = some (rI .own (nth (xs.set i v) k)):=by
 rw[<-X4];exact aa (ah (by rw[C1];exact a))
theorem wW(n:Nat)(s:Int)(d:0<=s/\s<=1073741823)(w:n<=64):ar Tryz.prog 393 false [.val none [I s],.val none [I (n:Nat)]] (.tup [none,none]) (aD .own (shuf n s).1++[I (shuf n s).2]):=by
 have e:=aE s 0 1073741823;have g:=aE (n:Nat) 0 64;rw[O0 d]at e;rw[O0 ω]at g;refine fO 63 [] Tryz.func393 rfl ?_ (.inr (aP (bI _) ⟨trivial,trivial⟩))
 repeat'(first|refine gO ?_|(conv=>whnf);first|refine C9 ?_|refine C6 (e) ?_|refine C6 (g) ?_)
 (conv=>whnf)
 refine CC (ι:=Nat) (λk=>[(0,.hold .one [I (s)]),(1,.hold .one [I ((n:Nat):Int)]),(6,.hold .one (aD .own (pN k))),(7,.hold .one [I ((k:Nat):Int)])]) (λk=>k<=n) (λk=>n - k) (0) ?_ (R0 _) λk y=>?_
 ·exact wB
 have h:=yf k;by_cases B:k<n
 ·repeat'(first|refine gD ?_|(conv=>whnf);first|refine C9 ?_|refine Ap.sm (aO λ_=>rfl) rfl (by simp;omega) (by decide) (gY (rI .own) (pN k) (k:Int)) ?_)
  ((conv=>whnf);refine CB (k+1) ω ω ?_)
  rw[Ey];exact wB
 ·obtain rfl:k=n:=ω
  repeat'(first|refine gD ?_|(conv=>whnf);first|refine C9 ?_)
  (conv=>whnf)
  refine CC (ι:=Nat) (λj=>[(0,.hold .one [I ((gu k s j).2)]),(6,.hold .one (aD .own (gu k s j).1)),(8,.hold .one [I (((k:Int) - 1 - j))])]) (λj=>(j<=k - 1/\j<=k)) (λj=>k - j) (0) ?_ (⟨R0 _,R0 _⟩) λj C=>?_
  ·exact wB
  obtain⟨D,l,o⟩:=kT k d j;by_cases E:j<k - 1
  ·have q:(k:Int) - 1 - j=((k - 1 - j:Nat):Int):=ω
   have r:=tW (gu k s j).2 (n:=((k - 1 - j:Nat)+1:Int)) ω;have t:=sF (gu k s j).2 ((k - 1 - j:Nat)+1:Int) ⟨l,o⟩ ω;have u:gu k s (j+1)=(vP (gu k s j).1 (k - 1 - j) (JQ (gu k s j).2 ((k - 1 - j:Nat)+1:Int)).toNat,FY (gu k s j).2):=rfl;rw[q];generalize gu k s j=p at *;obtain⟨xs,z⟩:=p;simp only at *;generalize k - 1 - j=i at *;have a:=ah (xs:=xs) (i:=i) ω;have b:=ah (xs:=xs) (i:=(JQ z (i+1)).toNat) ω;have c:=G2 (xs:=xs) (i:=i) (k:=(JQ z (i+1)).toNat) (nth xs (JQ z (i+1)).toNat) ω
   repeat'(first|refine gD ?_|(conv=>whnf);first|refine C9 ?_|refine C6 (t) ?_|refine CJ ω (aa b) ?_|refine CA (aa a) ?_|refine CF rfl (aa a) rfl ?_|refine CF rfl (aa b) rfl ?_|refine CN rfl rfl (aa a) rfl (X0 rfl) rfl ?_|refine CJ ω c ?_|refine CN rfl rfl c rfl (X0 rfl) rfl ?_)
   ((conv=>whnf);refine CB (j+1) ω ω ?_)
   rw[u];simp only[aD,Kn];exact wB
  ·obtain rfl:j=k - 1:=ω
   repeat'(first|refine gD ?_|(conv=>whnf);first|refine C9 ?_)
   rfl
def zl(b:Int):Nat->Nat
 | 0=>0
 | n+1=>zl b n+(if aY b (n:Nat)=true then 1 else 0)
theorem yF(b:Int):∀n,zl b n<=n
 | 0=>Q2 _
 | n+1=>by have:=yF b n;simp only[zl];split<;>omega
theorem t7(b:Int)(d:b<=9223372036854775807):ar Tryz.prog 112 false [.val none [I b]] .one [I (zl b 16:Nat)]:=by
 refine fO 15 [] Tryz.func112 rfl ?_
 repeat'(first|refine gO ?_|fail)
 (conv=>whnf)
 refine CC (ι:=Nat) (λk=>[(0,.hold .one [I (b)]),(3,.hold .one [I ((zl b k:Nat):Int)]),(4,.hold .one [I ((k:Nat):Int)])]) (λk=>k<=16) (λk=>16 - k) (0) ?_ (R0 _) λk g=>?_
 ·exact wB
 have h:=yF b k;by_cases i:k<16
 ·have a:=ia b (k:Nat) d
  have c:zl b (k+1)=zl b k+(if aY b (k:Nat)=true then 1 else 0):=rfl;cases e:aY b (k:Nat)<;>rw[e]at a c
  all_goals
   repeat'(first|refine gD ?_|(conv=>whnf);first|refine C6 (a) ?_)
   ((conv=>whnf);refine CB (k+1) ω ω ?_)
   rw[c];exact wB
 ·obtain rfl:k=16:=ω
  repeat'(first|refine gD ?_|fail)
  rfl
def yj(h:ab)(s:au):Bool:=decide (0<zl s.Bits 16)&&decide ((aQ h s.Page).length=1)
def ku(h:ab):Nat->List au
 | 0=>[]
 | n+1=>if yj h (nth h.Spans n)=true then ku h n++[nth h.Spans n] else ku h n
def l9(h:ab):List au:=ku h h.Spans.length
theorem uM(h:ab):∀n,(ku h n).length<=n
 | 0=>Q2 _
 | n+1=>by have:=uM h n;simp only[ku];split<;>simp<;>omega
theorem nP(h:ab):∀{n:Nat},n<=h.Spans.length->∀s∈ku h n,s∈h.Spans
 | 0,_,s,a=>by cases a
 | n+1,b,s,a=>by
  simp only[ku]at a;split at a
  ·rcases O2.1 a with a|a
   ·exact nP h ω s a
   ·rw[Z0.1 a];exact am ω
  ·exact nP h ω s a
theorem ux(h:ab)(j:xA h)(q:h.Spans.length<=1000)(r:dQ h<=1000)(l:∀s∈h.Spans,s.Bits<=9223372036854775807):ar Tryz.prog 38 false [.val (some 24) (ab.enc .imm h)] .one (bP .own (l9 h)):=by
 refine fO 42 [(5,16,[13,14,15,16,17,18,19,20,21,22,23,24,25,26,27,28])] Tryz.func38 rfl ?_ (.inr (Eh _))
 repeat'(first|refine gO ?_|fail)
 (conv=>whnf)
 refine CC (ι:=Nat) (λk=>[(1,.hold .box (ab.enc .imm h)),(3,.hold .one (bP .own (ku h k))),(4,.hold .one [I ((k:Nat):Int)])]) (λk=>k<=h.Spans.length) (λk=>h.Spans.length - k) (0) ?_ (R0 _) λk t=>?_
 ·exact wB
 have n:=uM h k;by_cases e:k<h.Spans.length
 ·have c:=ah e
  have d:=t7 (nth h.Spans k).Bits (l _ (am e));have b:=gx h (nth h.Spans k).Page j;have o:=gt h (nth h.Spans k).Page;have p:=yF (nth h.Spans k).Bits 16;have a:ku h (k+1)=if yj h (nth h.Spans k)=true then ku h k++[nth h.Spans k] else ku h k:=rfl
  by_cases g:0<zl (nth h.Spans k).Bits 16
  ·by_cases i:(aQ h (nth h.Spans k).Page).length=1
   ·rw[C8 (by unfold yj;simp[g,i])]at a
    repeat'(first|refine gA ?_|(conv=>whnf);first|refine CA (aa c) ?_|refine C6 (d) ?_|refine CE (b) ⟨⟨rfl,rfl⟩,⟨rfl,rfl⟩,trivial⟩ ?_|refine C6 (b) ?_|refine C9 ?_|refine Ap.sm (aO λ_=>rfl) rfl (by simp;omega) (by decide) (gY (au.enc .own) (ku h k) (nth h.Spans k)) ?_)
    ((conv=>whnf);refine CB (k+1) ω ω ?_)
    rw[a];exact wB
   ·rw[C7 (by unfold yj;simp[i])]at a
    repeat'(first|refine gA ?_|(conv=>whnf);first|refine CA (aa c) ?_|refine C6 (d) ?_|refine C6 (b) ?_|refine C9 ?_)
    ((conv=>whnf);refine CB (k+1) ω ω ?_)
    rw[a];exact wB
  ·rw[C7 (by unfold yj;simp[g])]at a
   repeat'(first|refine gD ?_|(conv=>whnf);first|refine CA (aa c) ?_|refine C6 (d) ?_|refine C6 (b) ?_|refine C9 ?_)
   ((conv=>whnf);refine CB (k+1) ω ω ?_)
   rw[a];exact wB
 ·obtain rfl:k=h.Spans.length:=ω
  repeat'(first|refine gD ?_|fail)
  rfl
def yK(s:au)(c:Nat):Bool:=aY s.Bits (((c:Nat):Int) / csz s.Class)
def tQ(s:au)(n:Nat):List Int:=((List.range n).filter (yK s)).map λ(i:Nat)=>(i:Int)
theorem Mx{s:au}{n:Nat}(h:yK s n=true):tQ s (n+1)=tQ s n++[(n:Int)]:=by
 unfold tQ;rw[List.range_succ,List.filter_append,T4];simp[h]
theorem Nl{s:au}{n:Nat}(h:yK s n=false):tQ s (n+1)=tQ s n:=by
 unfold tQ;rw[List.range_succ,List.filter_append,T4];simp[h]
theorem qp(s:au)(n:Nat):(tQ s n).length<=n:=by
 unfold tQ;rw[W0];exact t4 (List.length_filter_le _ _) (by simp)
theorem L1{s:au}(a:bg s=true){c:Nat}(d:c<16):0<=((c:Nat):Int) / csz s.Class/\((c:Nat):Int) / csz s.Class<=15:=by
 have f:=aF a;have b:csz s.Class=1\/csz s.Class=2\/csz s.Class=4\/csz s.Class=8:=co ω;rcases b with e|e|e|e<;>rw[e]<;>omega
theorem nt(s:au)(a:bg s=true):ar Tryz.prog 394 false [.val (some 3) (au.enc .imm s)] .one (aD .own (tQ s 16)):=by
 have b:=fR s;rw[a]at b;have g:=aF a;have n:=co g.2.2;refine fO 27 [(5,7,[14,15,16,17,18,19,20])] Tryz.func394 rfl ?_ (.inr (bI _))
 repeat'(first|refine gO ?_|fail)
 (conv=>whnf)
 refine CC (ι:=Nat) (λi=>[(1,.hold .box (au.enc .imm s)),(3,.hold .one (aD .own (tQ s i))),(4,.hold .one [I ((i:Nat):Int)])]) (λi=>i<=16) (λi=>16 - i) (0) ?_ (R0 _) λi o=>?_
 ·exact wB
 have h:=qp s i;by_cases j:i<16
 ·have k:=L1 a j
  have d:IntKind.i64.wrap (((i:Nat):Int).tdiv (csz s.Class))=((i:Nat):Int) / csz s.Class:=by rw[mW ω];exact eA ω ω
  have c:=ia s.Bits (((i:Nat):Int) / csz s.Class) (eE a).2;cases e:yK s i
  ·rw[show aY s.Bits (((i:Nat):Int) / csz s.Class)=false from e]at c
   repeat'(first|refine gD ?_|(conv=>whnf);first|refine C6 (b) ?_|refine C6 (dt _) ?_|refine CK ω ?_|refine CI d ?_|refine C6 (c) ?_)
   ((conv=>whnf);refine CB (i+1) ω ω ?_)
   rw[Nl e];exact wB
  ·rw[show aY s.Bits (((i:Nat):Int) / csz s.Class)=true from e]at c
   repeat'(first|refine gD ?_|(conv=>whnf);first|refine C6 (b) ?_|refine C6 (dt _) ?_|refine CK ω ?_|refine CI d ?_|refine C6 (c) ?_|refine CQ cq (λr l=>by rw[Z0.1 l];rfl) (by simp[aW,dz]) (by simp;omega) (by simp only[W0];exact wY (by simp;omega) (by decide)) rfl ?_)
   ((conv=>whnf);refine CB (i+1) ω ω ?_)
   rw[Mx e]
   (repeat'(first|exact trivial|rfl|exact CH rfl (CH (T0 (C.s dy.own) (by simp[rI])) trivial)|refine CH ?_ ?_))
 ·obtain rfl:i=16:=ω
  repeat'(first|refine gD ?_|(conv=>whnf);first|refine C6 (b) ?_)
  rfl
structure f9 where
 A:Int
 B:Int
deriving DecidableEq,Inhabited
def f9.enc(_:dy)(x:f9):List C:=[I x.A,I x.B]
def iB(o:dy)(x:List f9):List C:=[.s o (x.map (f9.enc o))]
theorem Ec(x:List f9):gh (iB .own x):=⟨⟨.inl λh=>(by cases h),bc _ _ λ_ _=>⟨trivial,trivial,trivial⟩⟩,trivial⟩
def Ms(i:Int)(p:f9):Bool:=decide (p.A=i) || decide (p.B=i)
def d2(a b:au):cg:=if(tQ a 16).length<(tQ b 16).length then⟨b.Page,a.Page,tQ a 16⟩ else⟨a.Page,b.Page,tQ b 16⟩
theorem x7(a b:au)(g:meshable a b=true)(h:bg a=true)(i:bg b=true):ar Tryz.prog 366 false [.val (some 3) (au.enc .imm a),.val (some 3) (au.enc .imm b)] (.tup [some 3,none]) (cg.enc .own (d2 a b)++[B true]):=by
 have c:=kw a b;rw[g]at c;have d:=nt a h;have e:=nt b i;have j:=qp a 16;have k:=qp b 16;unfold d2;split
 ·refine fO 27 [(3,6,[11,12,13,14,15,16]),(5,6,[20,21,22,23,24,25])] Tryz.func366 rfl ?_ (.inr (aP (cg.enc_fr _) ⟨trivial,trivial⟩))
  repeat'(first|refine gD ?_|(conv=>whnf);first|refine C6 (c) ?_|refine C6 (d) ?_|refine C6 (e) ?_|refine C9 ?_)
  rfl
 ·refine fO 27 [(3,6,[11,12,13,14,15,16]),(5,6,[20,21,22,23,24,25])] Tryz.func366 rfl ?_ (.inr (aP (cg.enc_fr _) ⟨trivial,trivial⟩))
  repeat'(first|refine gD ?_|(conv=>whnf);first|refine C6 (c) ?_|refine C6 (d) ?_|refine C6 (e) ?_|refine C9 ?_)
  rfl
def vc(p:cg):bW:=⟨p,0,0⟩
theorem Bq(p:cg)(c:ec p=true)(a:cg.sml p):ar Tryz.prog 367 false [.val (some 3) (cg.enc .imm p)] (.tup [some 5,none]) (bW.enc .own (vc p)++[B true]):=by
 have b:=sO p a;rw[c]at b;have d:=pY (vc p) a;refine fO 11 [] Tryz.func367 rfl ?_ (.inr (aP (bW.enc_fr _) ⟨trivial,trivial⟩))
 repeat'(first|refine gO ?_|(conv=>whnf);first|refine C6 (b) ?_|refine C6 (d) ?_)
 rfl
theorem rO(n:Nat){s:Int}(c:0<=s/\s<=1073741823):∀{j:Nat},j<=n - 1->∀x∈(gu n s j).1,0<=x/\x<n
 | 0,_,x,a=>by
  simp only[gu,pN,U3,List.mem_range]at a;obtain⟨i,d,rfl⟩:=a;omega
 | j+1,e,x,a=>by
  have f:=(kT n c j).1;have b:=rO n c (j:=j) ω;have g:=tW (gu n s j).2 (n:=((n - 1 - j:Nat)+1:Int)) ω;simp only[gu,vP]at a;rcases t5 a with a|rfl
  ·rcases t5 a with a|rfl
   ·exact b x a
   ·exact b _ (am ω)
  ·exact b _ (am ω)
def tkn(out:List f9)(a:Int):Bool:=out.any (Ms a)
def stp(a:List au)(p:List Int)(t i:Nat)(out:List f9):List f9:=
 if tkn out (nth p i)=false/\tkn out (nth p (p.length / 2+(i+t) % (p.length - p.length / 2)))=false/\meshable (nth a (nth p i).toNat) (nth a (nth p (p.length / 2+(i+t) % (p.length - p.length / 2))).toNat)=true then out++[⟨nth p i,nth p (p.length / 2+(i+t) % (p.length - p.length / 2))⟩] else out
def tw(a:List au)(p:List Int)(t:Nat)(out:List f9):Nat->List f9
 | 0=>out
 | i+1=>stp a p t i (tw a p t out i)
def pe(a:List au)(p:List Int):Nat->List f9
 | 0=>[]
 | t+1=>tw a p t (pe a p t) (p.length / 2)
theorem L9(a:List au)(p:List Int)(t i:Nat)(out:List f9):(stp a p t i out).length<=out.length+1:=by unfold stp;split<;>simp
theorem tX(a:List au)(p:List Int)(t:Nat)(out:List f9):∀i,(tw a p t out i).length<=out.length+i
 | 0=>Q2 _
 | i+1=>by have b:=tX a p t out i;have c:=L9 a p t i (tw a p t out i);simp only[tw];omega
theorem Bz(a:List au)(p:List Int):∀t,(pe a p t).length<=t*(p.length / 2)
 | 0=>R0 _
 | t+1=>by have b:=Bz a p t;have c:=tX a p t (pe a p t) (p.length / 2);simp only[pe];rw[Nat.add_mul];omega
def lW(a:List au)(s:Int):List f9:=pe a (shuf a.length s).1 3
def mw(n:Nat)(out:List f9):List Bool:=(List.range n).map λ(i:Nat)=>tkn out (i:Nat)
theorem Fi{n:Nat}{out:List f9}{a:Int}(h:0<=a/\a<n):(mw n out)[a.toNat]? = some (tkn out a):=by
 unfold mw;rw[R2,C5 ω];show some (tkn out ((a.toNat:Nat):Int))=_;rw[Int.toNat_of_nonneg h.1]
theorem Jj{n:Nat}{out:List f9}{a b:Int}(f:0<=a/\a<n)(g:0<=b/\b<n):mw n (out++[⟨a,b⟩])=((mw n out).set a.toNat true).set b.toNat true:=by
 unfold mw;apply List.ext_getElem?;intro i;by_cases c:i<n
 ·rw[R2,C5 c]
  by_cases d:b.toNat=i
  ·subst d
   rw[Z2 (by simp;omega)];simp only[C4,tkn,List.any_append,List.any_cons,List.any_nil,Ms];rw[Int.toNat_of_nonneg g.1];simp
  ·rw[List.getElem?_set_ne d]
   by_cases e:a.toNat=i
   ·subst e
    rw[Z2 (by simp;omega)];simp only[C4,tkn,List.any_append,List.any_cons,List.any_nil,Ms];rw[Int.toNat_of_nonneg f.1];simp
   ·rw[List.getElem?_set_ne e,R2,C5 c]
    simp only[C4,tkn,List.any_append,List.any_cons,List.any_nil,Ms];rw[Q0 ω,Q0 ω];simp
 ·rw[W1 (by simp;omega),W1 (by simp;omega)]
theorem LA(n:Nat):(mw n []).map (rB .own)=List.replicate n [B false]:=by
 unfold mw;rw[List.map_map];apply List.ext_getElem?;intro i;rw[R2];by_cases a:i<n
 ·rw[C5 a,List.getElem?_replicate];simp[a];rfl
 ·rw[W1 (by simp;omega),List.getElem?_replicate];simp[a]
theorem Hl{xs:List Bool}{i k:Nat}(v:Bool)(a:k<xs.length):((xs.map (rB .own)).set i (rB .own v))[k]? = some (rB .own (nth (xs.set i v) k)):=by
 rw[<-X4];exact aa (ah (by rw[C1];exact a))
theorem tz(c:List au)(s:Int)(u:0<=s/\s<=1073741823)(V:c.length<=16):ar Tryz.prog 365 false [.val none (bP .imm c),.val none [I s],.val none [I 3]] (.tup [none,none]) (iB .own (lW c s)++[I (shuf c.length s).2]):=by
 have J:=aE s 0 1073741823;rw[O0 u]at J;have K:=aE 3 0 16;rw[O0 ω]at K;have Q:=wW c.length s u ω;have D:=(kT c.length u (c.length - 1)).1;have e:=rO c.length u (Q2 _);unfold lW;change (shuf c.length s).1.length=_ at D;change ∀x∈(shuf c.length s).1,_ at e
 have E:gh (iB .own (pe c (shuf c.length s).1 3)++[I (shuf c.length s).2]):=aP (Ec _) ⟨trivial,trivial⟩;generalize shuf c.length s=q at *;obtain⟨p,z⟩:=q;simp only at *;have F:((p.length:Nat):Int).tdiv 2=((p.length / 2:Nat):Int):=by rw[Int.tdiv_eq_ediv_of_nonneg ω];omega
 have g:C.s dy.own ((mw c.length []).map (rB .own))=C.s dy.own (List.replicate c.length [B false]):=by rw[LA]
 have h:∀i:Nat,i<p.length->0<=nth p i/\nth p i<c.length:=λi R=>e _ (am R)
 refine fO 110 [(15,21,[73,74,75,76,77,78,79,80,81,82,83,84,85,86,87,88,89,90,91,92,93])] Tryz.func365 rfl ?_ (.inr E)
 repeat'(first|refine gD ?_|(conv=>whnf);first|with_reducible refine CI ((T0 _ F).trans (eA ω ω)) ?_|refine C6 (J) ?_|refine C6 (K) ?_|refine C6 (Q) ?_|refine CK (by decide) ?_|refine Mk.mk c.length rfl rfl ω (wY ω (by decide)) rfl ?_)
 (conv=>whnf)
 refine CC (ι:=Nat) (λt=>[(0,.hold .one (bP .imm c)),(2,.hold .one [I (3)]),(8,.hold .one (iB .own (pe c p t))),(9,.hold .one (aD .own p)),(10,.hold .one [I (z)]),(11,.hold .one [I (((p.length / 2):Nat):Int)]),(12,.hold .one (np .own (mw c.length (pe c p t)))),(13,.hold .one [I ((t:Nat):Int)])]) (λt=>t<=3) (λt=>3 - t) (0) ?_ (R0 _) λt S=>?_
 ·repeat'(first|exact trivial|rfl |exact ml g|refine CH ?_ ?_|(exact yD (by first|omega|(simp only;omega)|(simp;omega))))
 have W:=Bz c p t;have ol2:t*(p.length / 2)<=3*8:=Nat.mul_le_mul S ω;by_cases X:t<3
 ·repeat'(first|refine gD ?_|fail)
  (conv=>whnf)
  refine CC (ι:=Nat) (λj=>[(0,.hold .one (bP .imm c)),(2,.hold .one [I (3)]),(8,.hold .one (iB .own (tw c p t (pe c p t) j))),(9,.hold .one (aD .own p)),(10,.hold .one [I (z)]),(11,.hold .one [I (((p.length / 2):Nat):Int)]),(12,.hold .one (np .own (mw c.length (tw c p t (pe c p t) j)))),(13,.hold .one [I ((t:Nat):Int)]),(14,.hold .one [I ((j:Nat):Int)])]) (λj=>j<=p.length / 2) (λj=>p.length / 2 - j) (0) ?_ (R0 _) λj Y=>?_
  ·repeat'(first|exact trivial|rfl |exact ml g|refine CH ?_ ?_|(exact yD (by first|omega|(simp only;omega)|(simp;omega))))
  have Z:=tX c p t (pe c p t) j;by_cases lj:j<p.length / 2
  ·have L:(j+t) % (p.length - p.length / 2)<p.length - p.length / 2:=Nat.mod_lt _ ω
   have G:((j:Int)+t).tmod ((p.length:Int) - (p.length / 2:Nat))=(((j+t) % (p.length - p.length / 2):Nat):Int):=by
    rw[dI ω,Int.natCast_emod];congr 1;omega
   have d:tw c p t (pe c p t) (j+1)=stp c p t j (tw c p t (pe c p t) j):=rfl;unfold stp at d;generalize tw c p t (pe c p t) j=out at *;have l:p.length / 2+(j+t) % (p.length - p.length / 2)<p.length:=ω
   generalize hk:(j+t) % (p.length - p.length / 2)=k at *;have n:=ah (xs:=p) (i:=j) ω;have o:=ah (xs:=p) (i:=p.length / 2+k) l;have w:=h j ω;have r:=h _ l;generalize nth p j=a at *;generalize nth p (p.length / 2+k)=b at *;have y:=Fi (out:=out) w;have H:=Fi (out:=out) r;have T:=ah (xs:=c) (i:=a.toNat) ω;have U:=ah (xs:=c) (i:=b.toNat) ω;have M:=kw (nth c a.toNat) (nth c b.toNat);have ub2:=Hl (xs:=mw c.length out) (i:=a.toNat) (k:=b.toNat) true (by simp[mw];omega);cases N:tkn out a<;>cases O:tkn out b<;>cases P:meshable (nth c a.toNat) (nth c b.toNat)
   all_goals
    rw[N]at y;rw[O]at H;rw[P]at M;rw[N,O,P]at d;simp only[and_true,true_and,if_true,Bool.false_eq_true,Bool.true_eq_false,and_false,false_and,if_false]at d
    repeat'(first|refine gD ?_|(conv=>whnf);first|refine CM G ?_|refine CK ω ?_|refine CA (aa n) ?_|refine CJ ω (aa o) ?_|refine CJ w.1 (aa y) ?_|refine CJ r.1 (aa H) ?_|refine CJ w.1 (aa T) ?_|refine CJ r.1 (aa U) ?_|refine CF rfl (aa n) rfl ?_|refine CF rfl (aa o) rfl ?_|refine CF rfl (aa y) rfl ?_|refine CF rfl (aa H) rfl ?_|refine C6 (M) ?_|refine C9 ?_|refine CN rfl rfl (aa y) rfl (X0 rfl) rfl ?_|refine CJ r.1 ub2 ?_|refine CN rfl rfl ub2 rfl (X0 rfl) rfl ?_|refine Ap.sm (aO λ_=>rfl) rfl (by simp;omega) (by decide) (gY (f9.enc .own) out ⟨a,b⟩) ?_)
    ((conv=>whnf);refine CB (j+1) ω ω ?_)
    rw[d]
    first|(rw[Jj w r];simp only[np,X4])|skip
    exact wB
  ·obtain rfl:j=p.length / 2:=ω
   repeat'(first|refine gD ?_|fail)
   ((conv=>whnf);refine CB (t+1) ω ω ?_;(exact wB))
 ·obtain rfl:t=3:=ω
  repeat'(first|refine gD ?_|fail)
  rfl
theorem ER(x:List f9):dw (iB .own x)=iB .imm x:=by simp[dw,iB,f9.enc,<-bY,U4]
theorem ar.fzR{P:Program}{f:Nat}{sh:Bool}{A:List RA}{k:Kd}{rcs:List C}(h:ar P f sh A k rcs):ar P f sh A k (dw rcs):=by
 obtain⟨c,d⟩:=h;refine⟨c,λw S g i j=>(d w S g i j).mono λe w1 l=>?_⟩;obtain⟨v,n,p,X,S1,q,r,y,t,u⟩:=l;refine⟨v,n,p,NO,λb o=>S1 b o\/X b o,λ_ _ h=>h.elim,λb o a=>?_,λ_ _ h=>h.elim,by rw[bY,W0];exact t,u.freeze⟩;rcases a with a|a
 ·exact r b o a
 ·exact .inr (q b o a)
structure My(ls:List au)(q:f9):Prop where
 a:0<=q.A/\q.A<ls.length
 b:0<=q.B/\q.B<ls.length
 m:meshable (nth ls q.A.toNat) (nth ls q.B.toNat)=true
theorem FE{b:List au}{p:List Int}(c:∀x∈p,0<=x/\x<b.length)(t:Nat){out:List f9}(d:∀q∈out,My b q):∀{i:Nat},i<=p.length / 2->∀q∈tw b p t out i,My b q
 | 0,_=>d
 | i+1,h=>λq a=>by
  have e:=FE c t d (i:=i) ω;simp only[tw,stp]at a;split at a
  ·rename_i g
   rcases O2.1 a with a|a
   ·exact e q a
   ·obtain rfl:=Z0.1 a
    have f:(i+t) % (p.length - p.length / 2)<p.length - p.length / 2:=Nat.mod_lt _ ω;exact⟨c _ (am ω),c _ (am ω),g.2.2⟩
  ·exact e q a
theorem F6{a:List au}{p:List Int}(b:∀x∈p,0<=x/\x<a.length):∀t,∀q∈pe a p t,My a q
 | 0=>λq c=>by cases c
 | t+1=>FE b t (F6 b t) (Q2 _)
theorem pF(a:List au){s:Int}(b:0<=s/\s<=1073741823):∀q∈lW a s,My a q:=F6 (rO a.length b (Q2 _)) 3
theorem LX(s:au)(n:Nat):(tQ s n).Pairwise (· < ·):=by
 unfold tQ;rw[List.pairwise_map];exact(List.pairwise_lt_range.sublist List.filter_sublist).imp λh=>ω
theorem MR{s:au}{n:Nat} : ∀z∈tQ s n,0<=z/\z<n:=λz a=>by
 unfold tQ at a;simp only[U3,V3,List.mem_range]at a;obtain⟨c,⟨b,-⟩,rfl⟩:=a;omega
theorem tY(s:au):cC (tQ s 16).length (mh (tQ s 16))=true:=by
 refine cr.2 λj a=>?_
 have c:=MR _ (am a);unfold mh;refine O0 ⟨ω,ω,?_⟩;by_cases e:j=0
 ·exact .inl e
 ·refine .inr ?_
  have b:=List.pairwise_iff_getElem.1 (LX s 16) (j - 1) j ω a ω;rw[show nth (tQ s 16) (j - 1)=(tQ s 16)[j - 1] from br (U1 ω),show nth (tQ s 16) j=(tQ s 16)[j] from br (U1 a)];exact b
theorem rv{a b:au}(c:meshable a b=true):ec (d2 a b)=true/\bg a=true/\bg b=true:=by
 unfold meshable at c;simp only[I0,C0]at c;have d:=aF c.1.1;have e:=aF c.1.2;refine⟨?_,c.1⟩;unfold d2 ec;split
 ·simp only[I0,C0];exact⟨tY a,ω⟩
 ·simp only[I0,C0];exact⟨tY b,ω⟩
theorem EN(a b:au):cg.sml (d2 a b):=by
 have c:=qp a 16;have d:=qp b 16;unfold d2 cg.sml pP;split<;>simp only<;>omega
def bM(h:ab):List au:=(l9 h).take 16
def started(h:ab):ab × Bool:=match lW (bM h) h.Seed with
 | []=>({h with Seed:=(shuf (bM h).length h.Seed).2},false)
 | q::_=>({h with Seed:=(shuf (bM h).length h.Seed).2,Meshing:=true,Job:=vc (d2 (nth (bM h) q.A.toNat) (nth (bM h) q.B.toNat))},true)
theorem JY{h:ab}{E:List Int}(a:bk h E):h.Spans.length<=32/\dQ h<=32/\xA h/\∀s∈h.Spans,s.Bits<=9223372036854775807:=by
 have b:=a.lens;refine⟨b.spans,b.ents,?_,λs c=>by have:=ed (a.L.sok s c);omega⟩;have:=(b6 a.ker).1.2;exact this
theorem Ew(h:ab):(bM h).length<=16:=by unfold bM;rw[I1];omega
theorem Nj(x:List f9)(z:Int):dw (iB .own x++[I z])=iB .imm x++[I z]:=by
 have h:=ER x;rw[bY]at h |-;rw[T4,h];simp[fz]
theorem NA(h:ab):(bM h).map (au.enc .imm)=((l9 h).map (au.enc .imm)).take 16:=R3
theorem E8(p:cg)(b:ec p=true)(c:cg.sml p):ar Tryz.prog 367 false [.val (some 3) (cg.enc .imm p)] (.tup [some 5,none]) (uO (vc p)++[B true]):=by
 have h:=(Bq p b c).fzR;have e:dw (bW.enc .own (vc p)++[B true])=uO (vc p)++[B true]:=by
  have a:=bW.enc_fz (vc p);rw[bY]at a |-;rw[T4,a];simp[fz,bW.enc,uO]
 rwa [e]at h
theorem xq(h:ab)(w:bk h []):aS Tryz.prog 307 false [.ptr (bu h)] [.ptr (bu (started h).1)] .one [B (started h).2]:=by
 obtain⟨w1,Q,H,J⟩:=JY w;have a:=w.nums;unfold cj at a;rw[C0]at a;have e:=(ux h H ω ω J).fzR;rw[v7]at e;have o:=Ew h;have b:=(tz (bM h) h.Seed ⟨a.1,a.2.1⟩ o).fzR;rw[Nj]at b;have g:=pF (bM h) ⟨a.1,a.2.1⟩;have K:=uM h h.Spans.length;have y:(l9 h).length<=32:=by unfold l9;omega
 have j:=NA h;unfold started;cases C:lW (bM h) h.Seed with
 | nil=>
  rw[C]at b;by_cases L:16<(l9 h).length
  ·refine fM 62 [] [(8,275,[34,35,36,37,38,39,40,41,42,43,44,45,46,47,48,33,49,50,6,0,1,2,3,4,5,6,7,8,9,10,11,12,13,14,15,16,17,18,19,1017,20])] [(0,0)] Tryz.func307 rfl (λu q=>?_)
   repeat'(first|refine gD ?_|(conv=>whnf);first|refine C9 ?_|refine CE (e) ⟨⟨rfl,bz h⟩,trivial⟩ ?_|refine C6 (b) ?_|refine CS 16 rfl (by rw[W0];omega) (aO λ_=>rfl) j ?_)
   refine CD rfl rfl ?_;exact wC
  ·have k:bM h=l9 h:=by unfold bM;exact Q5 ω
   rw[k]at b;refine fM 62 [] [(8,275,[34,35,36,37,38,39,40,41,42,43,44,45,46,47,48,33,49,50,6,0,1,2,3,4,5,6,7,8,9,10,11,12,13,14,15,16,17,18,19,1017,20])] [(0,0)] Tryz.func307 rfl (λu q=>?_);rw[k]
   repeat'(first|refine gD ?_|(conv=>whnf);first|refine C9 ?_|refine CE (e) ⟨⟨rfl,bz h⟩,trivial⟩ ?_|refine C6 (b) ?_)
   refine CD rfl rfl ?_;exact wC
 | cons q M=>
  rw[C]at b g;obtain⟨E,F,G⟩:=g q (O1 ..);obtain⟨N,O,P⟩:=rv G;have p:=x7 _ _ G O P;have t:=E8 _ N (EN _ _);have c:=ah (xs:=bM h) (i:=q.A.toNat) ω;have d:=ah (xs:=bM h) (i:=q.B.toNat) ω;have l:(q::M)[0]? = some q:=rfl;by_cases L:16<(l9 h).length
  ·refine fM 62 [] [(8,275,[34,35,36,37,38,39,40,41,42,43,44,45,46,47,48,33,49,50,6,0,1,2,3,4,5,6,7,8,9,10,11,12,13,14,15,16,17,18,19,1017,20])] [(0,0)] Tryz.func307 rfl (λu r=>?_)
   repeat'(first|refine gD ?_|(conv=>whnf);first|with_reducible refine Bf.D (λn=>absurd n (by simp)) (λn=>?_)|refine C9 ?_|refine CE (e) ⟨⟨rfl,bz h⟩,trivial⟩ ?_|refine C6 (b) ?_|refine CS 16 rfl (by rw[W0];omega) (aO λ_=>rfl) j ?_|refine CJ (by decide) (aa l) ?_|refine CJ E.1 (aa c) ?_|refine CJ F.1 (aa d) ?_|refine C6 (p) ?_|refine CE (t) ⟨⟨rfl,cg.enc_fz _⟩,trivial⟩ ?_|refine C9 ?_)
   refine CD rfl rfl ?_;exact wC
  ·have k:bM h=l9 h:=by unfold bM;exact Q5 ω
   rw[k]at b p t c d;refine fM 62 [] [(8,275,[34,35,36,37,38,39,40,41,42,43,44,45,46,47,48,33,49,50,6,0,1,2,3,4,5,6,7,8,9,10,11,12,13,14,15,16,17,18,19,1017,20])] [(0,0)] Tryz.func307 rfl (λu r=>?_);rw[k]
   repeat'(first|refine gD ?_|(conv=>whnf);first|with_reducible refine Bf.D (λn=>absurd n (by simp)) (λn=>?_)|refine C9 ?_|refine CE (e) ⟨⟨rfl,bz h⟩,trivial⟩ ?_|refine C6 (b) ?_|refine CJ (by decide) (aa l) ?_|refine CJ E.1 (aa c) ?_|refine CJ F.1 (aa d) ?_|refine C6 (p) ?_|refine CE (t) ⟨⟨rfl,cg.enc_fz _⟩,trivial⟩ ?_|refine C9 ?_)
   refine CD rfl rfl ?_;exact wC
def cN(k:af):af:={k with Calls:=k.Calls+1}
def refd(k:af):Bool:=decide (k.Calls∈k.Refuse)
def qG(k:af)(p:Int)(m:Int):af:={k with Machine:=⟨k.Machine.Frames,⟨k.Machine.Table.Entries.set p.toNat {nth k.Machine.Table.Entries p.toNat with Mode:=m}⟩⟩}
def iS(k:af)(p m:Int):af × Bool:=if refd k=true then(cN k,false) else(qG (cN k) p m,true)
theorem Gz(k:af)(p m:Int):af.enc .own (qG k p m)=(af.enc .own k).set 2 (.s .own ((k.Machine.Table.Entries.map (aZ.enc .own)).set p.toNat (aZ.enc .own {nth k.Machine.Table.Entries p.toNat with Mode:=m}))):=by
 simp[af.enc,qG,X4]
theorem row16{k:af}(a:aA k=true){f:Nat}(b:f<k.Machine.Frames.Cells.length):(nth k.Machine.Frames.Cells f).length=16:=by
 have:=(aT.1 (aB.1 a).2.1).2.2.2 f b;unfold gp at this;simp only[I0,C0]at this;omega
def setCell(k:af)(f:Nat)(c v:Int):af:={k with Machine:=⟨⟨k.Machine.Frames.Cells.set f ((nth k.Machine.Frames.Cells f).set c.toNat v),k.Machine.Frames.Used⟩,k.Machine.Table⟩}
theorem Do(k:af)(f:Nat)(c v:Int):af.enc .own (setCell k f c v)=(af.enc .own k).set 0 (.s .own ((k.Machine.Frames.Cells.map (aD .own)).set f [.s .own (((nth k.Machine.Frames.Cells f).map (rI .own)).set c.toNat [I v])])):=by
 simp[af.enc,setCell,X4,aD,rI]
def lV(k:af)(p:Int):Nat:=(ao k.Machine.Table p).Frame.toNat
def wb(k:af)(a b c:Int):af:=setCell k (lV k b) c (nth (nth k.Machine.Frames.Cells (lV k a)) c.toNat)
def MJ(k:af)(a b c:Int):Nat->af
 | 0=>k
 | _+1=>wb k a b c
def wi(k:af)(p:Nat)(e:aZ):af:={k with Machine:=⟨k.Machine.Frames,⟨k.Machine.Table.Entries.set p e⟩⟩}
theorem KX(k:af)(p:Nat)(e:aZ):af.enc .own (wi k p e)=(af.enc .own k).set 2 (.s .own ((k.Machine.Table.Entries.map (aZ.enc .own)).set p (aZ.enc .own e))):=by
 simp[af.enc,wi,X4]
theorem Kt{k:af}(p:Nat)(e:aZ)(h:aG.sml k.Machine.Table):aG.sml (wi k p e).Machine.Table:=by
 refine⟨?_,λx _=>trivial⟩;show(k.Machine.Table.Entries.set p e).length<=_;rw[C1];exact h.1
def yd(k:af)(p o:Int):af × Bool:=if refd k=true then(cN k,false) else(gr (wi (cN k) p.toNat ⟨2,(nth k.Machine.Table.Entries o.toNat).Frame⟩) (nth k.Machine.Table.Entries p.toNat).Frame,true)
def fF(m:aJ)(a v:Int):aJ × Int:=
 if(ao m.Table (a / 16)).Mode=0 then(m,1) else if(ao m.Table (a / 16)).Mode=1 then(m,2) else
 (⟨⟨m.Frames.Cells.set (ao m.Table (a / 16)).Frame.toNat ((nth m.Frames.Cells (ao m.Table (a / 16)).Frame.toNat).set (a % 16).toNat v),m.Frames.Used⟩,m.Table⟩,0)
theorem pS(m:aJ)(a:Int)(d:cK m=true)(b:aJ.sml m)(e:0<=a/\a<512):ar Tryz.prog 196 false [.val (some 3) (aJ.enc .imm m),.val none [I a]] .agg (aZ.enc .own (ao m.Table (a / 16))):=by
 have c:=nz m b;rw[d]at c;have g:=hC m.Table (a / 16) b.2;refine fO 18 [] Tryz.func196 rfl ?_ (.inr ⟨trivial,trivial,trivial⟩)
 repeat'(first|refine gD ?_|(conv=>whnf);first|refine C6 (c) ?_|refine C6 (g) ?_|refine CI (nl e) ?_|refine CK (by decide) ?_)
 rfl
theorem uq(m:aJ)(f:Nat)(c v:Int):aJ.enc .own ⟨⟨m.Frames.Cells.set f ((nth m.Frames.Cells f).set c.toNat v),m.Frames.Used⟩,m.Table⟩ = (aJ.enc .own m).set 0 (.s .own ((m.Frames.Cells.map (aD .own)).set f [.s .own (((nth m.Frames.Cells f).map (rI .own)).set c.toNat [I v])])):=by
 simp[aJ.enc,X4,aD,rI]
theorem EM(m:aJ)(a v:Int)(p:cK m=true)(k:aJ.sml m)(l:0<=a/\a<512)(q:0<=v/\v<=999)(r:(ao m.Table (a / 16)).Mode≠0->0<=(ao m.Table (a / 16)).Frame/\(ao m.Table (a / 16)).Frame<m.Frames.Cells.length/\(nth m.Frames.Cells (ao m.Table (a / 16)).Frame.toNat).length=16):ar Tryz.prog 116 false [.val (some 3) (aJ.enc .imm m),.val none [I a],.val none [I v]] (.tup [some 3,none]) (aJ.enc .own (fF m a v).1++[I (fF m a v).2]):=by
 have d:=lh m k;have e:=pS m a p k l;have c:=aM v 0 999;rw[O0 q]at c;have b:=aJ.enc_fr (fF m a v).1;unfold fF at b |-;by_cases g:(ao m.Table (a / 16)).Mode=0
 ·rw[C8 g]at b |-
  refine fO 42 [] Tryz.func116 rfl ?_ (.inr (aP b ⟨trivial,trivial⟩))
  repeat'(first|refine gA ?_|(conv=>whnf);first|refine C6 (d) ?_|refine C6 (e) ?_|refine C6 (c) ?_)
  rfl
 ·rw[C7 g]at b |-
  by_cases n:(ao m.Table (a / 16)).Mode=1
  ·rw[C8 n]at b |-
   refine fO 42 [] Tryz.func116 rfl ?_ (.inr (aP b ⟨trivial,trivial⟩))
   repeat'(first|refine gA ?_|(conv=>whnf);first|refine C6 (d) ?_|refine C6 (e) ?_|refine C6 (c) ?_)
   rfl
  ·rw[C7 n]at b |-
   obtain⟨t,u,w⟩:=r g;have h:=ah (xs:=m.Frames.Cells) (i:=(ao m.Table (a / 16)).Frame.toNat) ω;have o:=ah (xs:=nth m.Frames.Cells (ao m.Table (a / 16)).Frame.toNat) (i:=(a % 16).toNat) ω;simp only at b |-;rw[uq]at b |-;have j:a.tmod 16=a % 16:=dI l.1;refine fO 42 [] Tryz.func116 rfl ?_ (.inr (aP b ⟨trivial,trivial⟩))
   repeat'(first|refine gA ?_|(conv=>whnf);first|refine C6 (d) ?_|refine C6 (e) ?_|refine C6 (c) ?_|refine CM j ?_|refine CK (by decide) ?_|refine CJ t (aa h) ?_|refine CJ ω (aa o) ?_|refine CF rfl (aa h) rfl ?_|refine Pu.two rfl rfl (aa h) rfl rfl rfl (aa o) rfl (Q2 _) rfl ?_)
   rfl
def jmay(k:af)(j:bW):Bool:=(aA k&&decide (k.Calls≠100000))&&(iP j&&decide ((ao k.Machine.Table j.Plan.Keep).Mode≠0/\(ao k.Machine.Table j.Plan.Move).Mode≠0/\(ao k.Machine.Table j.Plan.Keep).Frame≠(ao k.Machine.Table j.Plan.Move).Frame))
def jstep(k:af)(j:bW):af × bW:=
 if j.Phase=0 then((iS k j.Plan.Move 1).1,{j with Phase:=if(iS k j.Plan.Move 1).2=true then 1 else 5})
 else if j.Phase=1 then(if j.Next=j.Plan.Cells.length then(k,{j with Phase:=2}) else(wb k j.Plan.Move j.Plan.Keep (nth j.Plan.Cells j.Next.toNat),{j with Next:=j.Next+1}))
 else if j.Phase=2 then((yd k j.Plan.Move j.Plan.Keep).1,{j with Phase:=if(yd k j.Plan.Move j.Plan.Keep).2=true then 4 else 3})
 else if j.Phase=3 then(if 0<j.Next then({k with Machine:=(fF k.Machine (j.Plan.Keep*16+nth j.Plan.Cells (j.Next - 1).toNat) 0).1},{j with Next:=j.Next - 1}) else((iS k j.Plan.Move 2).1,{j with Phase:=if(iS k j.Plan.Move 2).2=true then 5 else 3}))
 else(k,j)
theorem JL{k:af}{f:Int}(h1:∀j,j<k.Refuse.length->0<=nth k.Refuse j)(d:cZ k.Machine.Frames=true)(g:fA k.Machine.Table k.Machine.Frames.Used.length=true)(h:∀j:Nat,j<k.Machine.Frames.Used.length->(j:Int)≠f->nth k.Machine.Frames.Used j=decide (0<(pagesOn k.Machine.Table (j:Int)).length))(t:0<=f/\f<k.Machine.Frames.Used.length)(l:nth k.Machine.Frames.Used f.toNat=true)(i:0<=k.Calls/\k.Calls<=100000/\k.Refuse.length<=40):aA (gr k f)=true:=by
 obtain⟨n,o,p,q⟩:=aT.1 d;unfold gr;split
 ·rename_i c
  rw[aB];simp only[C1];refine⟨h1,?_,g,λj b=>?_,i⟩
  ·rw[aT]
   simp only[C1,bS];refine⟨n,o,p,λj b=>?_⟩;by_cases a:f.toNat=j
   ·rw[C8 ⟨a,b⟩,C8 ⟨a,ω⟩];decide
   ·rw[C7 (λe=>a e.1),C7 (λe=>a e.1)];exact q j b
  ·rw[bS]
   by_cases a:f.toNat=j
   ·rw[C8 ⟨a,b⟩]
    have:(j:Int)=f:=ω
    rw[this];exact(Q0 λr=>absurd c (Nat.ne_of_gt r)).symm
   ·rw[C7 (λe=>a e.1)];exact h j b ω
 ·rename_i c
  rw[aB];refine⟨h1,d,g,λj b=>?_,i⟩;by_cases a:(j:Int)=f
  ·rw[a,show j=f.toNat by omega,l]
   exact(O0 (Nat.pos_of_ne_zero c)).symm
  ·exact h j b a
def tEq(t a:aG):Prop:=a.Entries.length=t.Entries.length/\∀q:Nat,((nth a.Entries q).Mode≠0↔(nth t.Entries q).Mode≠0)/\(nth a.Entries q).Frame=(nth t.Entries q).Frame
theorem tEq.refl(t:aG):tEq t t:=⟨rfl,λ_=>⟨Iff.rfl,rfl⟩⟩
theorem tEq.of{t a:aG}(h:a=t):tEq t a:=by rw[h];exact tEq.refl t
theorem tEq.pagesOn{t a:aG}(h:tEq t a)(f:Int):Ab.pagesOn a f=Ab.pagesOn t f:=by
 unfold Ab.pagesOn iK;rw[h.1]
 congr 1
 refine List.filter_congr λq _=>?_
 obtain⟨b,c⟩:=h.2 q;unfold HF;rw[c];exact decide_eq_decide.2 (and_congr b Iff.rfl)
theorem yW{k:af}(h:aA k=true){a:aG}(c:tEq k.Machine.Table a)(i:∀q,q<a.Entries.length->0<=(nth a.Entries q).Mode/\(nth a.Entries q).Mode<=2):aA {k with Machine:=⟨k.Machine.Frames,a⟩} = true:=by
 obtain⟨l,n,o,p,r⟩:=aB.1 h;obtain⟨t,u,w⟩:=bn.1 o;rw[aB];refine⟨l,n,bn.2 ⟨λj b=>?_,?_,?_⟩,λj b=>?_,r⟩
 ·replace b:j<a.Entries.length:=b
  have e:=t j (by rw[<-c.1];exact b);have d:=i j b;obtain⟨g,y⟩:=c.2 j;show je _ (nth a.Entries j)=true;unfold je at e |-;rw[C0]at e |-;rw[y];refine⟨d.1,d.2,λf=>e.2.2.1 (Classical.byContradiction λA=>(g.2 A) f),λf=>e.2.2.2 (g.1 f)⟩
 ·show 1<=a.Entries.length;rw[c.1];exact u
 ·show a.Entries.length<=32;rw[c.1];exact w
 ·show nth k.Machine.Frames.Used j=decide (0<(Ab.pagesOn a (j:Int)).length)
  rw[c.pagesOn];exact p j b
theorem kM{k:af}(h:aA k=true)(f:k.Calls≠100000):aA (cN k)=true:=by
 obtain⟨a,b,c,d,g,i,e⟩:=aB.1 h;rw[aB];exact⟨a,b,c,d,by show 0<=k.Calls+1;omega,by show k.Calls+1<=100000;omega,e⟩
theorem rA{k:af}{p m:Int}(a:(nth k.Machine.Table.Entries p.toNat).Mode≠0)(b:m=1\/m=2):tEq k.Machine.Table (qG k p m).Machine.Table:=by
 refine⟨by simp[qG],λq=>?_⟩;simp only[qG,bS];split
 ·rename_i e
  rw[<-e.1];exact⟨⟨λ_=>a,λ_=>by show m≠0;omega⟩,rfl⟩
 ·exact⟨Iff.rfl,rfl⟩
theorem Ka{k:af}(h:aA k=true){p m:Int}(d:(nth k.Machine.Table.Entries p.toNat).Mode≠0)(a:m=1\/m=2):aA (qG k p m)=true:=by
 refine yW h (rA d a) λq e=>?_
 obtain⟨i,j,f,l,n⟩:=aB.1 h;obtain⟨g,o,r⟩:=bn.1 f;have c:q<k.Machine.Table.Entries.length:=by rw[<-(rA d a).1];exact e
 have b:=g q c;unfold je at b;rw[C0]at b;simp only[bS];split
 ·show 0<=m/\m<=2;omega
 ·exact⟨b.1,b.2.1⟩
theorem AP{k:af}{p m:Int}(h:aA k=true)(c:k.Calls≠100000)(b:(ao k.Machine.Table p).Mode≠0)(a:m=1\/m=2):aA (iS k p m).1=true/\tEq k.Machine.Table (iS k p m).1.Machine.Table:=by
 obtain⟨e,f,d,-⟩:=ce h b;rw[d]at b;unfold iS;split
 ·exact⟨kM h c,tEq.refl _⟩
 ·exact⟨Ka (kM h c) b a,rA (k:=cN k) b a⟩
theorem eS{k:af}(h:aA k=true){p:Int}(b:(ao k.Machine.Table p).Mode≠0):lV k p<k.Machine.Frames.Cells.length/\nth k.Machine.Frames.Used (lV k p)=true/\((lV k p:Nat):Int)=(nth k.Machine.Table.Entries p.toNat).Frame:=by
 obtain⟨f,g,a,i,j⟩:=ce h b;obtain⟨l,d,n,e,o⟩:=aB.1 h;obtain⟨q,r,t,u⟩:=aT.1 d;have c:((lV k p:Nat):Int)=(ao k.Machine.Table p).Frame:=by unfold lV;omega
 refine⟨ω,?_,by rw[c,a]⟩;rw[e _ ω,c];refine O0 (dR.2 ⟨p.toNat,ω,?_,?_⟩)
 ·rw[<-a];exact b
 ·rw[<-a]
theorem Jc{k:af}(h:aA k=true){f:Nat}{a:List Int}(c:a.length=16)(d:∀v∈a,0<=v/\v<=999)(g:nth k.Machine.Frames.Used f=true):aA {k with Machine:=⟨⟨k.Machine.Frames.Cells.set f a,k.Machine.Frames.Used⟩,k.Machine.Table⟩} = true:=by
 obtain⟨i,l,n,o,p⟩:=aB.1 h;obtain⟨q,r,t,u⟩:=aT.1 l;refine aB.2 ⟨i,aT.2 ⟨?_,?_,?_,λj b=>?_⟩,n,o,p⟩
 ·simp only[C1];exact q
 ·simp only[C1];exact r
 ·simp only[C1];exact t
 ·simp only[C1]at b |-
  simp only[bS];split
  ·rename_i e
   obtain⟨rfl,-⟩:=e;unfold gp;simp only[I0,C0,O3];refine⟨c,λv w=>?_⟩;have:=d v w;unfold gV;simp[g,this]
  ·exact u j b
theorem Ae{k:af}(h:aA k=true){f:Nat}(b:f<k.Machine.Frames.Cells.length):(nth k.Machine.Frames.Cells f).length=16/\∀v∈nth k.Machine.Frames.Cells f,0<=v/\v<=999:=by
 obtain⟨g,c,i,j,l⟩:=aB.1 h;obtain⟨n,o,p,d⟩:=aT.1 c;have a:=d f b;unfold gp at a;simp only[I0,C0,O3]at a;refine⟨a.1,λv e=>?_⟩;have:=a.2 v e;unfold gV at this;simp only[I0,C0]at this;exact this.1
theorem pw{k:af}(h:aA k=true){f:Nat}(b:f<k.Machine.Frames.Cells.length)(d:nth k.Machine.Frames.Used f=true){c v:Int}(e:0<=v/\v<=999):aA (setCell k f c v)=true:=by
 obtain⟨g,i⟩:=Ae h b;refine Jc h (by rw[C1];exact g) (λz a=>?_) d;rcases t5 a with a|rfl
 ·exact i z a
 ·exact e
theorem KT{k:af}(h:aA k=true){a b c:Int}(d:(ao k.Machine.Table a).Mode≠0)(e:(ao k.Machine.Table b).Mode≠0)(l:0<=c/\c<=15):aA (wb k a b c)=true:=by
 obtain⟨f,n,-⟩:=eS h d;obtain⟨g,i,-⟩:=eS h e;obtain⟨o,j⟩:=Ae h f;exact pw h g i (j _ (am ω))
theorem MV{k:af}{p o:Int}(h:aA k=true)(u:k.Calls≠100000)(i:(ao k.Machine.Table p).Mode≠0)(d:(ao k.Machine.Table o).Mode≠0)(w:p≠o):aA (yd k p o).1=true:=by
 unfold yd;split
 ·exact kM h u
 obtain⟨O,y,A⟩:=eS h i;obtain⟨P,Q,R⟩:=eS h d;obtain⟨S,T,B,r,t⟩:=ce h i;obtain⟨U,V,C,D,E⟩:=ce h d;obtain⟨F,G,H,J,W,X,K⟩:=aB.1 h;obtain⟨L,M,N⟩:=bn.1 H;rw[C]at D E d;rw[B]at r t i;have a:∀q,nth (k.Machine.Table.Entries.set p.toNat ⟨2,(nth k.Machine.Table.Entries o.toNat).Frame⟩) q=if p.toNat=q then⟨2,(nth k.Machine.Table.Entries o.toNat).Frame⟩ else nth k.Machine.Table.Entries q:=λq=>by
  rw[bS];by_cases f:p.toNat=q
  ·rw[C8 ⟨f,ω⟩,C8 f]
  ·rw[C7 (λe=>f e.1),C7 f]
 refine JL F G (bn.2 ⟨λj c=>?_,?_,?_⟩) (λj c l=>?_) ⟨r,t⟩ (by rw[<-A];exact y) ⟨by show 0<=k.Calls+1;omega,by show k.Calls+1<=100000;omega,K⟩
 ·simp only[wi,cN,C1]at c |-
  rw[a];split
  ·unfold je;rw[C0];simp only;omega
  ·exact L j c
 ·simp only[wi,cN,C1];exact M
 ·simp only[wi,cN,C1];exact N
 ·replace c:j<k.Machine.Frames.Used.length:=c
  show nth k.Machine.Frames.Used j=_;rw[J j c];refine decide_eq_decide.2 ?_;rw[dR,dR];simp only[wi,cN,C1,a];constructor
  ·rintro⟨q,n,g,b⟩
   refine⟨q,n,?_⟩;rw[C7 (λe=>l (by rw[<-b,<-e]))];exact⟨g,b⟩
  ·rintro⟨q,n,g,b⟩
   by_cases e:p.toNat=q
   ·rw[C8 e]at b
    exact⟨o.toNat,ω,d,b⟩
   ·rw[C7 e]at g b
    exact⟨q,n,g,b⟩
theorem Mv{k:af}{p o:Int}(h:aA k=true)(b:(ao k.Machine.Table p).Mode≠0)(a:(yd k p o).2=true)(q:Nat):(yd k p o).1.Machine.Table.Entries.length=k.Machine.Table.Entries.length/\nth (yd k p o).1.Machine.Table.Entries q=if(q:Int)=p then⟨2,(nth k.Machine.Table.Entries o.toNat).Frame⟩ else nth k.Machine.Table.Entries q:=by
 obtain⟨d,f,-⟩:=ce h b;unfold yd at a |-;split at a
 ·cases a
 rename_i c;rw[C7 c];simp only[(nO _ _).1];simp only[wi,cN,C1,bS];refine⟨trivial,?_⟩;by_cases e:(q:Int)=p
 ·rw[C8 ⟨ω,ω⟩,C8 e]
 ·rw[C7 λz=>e ω,C7 e]
theorem Nw{k:af}{p o:Int}(a:(yd k p o).2=false):(yd k p o).1=cN k:=by
 unfold yd at a |-;split
 ·rfl
 ·rename_i b;rw[C7 b]at a;cases a
theorem GO{k:af}{a v:Int}(h:aA k=true)(g:0<=a)(b:0<=v/\v<=999):aA {k with Machine:=(fF k.Machine a v).1} = true/\(fF k.Machine a v).1.Table=k.Machine.Table:=by
 unfold fF;split
 ·exact⟨h,rfl⟩
 rename_i d;split
 ·exact⟨h,rfl⟩
 ·obtain⟨e,f,-⟩:=eS h d
  exact⟨pw h e f (c:=a % 16) b,rfl⟩
def mY(t:aG)(p:Int):Prop:=∀q:Nat,(nth t.Entries q).Mode≠0->(nth t.Entries q).Frame=(nth t.Entries p.toNat).Frame->(q:Int)=p
structure JI(h:ab):Prop where
 ph:h.Meshing=true->0<=h.Job.Phase/\h.Job.Phase<=3
 sp:h.Meshing=true->∃a∈h.Spans,∃b∈h.Spans,a.Page=h.Job.Plan.Keep/\b.Page=h.Job.Plan.Move/\meshable a b=true
 sk:h.Meshing=true->mY (tbl h) h.Job.Plan.Keep
 sm:h.Meshing=true->mY (tbl h) h.Job.Plan.Move
theorem mY.tEq{t a:aG}{p:Int}(h:mY t p)(b:tEq t a):mY a p:=λq c d=>by
 obtain⟨e,f⟩:=b.2 q;exact h q (e.1 c) (by rw[<-f,<-(b.2 p.toNat).2];exact d)
theorem Pg.tEq{t b:aG}{c:List a7}{sp:List au}{la:List a8}(h:Pg t c sp la)(a:tEq t b):Pg b c sp la where
 one l hl p hp q hq h1 h2:=h.one l hl p hp q (by rw[<-a.1];exact hq) ((a.2 q).1.1 h1) (by rw[<-(a.2 q).2,<-(a.2 p).2];exact h2)
 bnd p hp:=by rw[a.1];exact h.bnd p hp
 own p hp:=(a.2 p).1.trans (h.own p (by rw[<-a.1];exact hp))
 fre p hp:=(a.2 p).1.trans (h.fre p (by rw[<-a.1];exact hp))
 mesh s hs u hu hne hf:=h.mesh s hs u hu hne (by rw[<-(a.2 _).2,<-(a.2 u.Page.toNat).2];exact hf)
theorem bk.step{h:ab}{E:List Int}(a:bk h E){k:af}(b:aA k=true)(c:k.Machine.Table.Entries.length=(tbl h).Entries.length)(d:Pg k.Machine.Table h.Free h.Spans h.Larges){j:bW}{m:Bool}(h1:m=true->iP j=true/\(∃s∈h.Spans,s.Page=j.Plan.Keep)/\∃s∈h.Spans,s.Page=j.Plan.Move)(e:m=false->qa j=true):bk {h with Kernel:=k,Meshing:=m,Job:=j} E:=
 {a with
   ker:=b
   rng:=by show bv ((k.Machine.Table.Entries.length:Nat):Int) h.Free=true;rw[c];exact a.rng
   pg:=d
   job:=h1
   noj:=e}
theorem qP.apart{sp:List au}{la:List a8}(b:qP sp la){s:au}(c:s∈sp){l:a8}(d:l∈la){p:Int}(a:p∈lpgs l l.Pages.toNat):s.Page≠p:=by
 unfold lpgs at a;simp only[U3,List.mem_range]at a;obtain⟨k,e,rfl⟩:=a;exact b.dis s c l d k e
theorem Pg.on{t H:aG}{Q:List a7}{sp:List au}{la:List a8}(h:Pg t Q sp la)(r:qP sp la){a b:au}(w:a∈sp)(L:b∈sp)(R:meshable a b=true)(A:mY t a.Page)(M:(nth t.Entries a.Page.toNat).Mode≠0)(N:(nth t.Entries b.Page.toNat).Mode≠0)(U:0<=b.Page)(J:H.Entries.length=t.Entries.length)(B:∀q:Nat,nth H.Entries q=if(q:Int)=b.Page then⟨2,(nth t.Entries a.Page.toNat).Frame⟩ else nth t.Entries q):Pg H Q sp la:=by
 have c:∀q:Nat,(nth H.Entries q).Mode≠0↔(nth t.Entries q).Mode≠0:=λq=>by
  rw[B];split
  ·rename_i e
   rw[show q=b.Page.toNat by omega];exact⟨λ_=>N,λ_=>by show(2:Int)≠0;omega⟩
  ·rfl
 have V:0<=a.Page:=by have:=r.sok a w;unfold bg at this;rw[C0]at this;omega
 refine⟨λl k p g q W S C=>?_,λp g=>by rw[J];exact h.bnd p g,λp g=>(c p).trans (h.own p (by rw[<-J];exact g)),λp g=>(c p).trans (h.fre p (by rw[<-J];exact g)),λs D u E F n=>?_⟩
 ·have O:¬(p:Int)=b.Page:=λe=>r.apart L k g e.symm
  rw[B p,C7 O,B q]at C;rw[c]at S;by_cases e:(q:Int)=b.Page
  ·rw[C8 e]at C
   have T:=h.one l k p g a.Page.toNat (by have:=h.bnd _ (dr (la:=la) w);omega) M C;exact absurd (show a.Page=(p:Int) by omega) (r.apart w k g)
  ·rw[C7 e]at C
   exact h.one l k p g q (by rw[<-J];exact W) S C
 ·have X:0<=s.Page:=by have:=r.sok s D;unfold bg at this;rw[C0]at this;omega
  have Y:0<=u.Page:=by have:=r.sok u E;unfold bg at this;rw[C0]at this;omega
  have d:∀x∈sp,∀y∈sp,x.Page=y.Page->x=y:=λx G y Z e=>by
   obtain⟨i,hi,rfl⟩:=bf G;obtain⟨j,hj,rfl⟩:=bf Z;rw[gy (f:=(·.Page)) r.nd hi hj e]
  have o:∀x∈sp,(nth t.Entries x.Page.toNat).Mode≠0:=λx G=>by
   have hx0:0<=x.Page:=by have:=r.sok x G;unfold bg at this;rw[C0]at this;omega
   refine(h.own x.Page.toNat (by have:=h.bnd _ (dr (la:=la) G);omega)).2 ?_;rw[show((x.Page.toNat:Nat):Int)=x.Page by omega];exact dr G
  rw[B,B]at n;simp only[show((s.Page.toNat:Nat):Int)=s.Page by omega,show((u.Page.toNat:Nat):Int)=u.Page by omega]at n;by_cases K:s.Page=b.Page
  ·rw[C8 K,C7 (λe=>F (K.trans e.symm))]at n
   have T:=A u.Page.toNat (o u E) n.symm;rw[d s D b L K,d u E a w ω,iv];exact R
  ·rw[C7 K]at n
   by_cases P:u.Page=b.Page
   ·rw[C8 P]at n
    have T:=A s.Page.toNat (o s D) n;rw[d u E b L P,d s D a w ω];exact R
   ·rw[C7 P]at n
    exact h.mesh s D u E F n
def over(j:bW):Bool:=decide (j.Phase=4\/j.Phase=5)
def io(k:af)(j:bW):af × bW:=if jmay k j=true then jstep k j else(k,j)
def mStep(h:ab):ab:={h with Kernel:=(io h.Kernel h.Job).1,Meshing:=if over (io h.Kernel h.Job).2=true then false else h.Meshing,Job:=if over (io h.Kernel h.Job).2=true then⟨⟨0,0,[]⟩,0,0⟩ else(io h.Kernel h.Job).2}
def Dp(h:ab):Bool:=decide ((io h.Kernel h.Job).2.Phase=4)
theorem dP{j:bW} : iP j=true↔ec j.Plan=true/\0<=j.Phase/\j.Phase<=5/\0<=j.Next/\j.Next<=j.Plan.Cells.length:=by
 unfold iP;simp only[I0,C0]
theorem kJ{p:cg}(h:ec p=true){i:Nat}(a:i<p.Cells.length):0<=nth p.Cells i/\nth p.Cells i<=15:=by
 unfold ec at h;simp only[I0]at h;have:=d8 h.1 a;unfold mh at this;rw[C0]at this;exact⟨this.1,this.2.1⟩
structure JS(h:ab)(k:af)(j:bW):Prop where
 ker:aA k=true
 len:k.Machine.Table.Entries.length=(tbl h).Entries.length
 pg:j.Phase≠4\/JI h->Pg k.Machine.Table h.Free h.Spans h.Larges
 ph:0<=j.Phase/\j.Phase<=5
 plan:j.Plan=h.Job.Plan
 nxt:0<=j.Next/\j.Next<=j.Plan.Cells.length
 eq:j.Phase≠4->tEq (tbl h) k.Machine.Table
 calls:h.Kernel.Calls<=k.Calls/\k.Calls<=h.Kernel.Calls+1/\k.Refuse=h.Kernel.Refuse
theorem u6(k:af)(p m:Int):(iS k p m).1.Calls=k.Calls+1/\(iS k p m).1.Refuse=k.Refuse:=by
 unfold iS;split<;>exact⟨rfl,rfl⟩
theorem J1(k:af)(p o:Int):(yd k p o).1.Calls=k.Calls+1/\(yd k p o).1.Refuse=k.Refuse:=by
 unfold yd;split
 ·exact⟨rfl,rfl⟩
 ·obtain⟨-,a,b,-⟩:=nO (wi (cN k) p.toNat ⟨2,(nth k.Machine.Table.Entries o.toNat).Frame⟩) (nth k.Machine.Table.Entries p.toNat).Frame
  simp only[a,b];exact⟨rfl,rfl⟩
theorem JS.of{h:ab}{E:List Int}(c:bk h E)(B:h.Meshing=true):JS h (io h.Kernel h.Job).1 (io h.Kernel h.Job).2:=by
 obtain⟨R,-,-⟩:=c.job B;obtain⟨O,y,A,o,p⟩:=dP.1 R;unfold io;split
 case isFalse=>exact⟨c.ker,rfl,λ_=>c.pg,⟨y,A⟩,rfl,⟨o,p⟩,λ_=>tEq.refl _,v4 _,by show h.Kernel.Calls<=h.Kernel.Calls+1;omega,rfl⟩
 rename_i d;unfold jmay at d;simp only[I0,C0]at d;obtain⟨⟨-,C⟩,-,u,r,D⟩:=d;have fin:∀(k:af)(j:bW),aA k=true->tEq (tbl h) k.Machine.Table->0<=j.Phase/\j.Phase<=5->j.Plan=h.Job.Plan->0<=j.Next/\j.Next<=j.Plan.Cells.length->h.Kernel.Calls<=k.Calls/\k.Calls<=h.Kernel.Calls+1/\k.Refuse=h.Kernel.Refuse->JS h k j:=
  λk j S F T U V W=>⟨S,F.1,λ_=>c.pg.tEq F,T,U,V,λ_=>F,W⟩
 have P:=(aB.1 c.ker).2.2.2.2;unfold jstep;split
 ·obtain⟨l,w⟩:=AP c.ker C r (m:=1) (.inl rfl)
  obtain⟨g,t⟩:=u6 h.Kernel h.Job.Plan.Move 1;refine fin _ _ l w ?_ rfl ⟨o,p⟩ ⟨by rw[g];omega,by rw[g];omega,t⟩;show 0<=(if _ then _ else _:Int)/\(if _ then _ else _:Int)<=5;split<;>omega
 split
 ·split
  ·exact fin _ _ c.ker (tEq.refl _) ⟨by show(0:Int)<=2;omega,by show(2:Int)<=5;omega⟩ rfl ⟨o,p⟩ ⟨v4 _,by show h.Kernel.Calls<=h.Kernel.Calls+1;omega,rfl⟩
  ·have n:=kJ O (i:=h.Job.Next.toNat) ω
   refine fin _ _ (KT c.ker r u n) (tEq.refl _) ⟨y,A⟩ rfl ⟨by show 0<=h.Job.Next+1;omega,by show h.Job.Next+1<=h.Job.Plan.Cells.length;omega⟩ ⟨v4 _,by show h.Kernel.Calls<=h.Kernel.Calls+1;omega,rfl⟩
 split
 ·have G:h.Job.Plan.Move≠h.Job.Plan.Keep:=λe=>D (by rw[e])
  have l:=MV c.ker C r u G;obtain⟨g,t⟩:=J1 h.Kernel h.Job.Plan.Move h.Job.Plan.Keep;cases e:(yd h.Kernel h.Job.Plan.Move h.Job.Plan.Keep).2 with
  | false=>
   rw[C7 (by simp)];refine fin _ _ l (tEq.of ?_) ⟨by show(0:Int)<=3;omega,by show(3:Int)<=5;omega⟩ rfl ⟨o,p⟩ ⟨by rw[g];omega,by rw[g];omega,t⟩;rw[Nw e];rfl
  | true=>
   rw[C8 rfl];obtain⟨X,m2,Y,-⟩:=ce c.ker r;obtain⟨n1,n2,Z,-⟩:=ce c.ker u;have f:=Mv c.ker r e;refine⟨l,(f 0).1,λH=>?_,⟨by show(0:Int)<=4;omega,by show(4:Int)<=5;omega⟩,rfl,⟨o,p⟩,λJ=>absurd rfl J,by rw[g];omega,by rw[g];omega,t⟩;have Q:JI h:=H.elim (λJ=>absurd rfl J) id;obtain⟨a,ha,b,hb,K,M,N⟩:=Q.sp B;refine c.pg.on c.L ha hb N (by rw[K];exact Q.sk B) (by rw[K];show(nth h.Kernel.Machine.Table.Entries _).Mode≠0;rw[<-Z];exact u) (by rw[M];show(nth h.Kernel.Machine.Table.Entries _).Mode≠0;rw[<-Y];exact r) (by rw[M];exact X) (f 0).1 λq=>?_
   rw[(f q).2,M,K];rfl
 split
 ·split
  ·rename_i hn0
   have n:=kJ O (i:=(h.Job.Next - 1).toNat) ω;have hk0:=(ce c.ker u).1;obtain⟨l,w⟩:=GO c.ker (a:=h.Job.Plan.Keep*16+nth h.Job.Plan.Cells (h.Job.Next - 1).toNat) (v:=0) ω ⟨ω,ω⟩;exact fin _ _ l (tEq.of w) ⟨y,A⟩ rfl ⟨by show 0<=h.Job.Next - 1;omega,by show h.Job.Next - 1<=h.Job.Plan.Cells.length;omega⟩ ⟨v4 _,by show h.Kernel.Calls<=h.Kernel.Calls+1;omega,rfl⟩
  ·obtain⟨l,w⟩:=AP c.ker C r (m:=2) (.inr rfl)
   obtain⟨g,t⟩:=u6 h.Kernel h.Job.Plan.Move 2;refine fin _ _ l w ?_ rfl ⟨o,p⟩ ⟨by rw[g];omega,by rw[g];omega,t⟩;show 0<=(if _ then _ else _:Int)/\(if _ then _ else _:Int)<=5;split<;>omega
 ·exact fin _ _ c.ker (tEq.refl _) ⟨y,A⟩ rfl ⟨o,p⟩ ⟨v4 _,by show h.Kernel.Calls<=h.Kernel.Calls+1;omega,rfl⟩
theorem bk.mStep{h:ab}{E:List Int}(d:bk h E)(f:JI h)(c:h.Meshing=true):bk (mStep h) E/\JI (mStep h):=by
 have s:=JS.of d c;unfold Ab.mStep;generalize (io h.Kernel h.Job).1=k at s |-;generalize (io h.Kernel h.Job).2=j at s |-;cases e:over j with
 | true=>
  refine⟨d.step s.ker s.len (s.pg (.inr f)) (λh=>by simp at h) (λ_=>by simp[qa]),?_⟩;exact⟨λh=>by simp at h,λh=>by simp at h,λh=>by simp at h,λh=>by simp at h⟩
 | false=>
  simp only[Bool.false_eq_true,if_false];unfold over at e;simp only[Y3,not_or]at e;have g:=s.eq e.1;have i:=s.ph;refine⟨d.step s.ker s.len (s.pg (.inr f)) (λ_=>⟨dP.2 ⟨by rw[s.plan];exact(dP.1 (d.job c).1).1,s.ph.1,s.ph.2,s.nxt⟩,by rw[s.plan];exact(d.job c).2⟩) (λh=>by rw[c]at h;cases h),?_⟩;refine⟨λ_=>⟨s.ph.1,by show j.Phase<=3;omega⟩,λ_=>?_,λ_=>?_,λ_=>?_⟩
  ·show ∃a∈h.Spans,∃b∈h.Spans,a.Page=j.Plan.Keep/\b.Page=j.Plan.Move/\meshable a b=true
   rw[s.plan];exact f.sp c
  ·show mY k.Machine.Table j.Plan.Keep
   rw[s.plan];exact(f.sk c).tEq g
  ·show mY k.Machine.Table j.Plan.Move
   rw[s.plan];exact(f.sm c).tEq g
def j8(k:af)(a:Int):Int:=nth (nth k.Machine.Frames.Cells (ao k.Machine.Table (a / 16)).Frame.toNat) (a % 16).toNat
def cellsOf(k:af)(a:Int)(n:Nat):List Int:=(List.range n).map λ(i:Nat)=>j8 k (a+i)
theorem Js{k:af}(b:aA k=true)(p:Int):0<=(ao k.Machine.Table p).Frame/\(ao k.Machine.Table p).Frame<k.Machine.Frames.Cells.length:=by
 obtain⟨-,c,d,-⟩:=aB.1 b;obtain⟨e,f,g,h⟩:=aT.1 c;unfold ao;split
 ·rename_i i
  have:=(bn.1 d).1 p.toNat ω;unfold je at this;rw[C0]at this;by_cases a:(nth k.Machine.Table.Entries p.toNat).Mode=0
  ·have:=this.2.2.1 a;omega
  ·have:=this.2.2.2 a;omega
 ·simp only;omega
theorem Nz{k:af}(a:aA k=true){j:Nat}(b:j<k.Machine.Frames.Cells.length):(nth k.Machine.Frames.Cells j).length=16/\∀i,i<16->0<=nth (nth k.Machine.Frames.Cells j) i/\nth (nth k.Machine.Frames.Cells j) i<=999:=by
 obtain⟨-,c,-⟩:=aB.1 a;obtain⟨e,f,g,d⟩:=aT.1 c;have:=d j b;unfold gp at this;rw[I0,C0,O3]at this;refine⟨this.1,λi l=>?_⟩;have h:=this.2 _ (am (xs:=nth k.Machine.Frames.Cells j) (i:=i) ω);unfold gV at h;rw[I0,C0]at h;exact h.1
theorem GI{k:af}(b:aA k=true)(a:Int):0<=j8 k a/\j8 k a<=999:=by
 obtain⟨c,d⟩:=Js b (a / 16);exact(Nz b (j:=(ao k.Machine.Table (a / 16)).Frame.toNat) ω).2 (a % 16).toNat ω
theorem pC{n:Int}(h:0<=aN n):1<=n/\n<=8:=by
 unfold aN at h;split at h
 ·omega
 ·split at h
  ·omega
  ·split at h
   ·omega
   ·split at h
    ·omega
    ·split at h<;>omega
def P5{α:Type}[Inhabited α](f:α->Int)(xs:List α):Nat->Int
 | 0=>0
 | i+1=>P5 f xs i+f (nth xs i)
def bor(n m:Int):Int:=((n.toNat ||| m.toNat:Nat):Int)
def pU(sp:List au)(p:Int)(b:Int):Nat->Int
 | 0=>b
 | j+1=>if(nth sp j).Page=p then bor (pU sp p b j) (nth sp j).Bits else pU sp p b j
def jg(sp:List au)(ps:List Int)(b:Int):Nat->Int
 | 0=>b
 | k+1=>pU sp (nth ps k) (jg sp ps b k) sp.length
def gj(h:ab)(i:Nat):Int:=jg h.Spans (aQ h (nth h.Spans i).Page) (nth h.Spans i).Bits (aQ h (nth h.Spans i).Page).length
theorem Kl{n m:Int}(h1:0<=n/\n<=65535)(a:0<=m/\m<=65535):0<=bor n m/\bor n m<=65535:=by
 have b:n.toNat ||| m.toNat<2 ^ 16:=Nat.or_lt_two_pow ω ω
 unfold bor;omega
theorem tM{sp:List au}(h:∀s∈sp,bg s=true){j:Nat}(b:j<sp.length):0<=(nth sp j).Bits/\(nth sp j).Bits<=65535:=by
 have a:=h _ (am b);have c:=DB (nth sp j).Class;unfold bg at a;rw[C0]at a;omega
theorem tG{sp:List au}(h:∀s∈sp,bg s=true){p b:Int}(a:0<=b/\b<=65535):∀j,j<=sp.length->0<=pU sp p b j/\pU sp p b j<=65535
 | 0,_=>a
 | j+1,d=>by
  have c:=tG h (p:=p) a j ω;simp only[pU];split
  ·exact Kl c (tM h ω)
  ·exact c
theorem pO{sp:List au}(h:∀s∈sp,bg s=true){ps:List Int}{b:Int}(a:0<=b/\b<=65535):∀k,0<=jg sp ps b k/\jg sp ps b k<=65535
 | 0=>a
 | k+1=>by simp only[jg];exact tG h (pO h a k) _ (Q2 _)
theorem mc{b i:Int}(a:0<=b)(c:0<=i/\i<=15):aY b i=b.toNat.testBit i.toNat:=by
 unfold aY;rw[Nat.testBit_eq_decide_div_mod_eq];refine decide_eq_decide.2 ?_;obtain⟨n,rfl⟩ : ∃n:Nat,b=n:=⟨b.toNat,ω⟩
 rw[C2];have d:((n / 2 ^ i.toNat:Nat):Int)=(n:Int) / 2 ^ i.toNat:=by simp
 omega
theorem Et{n m i:Int}(b:0<=n)(c:0<=m)(a:0<=i/\i<=15):aY (bor n m) i=(aY n i || aY m i):=by
 rw[mc (by unfold bor;omega) a,mc b a,mc c a];unfold bor;rw[C2,Nat.testBit_or]
theorem BT{sp:List au}(h:∀s∈sp,bg s=true){p b i:Int}(k:0<=b/\b<=65535)(l:0<=i/\i<=15):∀j,j<=sp.length->(aY (pU sp p b j) i=true↔aY b i=true\/∃q,q<j/\(nth sp q).Page=p/\aY (nth sp q).Bits i=true)
 | 0,_=>by simp[pU]
 | j+1,t=>by
  have n:=BT h (p:=p) k l j ω;have o:=tG h (p:=p) k j ω;have r:=tM h (j:=j) ω;simp only[pU];split
  ·rename_i d
   rw[Et o.1 r.1 l,Y4,n];constructor
   ·rintro((e|⟨q,f,a⟩)|e)
    ·exact .inl e
    ·exact .inr ⟨q,ω,a⟩
    ·exact .inr ⟨j,ω,d,e⟩
   ·rintro(e|⟨q,f,a,c⟩)
    ·exact .inl (.inl e)
    ·by_cases g:q=j
     ·subst g;exact .inr c
     ·exact .inl (.inr ⟨q,ω,a,c⟩)
  ·rename_i d
   rw[n];constructor
   ·rintro(e|⟨q,f,a⟩)
    ·exact .inl e
    ·exact .inr ⟨q,ω,a⟩
   ·rintro(e|⟨q,f,a,c⟩)
    ·exact .inl e
    ·by_cases g:q=j
     ·subst g;exact absurd a d
     ·exact .inr ⟨q,ω,a,c⟩
theorem xZ{sp:List au}(h:∀s∈sp,bg s=true){ps:List Int}{b i:Int}(d:0<=b/\b<=65535)(f:0<=i/\i<=15):∀k,(aY (jg sp ps b k) i=true↔aY b i=true\/∃u,u<k/\∃q,q<sp.length/\(nth sp q).Page=nth ps u/\aY (nth sp q).Bits i=true)
 | 0=>by simp[jg]
 | k+1=>by
  have g:=xZ h (ps:=ps) d f k;have j:=pO h (ps:=ps) d k;simp only[jg];rw[BT h j f _ (Q2 _),g];constructor
  ·rintro((e|⟨u,c,a⟩)|⟨q,c,a⟩)
   ·exact .inl e
   ·exact .inr ⟨u,ω,a⟩
   ·exact .inr ⟨k,ω,q,c,a⟩
  ·rintro(e|⟨u,c,a⟩)
   ·exact .inl (.inl e)
   ·by_cases l:u=k
    ·subst l;exact .inr a
    ·exact .inl (.inr ⟨u,ω,a⟩)
def jo{α:Type}(p:α->Bool)(xs:List α):Nat:=(xs.findIdx? p).getD xs.length
def iF{α:Type}(p:α->Bool)(xs:List α)(y:α):List α:=xs.take (jo p xs)++y::xs.drop (jo p xs)
theorem Lu{α:Type}(p:α->Bool)(xs:List α):jo p xs<=xs.length:=by
 unfold jo;cases e:xs.findIdx? p with
 | none=>exact Q2 _
 | some i=>exact Nat.le_of_lt (O5.1 e).1
theorem jw{α:Type}(p:α->Bool)(xs:List α)(y:α):(iF p xs y).Perm (y::xs):=by
 unfold iF;refine List.perm_middle.trans ?_;rw[List.take_append_drop]
theorem cW{α:Type}{p:α->Bool}{xs:List α}{y z:α} : z∈iF p xs y↔z=y\/z∈xs:=by
 rw[(jw p xs y).mem_iff,List.mem_cons]
theorem tC{α:Type}{p:α->Bool}{xs:List α}{i:Nat}(c:i<=xs.length)(a:∀(j:Nat)(z:α),j<i->xs[j]? = some z->p z=false)(b:∀z,xs[i]? = some z->p z=true):jo p xs=i:=by
 unfold jo;by_cases e:i<xs.length
 ·rw[tD (U1 e) (b _ (U1 e)) a];rfl
 ·rw[ul ω a];show xs.length=i;omega
theorem kn{α:Type}{f:α->Int}{xs:List α}{y:α}(h:xs.Pairwise λa b=>f a<f b)(p:∀z∈xs,f z≠f y):(iF (λz=>decide (f y<=f z)) xs y).Pairwise λa b=>f a<f b:=by
 have q:∀z∈xs.drop (jo (λz=>decide (f y<=f z)) xs),f y<f z:=λz g=>by
  obtain⟨j,k,rfl⟩:=List.mem_drop_iff_getElem.1 g;have C:=p _ (List.getElem_mem k);cases e:xs.findIdx? (λz=>decide (f y<=f z)) with
  | none=>
   have l:jo (λz=>decide (f y<=f z)) xs=xs.length:=by unfold jo;rw[e];rfl
   rw[l]at k;omega
  | some i=>
   have l:jo (λz=>decide (f y<=f z)) xs=i:=by unfold jo;rw[e];rfl
   obtain⟨r,t,-⟩:=O5.1 e;rw[C0]at t;have c:i+j<xs.length:=by rw[<-l];omega
   have n:f xs[i+j]≠f y:=p _ (List.getElem_mem c);have d:f y<f xs[i+j]:=by
    cases j with
    | zero=>simp only[Nat.add_zero]at n |-;omega
    | succ j=>
     have:=List.pairwise_iff_getElem.1 h i (i+(j+1)) r c ω;omega
   have w:xs[jo (λz=>decide (f y<=f z)) xs+j]? = xs[i+j]?:=by rw[l]
   rw[U1 ω,U1 c]at w;rw[Option.some.inj w];exact d
 have A:∀z∈xs.take (jo (λz=>decide (f y<=f z)) xs),f z<f y:=λz g=>by
  obtain⟨j,k,rfl⟩:=List.mem_take_iff_getElem.1 g;unfold jo at k;cases e:xs.findIdx? (λz=>decide (f y<=f z)) with
  | none=>
   have:=List.findIdx?_eq_none_iff.1 e _ (List.getElem_mem (show j<xs.length by omega));simp only[Y3]at this;omega
  | some i=>
   obtain⟨r,t,B⟩:=O5.1 e;simp only[e,Option.getD_some]at k;have:=B j ω;simp only[C0]at this;omega
 unfold iF;refine List.pairwise_append.2 ⟨h.sublist (List.take_sublist ..),List.pairwise_cons.2 ⟨q,h.sublist (List.drop_sublist ..)⟩,λz g u o=>?_⟩;rcases List.mem_cons.1 o with rfl|o
 ·exact A z g
 ·exact Int.lt_trans (A z g) (q u o)
def gg(b i:Int):Int:=((b.toNat ||| 2 ^ i.toNat:Nat):Int)
def pA(s:au)(i:Int):au:={s with Bits:=gg s.Bits i}
theorem vV(b i:Int)(j:Nat):(gg b i).toNat.testBit j=(b.toNat.testBit j || decide (i.toNat=j)):=by
 unfold gg;rw[C2,Nat.testBit_or,Nat.testBit_two_pow]
theorem Fb{b i:Int}(g:0<=b)(e:0<=i/\i<=15)(j:Int):aY (gg b i) j=true↔aY b j=true\/j=i:=by
 rw[fS,fS,vV,Y4,C0];have f:0<=gg b i:=by unfold gg;omega
 constructor
 ·rintro⟨h,c,d,a|a⟩
  ·exact .inl ⟨g,c,d,a⟩
  ·exact .inr ω
 ·rintro(⟨h,c,d,a⟩|rfl)
  ·exact⟨f,c,d,.inl a⟩
  ·exact⟨f,e.1,e.2,.inr rfl⟩
theorem fZ{k:Int}(h:0<=k/\k<=3):lim k=2 ^ (slots k).toNat - 1/\0<=slots k/\slots k<=16/\slots k*csz k=16:=by
 obtain rfl|rfl|rfl|rfl:k=0\/k=1\/k=2\/k=3:=ω
 all_goals decide
theorem zM{s:au}(h:bg s=true){i:Int}(k:0<=i/\i<slots s.Class):bg (pA s i)=true:=by
 have b:=aF h;obtain⟨c,l,o,-⟩:=fZ b.2.2;unfold bg at h;rw[C0]at h;obtain⟨d,e,f,g,p,a⟩:=h;refine O0 ⟨d,e,f,g,by show 0<=gg s.Bits i;unfold gg;omega,?_⟩;show gg s.Bits i<=lim s.Class;rw[c]at a |-;have j:((2 ^ (slots s.Class).toNat:Nat):Int)=(2:Int) ^ (slots s.Class).toNat:=by norm_cast
 rw[<-j]at a |-;have:=Nat.or_lt_two_pow (x:=s.Bits.toNat) (y:=2 ^ i.toNat) (n:=(slots s.Class).toNat) ω (Nat.pow_lt_pow_right ω ω);unfold gg;omega
theorem xP{s u:au}{i:Int}(b:0<=i/\i<slots s.Class)(c:aY u.Bits i=false)(h:meshable s u=true):meshable (pA s i) u=true:=by
 unfold meshable at h |-;simp only[I0,C0]at h |-;obtain⟨⟨d,f⟩,k,l,o⟩:=h;have p:=aF d;obtain⟨r,t,w,-⟩:=fZ p.2.2;have a:=ed f;refine⟨⟨zM d b,f⟩,k,l,?_⟩;refine Nat.eq_of_testBit_eq λj=>?_
 have g:=T0 (λn=>Nat.testBit n j) o;simp only[Nat.testBit_and,Nat.zero_testBit,pA,vV]at g |-;by_cases e:i.toNat=j
 ·have:u.Bits.toNat.testBit j=false:=by
   rw[<-O4];intro q;have:=(fS u.Bits i).2 ⟨a.1,b.1,ω,by rw[e];exact q⟩;rw[this]at c;cases c
  rw[this];simp
 ·rw[Q0 e,Bool.or_false];exact g
theorem rX{s:au}(h:bg s=true){i:Int}(n:0<=i/\i<slots s.Class)(b:Int):eM (pA s i) b↔eM s b\/b=16*s.Page+i*csz s.Class:=by
 have g:=aF h;obtain⟨o,p,k,l⟩:=fZ g.2.2;have j:=co g.2.2;unfold eM;simp only[pA];rw[Fb (ed h).1 ω];constructor
 ·rintro⟨d,f,c,a|a⟩
  ·exact .inl ⟨d,f,c,a⟩
  ·right
   rcases j with e|e|e|e<;>rw[e]at c a |-<;>omega
 ·rintro(⟨d,f,c,a⟩|rfl)
  ·exact⟨d,f,c,.inl a⟩
  ·have q:slots s.Class<=16:=k
   rcases j with e|e|e|e<;>rw[e]at l |-<;>refine⟨?_,?_,?_,.inr ?_⟩<;>omega
theorem H5{sp:List au}{i:Nat}(k:Int)(a:i<sp.length):(sp.set i (pA (nth sp i) k)).map (·.Page)=sp.map (·.Page):=by
 rw[X4];refine List.ext_getElem (by simp) λj b c=>?_
 rw[List.getElem_set];split
 ·rename_i e;subst e
  rw[List.getElem_map];show(nth sp i).Page=_;rw[br (U1 a)]
 ·rfl
theorem iV.setS{sp:List au}{la:List a8}(p:qP sp la){i:Nat}(g:i<sp.length){k:Int}(h:0<=k/\k<slots (nth sp i).Class)(b c:Int):iV (sp.set i (pA (nth sp i) k)) b c↔iV sp b c\/(b=16*(nth sp i).Page+k*csz (nth sp i).Class/\(c<0\/(nth sp i).Class=c)):=by
 have d:=p.sok _ (am g);constructor
 ·rintro⟨s,l,f,a⟩
  rcases eI l with rfl|⟨j,n,q,rfl⟩
  ·rcases(rX d h b).1 f with o|o
   ·exact .inl ⟨_,am g,o,a⟩
   ·exact .inr ⟨o,a⟩
  ·exact .inl ⟨_,am n,f,a⟩
 ·rintro(⟨s,l,f,a⟩|⟨f,a⟩)
  ·obtain⟨j,n,rfl⟩:=bf l
   by_cases e:j=i
   ·subst e
    exact⟨_,gT _ g,(rX d h b).2 (.inl f),a⟩
   ·exact⟨_,iT _ n e,f,a⟩
  ·exact⟨_,gT _ g,(rX d h b).2 (.inr f),a⟩
theorem LY{h:ab}{E:List Int}(d:bk h E){i:Nat}(l:i<h.Spans.length){k:Int}(p:0<=k/\k<=15)(b:aY (gj h i) k=false):aY (nth h.Spans i).Bits k=false/\∀u∈h.Spans,(nth (tbl h).Entries u.Page.toNat).Frame=(nth (tbl h).Entries (nth h.Spans i).Page.toNat).Frame->aY u.Bits k=false:=by
 have e:=d.L;have q:=ed (e.sok _ (am l));unfold gj at b;rw[<-O4,xZ e.sok q p]at b;rw[not_or]at b;have r:aY (nth h.Spans i).Bits k=false:=by simpa using b.1
 have a:∀s∈h.Spans,s.Page.toNat<dQ h/\(nth (tbl h).Entries s.Page.toNat).Mode≠0/\((s.Page.toNat:Nat):Int)=s.Page:=λs f=>by
  have K:=aF (e.sok s f);have M:=d.pg.bnd s.Page (dr f);have n:s.Page.toNat<(tbl h).Entries.length:=ω
  have o:((s.Page.toNat:Nat):Int)=s.Page:=ω
  exact⟨n,(d.pg.own _ n).2 (by rw[o];exact dr f),o⟩
 refine⟨r,λu c t=>?_⟩;rw[<-O4];intro w;obtain⟨y,A,B⟩:=a _ (am l);obtain⟨C,D,F⟩:=a u c;have G:u.Page∈aQ h (nth h.Spans i).Page:=by
  rw[<-B,eg y A,<-F];exact du.2 ⟨C,D,t⟩
 obtain⟨v,H,g⟩:=bf G;obtain⟨j,J,rfl⟩:=bf c;exact b.2 ⟨v,H,j,J,g.symm,w⟩
theorem bk.take{h:ab}{E:List Int}{i:Nat}{k sd:Int}(g:bk h E)(C:i<h.Spans.length)(D:0<=k/\k<slots (nth h.Spans i).Class)(r:aY (gj h i) k=false)(M:0<=sd/\sd<=1073741823) :
  bk {h with Seed:=sd,Spans:=h.Spans.set i (pA (nth h.Spans i) k)} ((16*(nth h.Spans i).Page+k*csz (nth h.Spans i).Class)::E):=by
 have F:=g.L;have T:=F.sok _ (am C);have Q:=aF T;obtain⟨l1,l2,l3,l4⟩:=fZ Q.2.2;have hz:=co Q.2.2;obtain⟨u1,u2⟩:=LY g C ⟨D.1,ω⟩ r;have n:=λb c=>iV.setS F C D b c
 have w:=H5 k C;generalize ha:16*(nth h.Spans i).Page+k*csz (nth h.Spans i).Class=a at n |-;have G:¬eM (nth h.Spans i) a:=by
  rintro⟨-,-,-,h4⟩
  have:(a - 16*(nth h.Spans i).Page) / csz (nth h.Spans i).Class=k:=by
   rw[<-ha];rcases hz with e|e|e|e<;>rw[e]<;>omega
  rw[this,u1]at h4;cases h4
 have hrange:16*(nth h.Spans i).Page<=a/\a<=16*(nth h.Spans i).Page+15:=by
  rcases hz with e|e|e|e<;>rw[e]at ha l4<;>omega
 have U:¬kZ h.Spans h.Larges a:=by
  rintro(⟨s,p,d,-⟩|⟨l,hl,e⟩)
  ·obtain⟨j,V,rfl⟩:=bf p
   have:=gy (f:=(·.Page)) F.nd V C (by have a1:=d.1;have a2:=d.2.1;omega);subst this;exact G d
  ·exact(tS F hl).1 _ (am C) ω
 have W:a∉E++holders h:=λX=>U ((g.mem a).1 X)
 have q:∀s∈h.Spans.set i (pA (nth h.Spans i) k),∃u∈h.Spans,u.Page=s.Page/\(s=u\/(u=nth h.Spans i/\s=pA u k)):=λs p=>by
  rcases eI p with rfl|⟨j,V,hji,rfl⟩
  ·exact⟨_,am C,rfl,.inr ⟨rfl,rfl⟩⟩
  ·exact⟨_,am V,rfl,.inl rfl⟩
 generalize hsp:h.Spans.set i (pA (nth h.Spans i) k)=sp at n w q |-;have t:pgs sp h.Larges=pgs h.Spans h.Larges:=by unfold pgs;rw[w]
 have N:∀u∈h.Spans,∃s∈sp,s.Page=u.Page:=λu r=>by
  have:u.Page∈sp.map (·.Page):=by rw[w];exact U3.2 ⟨u,r,rfl⟩
  obtain⟨s,p,e⟩:=U3.1 this;exact⟨s,p,e⟩
 exact {g with
   lay:=by
     obtain⟨l1,l2,l3⟩:=dc g.lay;unfold bj;simp only[I0,C0];refine⟨⟨O3.2 λs p=>?_,l2⟩,by rw[t];exact l3⟩;obtain⟨u,r,-,rfl|⟨rfl,rfl⟩⟩:=q s p
     · exact F.sok _ r
     · exact zM (F.sok _ r) D
   srs:=by
     have d:(h.Spans.map (·.Page)).Pairwise (λa b=>a<b):=List.pairwise_map.2 g.srs;rw[<-w]at d;exact List.pairwise_map.1 d
   pg:=⟨g.pg.one,by rw[t];exact g.pg.bnd,by rw[t];exact g.pg.own,g.pg.fre,λs p u r O hf=>by
     obtain⟨R,A,Y,Z⟩:=q s p;obtain⟨S,B,eu,P⟩:=q u r;have H:(nth (tbl h).Entries R.Page.toNat).Frame=(nth (tbl h).Entries S.Page.toNat).Frame:=by rw[Y,eu];exact hf
     have d:=g.pg.mesh R A S B (by rw[Y,eu];exact O) H;rcases Z with rfl|⟨rfl,rfl⟩
     · rcases P with rfl|⟨rfl,rfl⟩
       · exact d
       · rw[iv]at d |-
         exact xP D (u2 _ A H) d
     · rcases P with rfl|⟨rfl,rfl⟩
       · exact xP D (u2 _ B H.symm) d
       · exact absurd (Y.symm.trans eu) O⟩
   nums:=by
     have:=g.nums;unfold cj at this |-;rw[C0]at this |-;exact⟨M.1,M.2,this.2.2⟩
   oow:=λo ho=>by
     rcases g.oow o ho with⟨s,p,d,h2⟩|d
     · obtain⟨u,r,g1,K⟩:=(n o.Addr (aN o.Size)).2 (.inl ⟨s,p,d,.inr h2⟩)
       refine .inl ⟨u,r,g1,?_⟩;rcases K with K|K
       · have:=aF (F.sok _ p);omega
       · exact K
     · exact .inr d
   hca:=λc Q k D b J=>(n b k).2 (.inl (g.hca c Q k D b J))
   hqu:=λy hy=>(n _ _).2 (.inl (g.hqu y hy))
   hfl:=λb J=>(n _ _).2 (.inl (g.hfl b J))
   hin:=λb J=>by
     rcases List.mem_cons.1 J with rfl|J
     · exact(n _ _).2 (.inr ⟨rfl,.inl (by decide)⟩)
     · exact(n _ _).2 (.inl (g.hin b J))
   nd:=by
     rw[List.cons_append];exact List.nodup_cons.2 ⟨W,g.nd⟩
   mem:=λb=>by
     show b∈a::E++holders h↔kZ sp h.Larges b;rw[List.cons_append,List.mem_cons,g.mem b];unfold kZ;rw[n];constructor
     · rintro(rfl|d|d)
       · exact .inl (.inr ⟨rfl,.inl (by decide)⟩)
       · exact .inl (.inl d)
       · exact .inr d
     · rintro((d|⟨d,-⟩)|d)
       · exact .inr (.inl d)
       · exact .inl d
       · exact .inr (.inr d)
   job:=λX=>by
     obtain⟨j1,⟨s,p,e1⟩,⟨u,r,e2⟩⟩:=g.job X;obtain⟨R,A,g1⟩:=N s p;obtain⟨S,B,K⟩:=N u r;exact⟨j1,⟨R,A,g1.trans e1⟩,⟨S,B,K.trans e2⟩⟩}
def qC(c:aC)(k:Nat):aC:=⟨c.Lists.set k ((nth c.Lists k).take ((nth c.Lists k).length - 1))⟩
theorem HJ{l:List Int}(h:0<l.length):l=l.take (l.length - 1)++[nth l (l.length - 1)]:=by
 have a:l.drop (l.length - 1)=[nth l (l.length - 1)]:=by
  rw[iI ω,show l.length - 1+1=l.length by omega,List.drop_length]
 rw[<-a,List.take_append_drop]
theorem bk.pop{h:ab}{E:List Int}{t k:Nat}(f:bk h E)(l:t<h.Caches.length)(p:k<(nth h.Caches t).Lists.length)(u:0<(nth (nth h.Caches t).Lists k).length)(w:bt (qC (nth h.Caches t) k)=true) :
  bk {h with Caches:=h.Caches.set t (qC (nth h.Caches t) k)} (nth (nth (nth h.Caches t).Lists k) ((nth (nth h.Caches t).Lists k).length - 1)::E)/\iV h.Spans (nth (nth (nth h.Caches t).Lists k) ((nth (nth h.Caches t).Lists k).length - 1)) k:=by
 have q:=HJ u;have n:=f.hca _ (am l) k p (nth (nth (nth h.Caches t).Lists k) ((nth (nth h.Caches t).Lists k).length - 1)) (am ω);refine⟨?_,n⟩;generalize D:nth (nth (nth h.Caches t).Lists k) ((nth (nth h.Caches t).Lists k).length - 1)=a at q n |-;have r:(E++holders h).Perm (a::E++holders {h with Caches:=h.Caches.set t (qC (nth h.Caches t) k)}):=by
  refine List.perm_iff_count.2 λb=>?_
  have A:=gS (λc:aC=>c.Lists.flatten) b h.Caches t (qC (nth h.Caches t) k) l;have B:=gS (λy:List Int=>y) b (nth h.Caches t).Lists k ((nth (nth h.Caches t).Lists k).take ((nth (nth h.Caches t).Lists k).length - 1)) p;rw[<-jL,<-jL]at B;have C:=T0 (List.count b) q;simp only[W4,List.count_singleton]at C;simp only[qC]at A;simp only[holders,ch,qC,W4,List.cons_append,List.count_cons];omega
 exact {f with
   nc:=by show(h.Caches.set ..).length=_;rw[C1];exact f.nc
   cach:=λc d=>by
     rcases t5 d with d|rfl
     · exact f.cach c d
     · exact w
   onu:=by show ∀o∈h.Objs,1<=o.Id/\o.Id<=h.Next - 1/\0<=o.Thread/\o.Thread<=(h.Caches.set t _).length - 1;rw[C1];exact f.onu
   hca:=λc d j i b g=>by
     rcases t5 d with d|rfl
     · exact f.hca c d j i b g
     · simp only[qC,C1]at i
       simp only[qC,bS]at g;by_cases e:k=j
       · subst e
         rw[C8 ⟨rfl,i⟩]at g;exact f.hca _ (am l) _ i b (List.mem_of_mem_take g)
       · rw[C7 λy=>e y.1]at g
         exact f.hca _ (am l) _ i b g
   hin:=λb g=>by
     rcases List.mem_cons.1 g with rfl|g
     · exact n.any
     · exact f.hin b g
   nd:=r.nodup_iff.1 f.nd
   mem:=λb=>by rw[<-r.mem_iff];exact f.mem b}
def Le(a:Int)(o:bC):Bool:=decide (a<=o.Addr)
def addO(h:ab)(a size t:Int):ab:={h with Objs:=iF (Le a) h.Objs ⟨h.Next,a,size,t⟩,Next:=h.Next+1}
theorem yp{h:ab}(a:cj h=true)(b:h.Next<1000000):decide (0<=h.Seed/\h.Seed<=1073741823/\0<=h.Clock/\h.Clock<=1000000/\0<=h.Limit/\h.Limit<=1000/\1<=h.Next+1/\h.Next+1<=1000000)=true:=by
 unfold cj at a;rw[C0]at a |-;omega
theorem bk.addO{h:ab}{E:List Int}{a size t:Int}(c:bk h (a::E))(d:Jr h.Spans h.Larges ⟨h.Next,a,size,t⟩)(p:h.Next<1000000)(q:0<=t/\t<=h.Caches.length - 1):bk (addO h a size t) E:=by
 have i:=jw (Le a) h.Objs ⟨h.Next,a,size,t⟩;have n:(a::E++holders h).Perm (E++holders (Ab.addO h a size t)):=by
  have r:=i.map (·.Addr);refine List.perm_iff_count.2 λb=>?_
  have u:=r.count_eq b;simp only[V4,List.count_cons]at u;simp only[holders,ch,Ab.addO,W4,List.cons_append,List.count_cons];omega
 have j:=c.nd;rw[List.cons_append]at j;obtain⟨k,-⟩:=List.nodup_cons.1 j;have l:∀o∈h.Objs,o.Addr≠a:=λo d e=>k (O2.2 (.inr (by unfold holders;simp only[O2];exact .inl (.inl (.inl (U3.2 ⟨o,d,e⟩))))))
 exact {c with
   nums:=yp c.nums p
   osr:=kn (f:=λo:bC=>o.Addr) (y:=⟨h.Next,a,size,t⟩) c.osr l
   onu:=λo d=>by
     rcases cW.1 d with rfl|d
     · have:=c.nums
       unfold cj at this;rw[C0]at this;exact⟨by show 1<=h.Next;omega,by show h.Next<=h.Next+1 - 1;omega,q⟩
     · have:=c.onu o d
       exact⟨this.1,by show o.Id<=h.Next+1 - 1;omega,this.2.2⟩
   oid:=by
     show((iF (Le a) h.Objs ⟨h.Next,a,size,t⟩).map (·.Id)).Nodup;rw[(i.map _).nodup_iff,V4];refine List.nodup_cons.2 ⟨λw=>?_,c.oid⟩;obtain⟨o,d,e⟩:=U3.1 w;have:=(c.onu o d).2.1;simp only at e;omega
   oow:=λo g=>by
     rcases cW.1 g with rfl|g
     · exact d
     · exact c.oow o g
   hin:=λb A=>c.hin b (I4 _ A)
   nd:=n.nodup_iff.1 c.nd
   mem:=λb=>by rw[<-n.mem_iff];exact c.mem b}
end Go.Proofs.YtembpgjjnioagaaGreat.Ab
