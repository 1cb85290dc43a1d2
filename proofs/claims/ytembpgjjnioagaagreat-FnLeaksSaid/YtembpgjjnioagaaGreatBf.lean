/- Pages given back: what holds of a heap is kept. No condition. -/
import Derived.Test.YtembpgjjnioagaaGreatBd
import Derived.Test.YtembpgjjnioagaaGreatBe
import Derived.Deep.LoopGhost
import Derived.Deep.RegionLaw
import Derived.Lib.Walk
import Derived.Sort.WalkB12
import Derived.Lib.SliceRun
import Derived.Shelf.RegionOpenPlain
set_option linter.unusedVariables false
set_option linter.unusedSimpArgs false
set_option linter.constructorNameAsVariable false
namespace Go.Proofs.YtembpgjjnioagaaGreat.Ab
def dR(k:af)(p:Int):Nat->af
 | 0=>k
 | n+1=>dM (dR k p n) (p+n)
theorem kq{k:af}(h:aB k=true)(p:Int):∀n,aB (dR k p n)=true
 | 0=>h
 | n+1=>vc _ (kq h p n)
theorem iv(k:af)(p:Int):∀n,(dR k p n).Machine.Table.Entries.length=k.Machine.Table.Entries.length/\(dR k p n).Calls=k.Calls/\(dR k p n).Refuse=k.Refuse
 | 0=>⟨rfl,rfl,rfl⟩
 | n+1=>by
  obtain⟨a,b,c⟩:=iv k p n;obtain⟨d,e,f⟩:=pR (dR k p n) (p+n);exact⟨d.trans a,e.trans b,f.trans c⟩
theorem uN{k:af}(h:aB k=true){p:Int}(d:0<=p/\p<k.Machine.Table.Entries.length)(q:Nat):nth (dM k p).Machine.Table.Entries q=if(q:Int)=p then⟨0,0⟩ else nth k.Machine.Table.Entries q:=by
 have g:ar k.Machine.Table p=nth k.Machine.Table.Entries p.toNat:=by unfold ar;rw[C8 d]
 unfold dM;split
 ·rename_i a
  split
  ·rename_i i
   rw[g]at a;have b:=(bw.1 (aF.1 h).2.2.1).1 p.toNat ω;unfold jT at b;rw[C0]at b;have c:=b.2.2.1 a;rw[show q=p.toNat by omega];generalize nth k.Machine.Table.Entries p.toNat=e at a c;obtain⟨m,f⟩:=e;simp only at a c;rw[a,c]
  ·rfl
 ·rw[(oq _ _).1]
  simp only[qa,cu];by_cases e:(q:Int)=p
  ·rw[C8 ⟨ω,ω⟩,C8 e]
  ·rw[C7 λx=>e ω,C7 e]
theorem lE{k:af}(h:aB k=true){p:Int}(b:0<=p):∀n:Nat,p+n<=k.Machine.Table.Entries.length->∀q:Nat,nth (dR k p n).Machine.Table.Entries q=if p<=q/\(q:Int)<p+n then⟨0,0⟩ else nth k.Machine.Table.Entries q
 | 0,_,q=>by rw[C7 ω];rfl
 | n+1,f,q=>by
  have c:=lE h b n ω q;have d:=uN (kq h p n) (p:=p+n) ⟨ω,by rw[(iv k p n).1];omega⟩ q;show nth (dM (dR k p n) (p+n)).Machine.Table.Entries q=_;rw[d,c];by_cases e:(q:Int)=p+n
  ·rw[C8 e,C8 ⟨ω,ω⟩]
  ·rw[C7 e]
   by_cases a:p<=q/\(q:Int)<p+n
   ·rw[C8 a,C8 ⟨ω,ω⟩]
   ·rw[C7 a,C7 ω]
theorem BL{α β:Type}(f:α->List β){xs c:List α}(h:xs.Sublist c):(xs.flatMap f).Sublist (c.flatMap f):=by
 induction h with
 | slnil=>exact List.Sublist.refl _
 | cons a _ b=>rw[v5];exact b.trans (List.sublist_append_right ..)
 | cons_cons a _ b=>rw[v5,v5];exact List.Sublist.append (List.Sublist.refl _) b
theorem wc{h:ab}{E:List Int}(c:bp h E){sp:List au}{la:List a8}{p:Int}{n:Nat}(Y:1<=n)(w:sp.Sublist h.Spans)(D:la.Sublist h.Larges)(j:∀q:Int,p<=q->q<p+n->q∈pgs h.Spans h.Larges)(K:0<=p)(F:∀q,q∈pgs sp la↔q∈pgs h.Spans h.Larges/\¬(p<=q/\q<p+n)) :
  ∃o,d2 (dQ h) h.Free ⟨p,n⟩ = some o/\aB (dR h.Kernel p n)=true/\bv ((dR h.Kernel p n).Machine.Table.Entries.length:Nat) o=true/\bc sp la=true/\Pg (dR h.Kernel p n).Machine.Table o sp la:=by
 have t:=c.pg.bnd _ (j (p+n - 1) ω ω);have a:=(iv h.Kernel p n).1;have y:p+n<=h.Kernel.Machine.Table.Entries.length:=by unfold tbl at t;omega
 have g:=lE c.ker K n y;obtain⟨o,Q,R,S⟩:=tB (r:=⟨p,n⟩) c.rng ⟨K,by simp only;omega,y⟩ λq M N=>by
  simp only at M N;obtain⟨m,rfl⟩:=I2 (show 0<=q by omega);have A:m<(tbl h).Entries.length:=by unfold tbl;omega
  exact(c.pg.fre m A).1 ((c.pg.own m A).2 (j _ M N))
 refine⟨o,Q,kq c.ker p n,by rw[a];exact R,?_,?_⟩
 ·obtain⟨T,U,V⟩:=cZ c.lay
  unfold bc;simp only[I0,C0];exact⟨⟨I3.2 λs d=>I3.1 T s (w.subset d),I3.2 λl d=>I3.1 U l (D.subset d)⟩,V.sublist ((w.map _).append (BL _ D))⟩
 ·have i:∀q:Nat,(q:Int)∈pgs sp la->nth (dR h.Kernel p n).Machine.Table.Entries q=nth (tbl h).Entries q:=λq f=>by rw[g,C7 ((F q).1 f).2];rfl
  have b:∀q:Nat,(nth (dR h.Kernel p n).Machine.Table.Entries q).Mode≠0↔(nth (tbl h).Entries q).Mode≠0/\¬(p<=q/\(q:Int)<p+n):=λq=>by
   rw[g];by_cases e:p<=q/\(q:Int)<p+n
   ·rw[C8 e];exact⟨λx=>absurd rfl x,λx=>absurd e x.2⟩
   ·rw[C7 e];exact⟨λx=>⟨x,e⟩,λx=>x.1⟩
  refine⟨λl d q f r O G B=>?_,λq f=>?_,λq f=>?_,λq f=>?_,λs d u H J P=>?_⟩
  ·have C:=(b r).1 G
   rw[a]at O;rw[i q (fm d f),g,C7 C.2]at B;exact c.pg.one l (D.subset d) q f r O C.1 B
  ·rw[a];exact c.pg.bnd q ((F q).1 f).1
  ·rw[a]at f
   rw[b,F,c.pg.own q f]
  ·rw[a]at f
   rw[b,S,c.pg.fre q f];simp only
   grind
  ·have k:∀s∈sp,0<=s.Page:=λs d=>(aE (c.L.sok s (w.subset d))).1
   have W:=i s.Page.toNat (by rw[Int.toNat_of_nonneg (k s d)];exact d8 d);have X:=i u.Page.toNat (by rw[Int.toNat_of_nonneg (k u H)];exact d8 H);rw[W,X]at P;exact c.pg.mesh s (w.subset d) u (w.subset H) J P
theorem eg{α:Type}[Inhabited α]{xs:List α}{k:Nat}{z:α} : z∈dele xs k↔∃j,j<xs.length/\j≠k/\nth xs j=z:=by
 unfold dele;rw[O2];constructor
 ·rintro(h|h)
  ·obtain⟨j,a,rfl⟩:=List.mem_take_iff_getElem.1 h
   exact⟨j,ω,ω,bo (U1 ω)⟩
  ·obtain⟨j,a,rfl⟩:=List.mem_drop_iff_getElem.1 h
   exact⟨k+1+j,ω,ω,bo (U1 ω)⟩
 ·rintro⟨j,a,b,rfl⟩
  rw[bo (U1 a)];by_cases e:j<k
  ·exact .inl (List.mem_take_iff_getElem.2 ⟨j,ω,rfl⟩)
  ·refine .inr (List.mem_drop_iff_getElem.2 ⟨j - (k+1),ω,?_⟩)
   congr 1;omega
theorem oI{sp:List au}{la:List a8}{q:Int} : q∈pgs sp la↔(∃s∈sp,s.Page=q)\/∃l∈la,q∈lpgs l l.Pages.toNat:=by
 unfold pgs;simp only[O2,T3,List.mem_flatMap]
theorem zV{s:au}(h:s.Bits=0)(a:Int):¬eP s a:=by
 rintro⟨-,-,-,b⟩
 rw[fS,h]at b;simp at b
theorem bp.giveSpan{h:ab}{E:List Int}{i:Nat}(g:bp h E)(B:i<h.Spans.length)(y:(nth h.Spans i).Bits=0)(W:h.Meshing=true->(nth h.Spans i).Page≠h.Job.Plan.Keep/\(nth h.Spans i).Page≠h.Job.Plan.Move) :
  ∃o,d2 (dQ h) h.Free ⟨(nth h.Spans i).Page,1⟩ = some o/\bp {h with Kernel:=dM h.Kernel (nth h.Spans i).Page,Spans:=dele h.Spans i,Free:=o} E:=by
 have F:=g.L;have G:=aE (F.sok _ (am B));have A:∀q,q∈pgs (dele h.Spans i) h.Larges↔q∈pgs h.Spans h.Larges/\¬((nth h.Spans i).Page<=q/\q<(nth h.Spans i).Page+(1:Nat)):=λq=>by
  rw[oI,oI];constructor
  ·rintro(⟨s,r,rfl⟩|⟨l,C,D⟩)
   ·obtain⟨j,d,H,rfl⟩:=eg.1 r
    refine⟨.inl ⟨_,am d,rfl⟩,λe=>H (gF (f:=(·.Page)) F.nd d B ω)⟩
   ·refine⟨.inr ⟨l,C,D⟩,λe=>?_⟩
    obtain⟨k,J,rfl⟩:=di.1 D;exact F.dis _ (am B) l C k J ω
  ·rintro⟨⟨s,r,rfl⟩|⟨l,C,D⟩,K⟩
   ·obtain⟨j,d,rfl⟩:=aZ r
    refine .inl ⟨_,eg.2 ⟨j,d,λe=>K (by subst e;omega),rfl⟩,rfl⟩
   ·exact .inr ⟨l,C,D⟩
 obtain⟨o,X,Q,R,Y,S⟩:=wc g (sp:=dele h.Spans i) (la:=h.Larges) (p:=(nth h.Spans i).Page) (n:=1) (Q2 _) (fw ..) (List.Sublist.refl _) (λq q1 q2=>by rw[show q=(nth h.Spans i).Page by omega];exact d8 (am B)) G.1 A;have M:dR h.Kernel (nth h.Spans i).Page 1=dM h.Kernel (nth h.Spans i).Page:=by show dM h.Kernel ((nth h.Spans i).Page+((0:Nat):Int))=_;rw[show(nth h.Spans i).Page+((0:Nat):Int)=(nth h.Spans i).Page by omega]
 rw[M]at Q R S;have t:∀b c,jl (dele h.Spans i) b c↔jl h.Spans b c:=λb c=>by
  constructor
  ·rintro⟨s,r,w⟩;exact⟨s,(fw ..).subset r,w⟩
  ·rintro⟨s,r,w,N⟩
   obtain⟨j,d,rfl⟩:=aZ r;exact⟨_,eg.2 ⟨j,d,λe=>zV y b (by rw[<-e];exact w),rfl⟩,w,N⟩
 refine⟨o,X,{g with
   ker:=Q
   rng:=R
   lay:=Y
   srs:=g.srs.sublist (fw ..)
   pg:=S
   oow:=λZ ho=>?_
   hca:=λc G k J b y=>(t b k).2 (g.hca c G k J b y)
   hqu:=λx hx=>(t _ _).2 (g.hqu x hx)
   hfl:=λb y=>(t _ _).2 (g.hfl b y)
   hin:=λb y=>(t _ _).2 (g.hin b y)
   mem:=λb=>(g.mem b).trans ?_
   job:=λT=>?_}⟩
 ·rcases g.oow Z ho with⟨s,r,w,N⟩|w
  ·obtain⟨j,d,rfl⟩:=aZ r
   exact .inl ⟨_,eg.2 ⟨j,d,λe=>zV y _ (by rw[<-e];exact w),rfl⟩,w,N⟩
  ·exact .inr w
 ·unfold Live;rw[t]
 ·obtain⟨j1,⟨s,r,U⟩,⟨u,M,V⟩⟩:=g.job T
  obtain⟨n1,n2⟩:=W T;obtain⟨a,O,rfl⟩:=aZ r;obtain⟨b,P,rfl⟩:=aZ M;exact⟨j1,⟨_,eg.2 ⟨a,O,λe=>n1 (by rw[<-e];exact U),rfl⟩,U⟩,⟨_,eg.2 ⟨b,P,λe=>n2 (by rw[<-e];exact V),rfl⟩,V⟩⟩
theorem bp.dropL{h:ab}{E:List Int}{i k:Nat}(d:bp h E)(S:i<h.Objs.length)(y:k<h.Larges.length)(G:(nth h.Objs i).Addr=16*(nth h.Larges k).Page) :
  ∃o,d2 (dQ h) h.Free ⟨(nth h.Larges k).Page,(nth h.Larges k).Pages⟩ = some o/\bp {h with Kernel:=dR h.Kernel (nth h.Larges k).Page (nth h.Larges k).Pages.toNat,Larges:=dele h.Larges k,Free:=o,Objs:=dele h.Objs i} E:=by
 have A:=d.L;have T:=aR (A.lok _ (am y));have C:∀q,q∈pgs h.Spans (dele h.Larges k)↔q∈pgs h.Spans h.Larges/\¬((nth h.Larges k).Page<=q/\q<(nth h.Larges k).Page+((nth h.Larges k).Pages.toNat:Nat)):=λq=>by
  rw[oI,oI];constructor
  ·rintro(⟨s,B,rfl⟩|⟨l,f,D⟩)
   ·refine⟨.inl ⟨s,B,rfl⟩,λe=>A.dis s B _ (am y) (s.Page - (nth h.Larges k).Page).toNat ω ω⟩
   ·obtain⟨j,c,t,rfl⟩:=eg.1 f
    refine⟨.inr ⟨_,am c,D⟩,λe=>?_⟩;obtain⟨m,N,rfl⟩:=di.1 D;exact t (A.one j k c y m ((nth h.Larges j).Page+(m:Int) - (nth h.Larges k).Page).toNat N ω ω)
  ·rintro⟨⟨s,B,rfl⟩|⟨l,f,D⟩,g⟩
   ·exact .inl ⟨s,B,rfl⟩
   ·obtain⟨j,c,rfl⟩:=aZ f
    refine .inr ⟨_,eg.2 ⟨j,c,λe=>g ?_,rfl⟩,D⟩;subst e;obtain⟨m,N,rfl⟩:=di.1 D;omega
 obtain⟨o,O,U,V,W,X⟩:=wc d (sp:=h.Spans) (la:=dele h.Larges k) (p:=(nth h.Larges k).Page) (n:=(nth h.Larges k).Pages.toNat) ω (List.Sublist.refl _) (fw ..) (λq q1 q2=>fm (am y) (di.2 ⟨(q - (nth h.Larges k).Page).toNat,ω,ω⟩)) T.2.2.1 C;rw[Int.toNat_of_nonneg ω]at O;have P:(E++holders h).Perm ((nth h.Objs i).Addr::(E++holders {h with Objs:=dele h.Objs i})):=by
  have Y:=(oK S).map (·.Addr);refine List.perm_iff_count.2 λa=>?_
  have r:=Y.count_eq a;simp only[U4,List.count_cons]at r;simp only[holders,bQ,V4,List.count_cons];omega
 have u:=P.nodup_iff.1 d.nd;obtain⟨K,u⟩:=List.nodup_cons.1 u;have w:∀b,(b=(nth h.Objs i).Addr\/b∈E++holders {h with Objs:=dele h.Objs i})↔Live h.Spans h.Larges b:=λb=>by rw[<-d.mem b,P.mem_iff,List.mem_cons]
 have g:∀b,b∈E++holders {h with Objs:=dele h.Objs i}->b≠(nth h.Objs i).Addr:=λb H e=>K (by rw[<-e];exact H)
 refine⟨o,O,{d with
   ker:=U
   rng:=V
   lay:=W
   srl:=d.srl.sublist (fw ..)
   pg:=X
   osr:=d.osr.sublist (fw ..)
   onu:=λF J=>d.onu F ((fw ..).subset J)
   oid:=d.oid.sublist ((fw ..).map _)
   oow:=λF J=>?_
   nd:=u
   mem:=λb=>?_}⟩
 ·rcases d.oow F ((fw ..).subset J) with r|⟨l,f,Q,Z⟩
  ·exact .inl r
  ·obtain⟨j,c,rfl⟩:=aZ f
   refine .inr ⟨_,eg.2 ⟨j,c,λe=>?_,rfl⟩,Q,Z⟩;subst e;refine g F.Addr (O2.2 (.inr ?_)) (by rw[G];exact Q);unfold holders;simp only[O2];exact .inl (.inl (.inl (T3.2 ⟨F,J,rfl⟩)))
 ·constructor
  ·intro H
   rcases(w b).1 (.inr H) with r|⟨l,f,rfl⟩
   ·exact .inl r
   ·obtain⟨j,c,rfl⟩:=aZ f
    exact .inr ⟨_,eg.2 ⟨j,c,λe=>g _ H (by rw[G,e]),rfl⟩,rfl⟩
  ·rintro(r|⟨l,f,rfl⟩)
   ·refine((w b).2 (.inl r)).resolve_left λe=>?_
    obtain⟨s,B,⟨M,R,-⟩,-⟩:=r;exact(vg A (am y)).1 s B (by rw[e,G]at M R;exact⟨M,R⟩)
   ·obtain⟨j,c,t,rfl⟩:=eg.1 f
    refine((w _).2 (.inr ⟨_,am c,rfl⟩)).resolve_left λe=>t ?_
    have M:=aR (A.lok _ (am c));rw[G]at e;exact A.one j k c y 0 0 ω ω ω
def gt(h:ab)(p:Int):Bool:=h.Meshing&&(decide (p=h.Job.Plan.Keep) || decide (p=h.Job.Plan.Move))
def giveP(h:ab)(i:Nat):ab:={h with Kernel:=dM h.Kernel (nth h.Spans i).Page,Spans:=dele h.Spans i,Free:=(d2 (dQ h) h.Free ⟨(nth h.Spans i).Page,1⟩).getD h.Free}
def clrS(h:ab)(i:Nat)(a:Int):ab:={h with Spans:=h.Spans.set i (mt (nth h.Spans i) (dX (nth h.Spans i) a))}
def freeS(h:ab)(i:Nat)(a:Int):ab:=if(mt (nth h.Spans i) (dX (nth h.Spans i) a)).Bits=0/\gt h (nth h.Spans i).Page=false then giveP (clrS h i a) i else clrS h i a
def vh(h:ab)(a:Int):Nat:=(eU h (a / 16)).toNat
def freeA(h:ab)(a:Int):ab:=freeS h (vh h a) a
def cput(c:ay)(k a:Int):Option ay:=if bm c=true/\0<=k/\k<=3/\bm (mn c k.toNat a)=true then some (mn c k.toNat a) else none
def recyc(t:Nat)(h:ab)(a:Int):ab:=match cput (nth h.Caches t) (nth h.Spans (vh h a)).Class a with
 | some c=>{h with Caches:=h.Caches.set t c}
 | none=>freeA h a
theorem bp.at{h:ab}{E:List Int}{a:Int}(e:bp h E)(f:jl h.Spans a (-1)):vh h a<h.Spans.length/\eP (nth h.Spans (vh h a)) a/\eU h (a / 16)=(vh h a:Nat):=by
 obtain⟨s,g,c,-⟩:=f;obtain⟨i,d,rfl⟩:=aZ g;have j:(nth h.Spans i).Page=a / 16:=by have l:=c.1;have n:=c.2.1;omega
 have b:=oF e.L d;rw[j]at b;have k:vh h a=i:=by unfold vh;rw[b];rfl
 rw[k];exact⟨d,c,b⟩
theorem KS{h:ab}{p:Int}(e:gt h p=false)(a:h.Meshing=true):p≠h.Job.Plan.Keep/\p≠h.Job.Plan.Move:=by
 unfold gt at e;rw[a]at e;simpa using e
theorem bp.freeS{h:ab}{E:List Int}{a:Int}{i:Nat}(f:bp h (a::E))(b:i<h.Spans.length)(g:eP (nth h.Spans i) a):bp (freeS h i a) E:=by
 have c:=f.give b g;unfold Ab.freeS;split
 ·rename_i e
  have d:nth (clrS h i a).Spans i=mt (nth h.Spans i) (dX (nth h.Spans i) a):=by unfold clrS;simp only[cu,true_and];rw[C8 b]
  obtain⟨o,j,k⟩:=bp.giveSpan (h:=clrS h i a) c (i:=i) (by unfold clrS;simp only[C1];exact b) (by rw[d];exact e.1) (λl=>by rw[d];exact KS e.2 l);unfold giveP;rw[j];exact k
 ·exact c
theorem bp.freeA{h:ab}{E:List Int}{a:Int}(b:bp h (a::E)):bp (freeA h a) E:=by
 obtain⟨c,d,-⟩:=b.at (b.hin a (O1 ..));exact b.freeS c d
theorem sV{c:ay}(h:bm c=true):c.Lists.length=4:=by
 unfold bm at h;simp only[I0,C0]at h;exact h.1
theorem bp.recyc{h:ab}{E:List Int}{a:Int}{t:Nat}(b:bp h (a::E))(f:t<h.Caches.length):bp (recyc t h a) E:=by
 obtain⟨g,i,-⟩:=b.at (b.hin a (O1 ..));unfold Ab.recyc;split
 ·rename_i c d
  unfold cput at d;split at d
  ·rename_i e
   cases d;obtain⟨j,l,n,k⟩:=e;exact b.put f (by rw[sV j];omega) ⟨_,am g,i,.inr ω⟩ k
  ·cases d
 ·exact b.freeA
theorem wN(h:ab)(i:Nat)(a:Int):(freeS h i a).Caches=h.Caches/\(freeS h i a).Objs=h.Objs/\(freeS h i a).Kernel.Calls=h.Kernel.Calls/\(freeS h i a).Mail=h.Mail/\(freeS h i a).Job=h.Job/\(freeS h i a).Clock=h.Clock/\(freeS h i a).Quar=h.Quar/\(freeS h i a).Kernel.Refuse=h.Kernel.Refuse:=by
 unfold freeS;split
 ·obtain⟨-,b,c⟩:=pR (clrS h i a).Kernel (nth (clrS h i a).Spans i).Page
  exact⟨rfl,rfl,b,rfl,rfl,rfl,rfl,c⟩
 ·exact⟨rfl,rfl,rfl,rfl,rfl,rfl,rfl,rfl⟩
theorem pM(t:Nat)(h:ab)(a:Int):(recyc t h a).Caches.length=h.Caches.length/\(recyc t h a).Objs=h.Objs/\(recyc t h a).Kernel.Calls=h.Kernel.Calls/\(recyc t h a).Mail=h.Mail/\(recyc t h a).Job=h.Job/\(recyc t h a).Clock=h.Clock/\(recyc t h a).Quar=h.Quar/\(recyc t h a).Kernel.Refuse=h.Kernel.Refuse:=by
 unfold recyc;split
 ·exact⟨C1 ..,rfl,rfl,rfl,rfl,rfl,rfl,rfl⟩
 ·obtain⟨b,c⟩:=wN h (vh h a) a
  exact⟨T0 _ b,c⟩
def recycs(t:Nat)(h:ab)(az:List Int):ab:=az.foldl (recyc t) h
theorem iS(t:Nat):∀(az:List Int)(h:ab),(recycs t h az).Caches.length=h.Caches.length/\(recycs t h az).Objs=h.Objs/\(recycs t h az).Kernel.Calls=h.Kernel.Calls/\(recycs t h az).Mail=h.Mail/\(recycs t h az).Job=h.Job/\(recycs t h az).Clock=h.Clock/\(recycs t h az).Quar=h.Quar/\(recycs t h az).Kernel.Refuse=h.Kernel.Refuse
 | [],h=>⟨rfl,rfl,rfl,rfl,rfl,rfl,rfl,rfl⟩
 | a::az,h=>by
  obtain⟨b,c,d,e,f,g,i,j⟩:=iS t az (recyc t h a);obtain⟨k,l,n,o,p,q,r,u⟩:=pM t h a;exact⟨b.trans k,c.trans l,d.trans n,e.trans o,f.trans p,g.trans q,i.trans r,j.trans u⟩
theorem bp.recycs{t:Nat}{E:List Int} : ∀{az:List Int}{h:ab},bp h (az++E)->t<h.Caches.length->bp (recycs t h az) E
 | [],h,b,_=>b
 | a::az,h,b,c=>bp.recycs (az:=az) (h:=Ab.recyc t h a) (b.recyc c) (by rw[(pM t h a).1];exact c)
def qc(l:List aL):Int:=quarCells l l.length
def mZ(room:Int):List aL->Nat
 | []=>0
 | x::xs=>if room<qc (x::xs) then mZ room xs+1 else 0
def Hi(q:bE)(x:aL):bE:=⟨q.Room,(q.Lst++[x]).drop (mZ q.Room (q.Lst++[x]))⟩
def za(q:bE)(x:aL):List aL:=(q.Lst++[x]).take (mZ q.Room (q.Lst++[x]))
theorem DB(room:Int):∀l,mZ room l<=l.length
 | []=>Q2 _
 | x::xs=>by unfold mZ;split;(have:=DB room xs;simp only[List.length_cons];omega);omega
theorem zB{room:Int}(a:0<=room):∀l:List aL,qc (l.drop (mZ room l))<=room
 | []=>a
 | x::xs=>by
  unfold mZ;split
  ·exact zB a xs
  ·rename_i h;show qc (x::xs)<=room;omega
theorem yr{room:Int} : ∀{l:List aL}{k:Nat},k<mZ room l->room<qc (l.drop k)
 | [],k,h=>by cases h
 | x::xs,0,h=>by
  unfold mZ at h;split at h
  ·assumption
  ·omega
 | x::xs,k+1,h=>by
  unfold mZ at h;split at h
  ·exact yr (l:=xs) ω
  ·omega
theorem jc{q:bE} : eZ q=true↔(∀x∈q.Lst,0<=x.Class/\x.Class<=3/\0<=x.Addr/\0<=x.Since)/\(q.Lst.Pairwise λa b=>a.Since<=b.Since)/\(q.Lst.map (·.Addr)).Nodup/\0<=q.Room/\q.Room<=500/\qc q.Lst<=q.Room:=by
 refine Iff.trans ?_ (and_congr Iff.rfl (and_congr (uz (λa b:Int=>a<=b) (λa b c=>Int.le_trans) (λs:aL=>s.Since) q.Lst) (and_congr (ya (λs:aL=>s.Addr) q.Lst) Iff.rfl)));unfold eZ qc;simp only[I0,C0,cn,j7,Bool.not_eq_true',List.any_eq_false,cB];constructor
 ·rintro⟨e,f⟩
  refine⟨λx l=>?_,λi d=>(e i d).1.2.2.2.2,λi d=>(e i d).2,f⟩;obtain⟨i,d,rfl⟩:=aZ l;obtain⟨⟨g,h,j,k,-⟩,-⟩:=e i d;exact⟨g,h,j,k⟩
 ·rintro⟨e,f,n,o⟩
  refine⟨λi d=>?_,o⟩;obtain⟨g,h,j,k⟩:=e _ (am d);exact⟨⟨g,h,j,k,f i d⟩,n i d⟩
theorem Mx{q:bE}{x:aL}(h:eZ q=true)(i:0<=x.Class/\x.Class<=3/\0<=x.Addr/\0<=x.Since)(j:∀y∈q.Lst,y.Since<=x.Since)(k:∀y∈q.Lst,y.Addr≠x.Addr):eZ (Hi q x)=true:=by
 obtain⟨l,n,o,g,p,r⟩:=jc.1 h;have c:(Hi q x).Lst.Sublist (q.Lst++[x]):=List.drop_sublist ..;refine jc.2 ⟨λy d=>?_,List.Pairwise.sublist c ?_,List.Nodup.sublist (c.map _) ?_,g,p,zB g _⟩
 ·rcases O2.1 (c.subset d) with d|d
  ·exact l y d
  ·rw[Z0.1 d];exact i
 ·exact List.pairwise_append.2 ⟨n,List.pairwise_singleton ..,λa f b e=>by rw[Z0.1 e];exact j a f⟩
 ·rw[R4]
  refine List.nodup_append.2 ⟨o,by simp,λa f b e=>?_⟩;obtain⟨y,d,rfl⟩:=T3.1 f;simp only[U4,List.map_nil,Z0]at e;rw[e];exact k y d
def lI(r:List Int)(o:Nat):Nat->List Int
 | 0=>r
 | n+1=>(lI r o n).set (o+n) 0
def fR(k:af)(a:Int):Nat:=(ar k.Machine.Table (a / 16)).Frame.toNat
def fK(k:af)(a:Int)(n:Nat):af:={k with Machine:=⟨⟨k.Machine.Frames.Cells.set (fR k a) (lI (nth k.Machine.Frames.Cells (fR k a)) (a % 16).toNat n),k.Machine.Frames.Used⟩,k.Machine.Table⟩}
theorem oL(r:List Int)(o:Nat):∀n,(lI r o n).length=r.length
 | 0=>rfl
 | n+1=>by unfold lI;rw[C1,oL r o n]
theorem yG{r:List Int}{o:Nat} : ∀{n:Nat}{v:Int},v∈lI r o n->v∈r\/v=0
 | 0,v,h=>.inl h
 | n+1,v,h=>by
  rcases Z4 h with h|h
  ·exact yG h
  ·exact .inr h
theorem B7{k:af}(h:aB k=true)(a:Int)(n:Nat):aB (fK k a n)=true:=by
 obtain⟨g,i,l,o,p⟩:=aF.1 h;obtain⟨q,r,t,f⟩:=bh.1 i;refine aF.2 ⟨g,bh.2 ⟨?_,?_,?_,λj c=>?_⟩,l,o,p⟩
 ·simp only[fK,C1];exact q
 ·simp only[fK,C1];exact r
 ·simp only[fK,C1];exact t
 ·simp only[fK,C1]at c |-
  simp only[cu];split
  ·rename_i e
   have b:=f j c;unfold gP at b |-;simp only[I0,C0,I3]at b |-;rw[e.1]at *;refine⟨by rw[oL];exact b.1,λv d=>?_⟩;rcases yG d with d|rfl
   ·exact b.2 v d
   ·unfold i9;simp
  ·exact f j c
def xt(h:ab)(a:Int):Nat:=(h.Larges.findIdx? λl=>decide (l.Page*16=a)).getD 0
def freeL(h:ab)(i k:Nat):ab:={h with Kernel:=dR h.Kernel (nth h.Larges k).Page (nth h.Larges k).Pages.toNat,Larges:=dele h.Larges k,Free:=(d2 (dQ h) h.Free ⟨(nth h.Larges k).Page,(nth h.Larges k).Pages⟩).getD h.Free,Objs:=dele h.Objs i}
def kS(h:ab)(o:bB):aL:=⟨o.Addr,aK o.Size,h.Clock⟩
def inQuar(h:ab)(i:Nat):ab:={h with Kernel:=fK h.Kernel (nth h.Objs i).Addr (csz (aK (nth h.Objs i).Size)).toNat,Objs:=dele h.Objs i,Quar:=Hi h.Quar (kS h (nth h.Objs i))}
def Kl(h:ab)(t i:Nat):ab:=recycs t (inQuar h i) ((za h.Quar (kS h (nth h.Objs i))).map (·.Addr))
def freeOb(h:ab)(t i:Nat):ab × Int:=
 if aK (nth h.Objs i).Size<0 then(freeL h i (xt h (nth h.Objs i).Addr),0)
 else if(ar (tbl h) ((nth h.Objs i).Addr / 16)).Mode=1 then(h,5)
 else(Kl h t i,0)
theorem zD{h:ab}{l:a8}(d:l∈h.Larges){a:Int}(e:a=16*l.Page):xt h a<h.Larges.length/\a=16*(nth h.Larges (xt h a)).Page/\(∀j,j<xt h a->(nth h.Larges j).Page*16≠a)/\h.Larges.findIdx? (λl=>decide (l.Page*16=a))=some (xt h a):=by
 cases b:h.Larges.findIdx? λl=>decide (l.Page*16=a) with
 | none=>
  have:=List.findIdx?_eq_none_iff.1 b l d;rw[X3]at this;omega
 | some k=>
  obtain⟨c,f,g⟩:=I5.1 b;have i:xt h a=k:=by unfold xt;rw[b];rfl
  rw[i];rw[<-bo (U1 c),C0]at f;refine⟨c,ω,λj n=>?_,rfl⟩;have:=g j n;rw[<-bo (U1 (show j<h.Larges.length by omega))]at this;simpa using this
theorem eO{h:ab}{E:List Int}(a:bp h E){o:bB}(g:o∈h.Objs):(aK o.Size<0->P5 h.Larges o.Addr o.Size)/\(¬aK o.Size<0->(∃s∈h.Spans,eP s o.Addr/\s.Class=aK o.Size)/\aK o.Size<=3):=by
 rcases a.oow o g with⟨s,d,b,c⟩|⟨l,f,b,c⟩
 ·have i:=aE (a.L.sok s d)
  exact⟨λe=>ω,λ_=>⟨⟨s,d,b,c⟩,ω⟩⟩
 ·have j:=co (a.L.lok l f)
  refine⟨λ_=>⟨l,f,b,c⟩,λe=>absurd ?_ e⟩;unfold aK;rw[C7 ω,C7 ω,C7 ω,C7 ω,C7 ω]
  decide
theorem bp.inQuar{h:ab}{i:Nat}(a:bp h [])(j:i<h.Objs.length)(r:¬aK (nth h.Objs i).Size<0):bp (inQuar h i) ((za h.Quar (kS h (nth h.Objs i))).map (·.Addr)):=by
 obtain⟨⟨s,l,n,t⟩,u⟩:=(eO a (am j)).2 r;have b:jl h.Spans (nth h.Objs i).Addr (aK (nth h.Objs i).Size):=⟨s,l,n,.inr t⟩
 have d:=a.nums;unfold cb at d;rw[C0]at d;have w:=aE (a.L.sok s l);have o:=a.dropO j b.any;have A:=o.cells (k:=fK h.Kernel (nth h.Objs i).Addr (csz (aK (nth h.Objs i).Size)).toNat) (B7 a.ker _ _) rfl;have f:∀y∈h.Quar.Lst,y.Addr≠(nth h.Objs i).Addr:=λy g e=>by
  have c:=o.nd;rw[List.cons_append,List.nil_append]at c;refine(List.nodup_cons.1 c).1 ?_;rw[<-e];unfold holders;simp only[O2];exact .inl (.inr (T3.2 ⟨y,g,rfl⟩))
 have p:=bp.toQuar (x:=kS h (nth h.Objs i)) (q:=Hi h.Quar (kS h (nth h.Objs i))) (out:=za h.Quar (kS h (nth h.Objs i))) A (Mx a.quar ⟨by show 0<=aK _;omega,u,by show 0<=(nth h.Objs i).Addr;have:=n.1;omega,d.2.2.1⟩ (λy g=>a.snc y g) f) (by unfold za Hi;simp only[List.take_append_drop]) (t4 _) b;rw[List.append_nil]at p;exact p
theorem bp.freeOb{h:ab}{t i:Nat}(a:bp h [])(b:i<h.Objs.length)(e:t<h.Caches.length):bp (freeOb h t i).1 []:=by
 unfold Ab.freeOb;split
 ·rename_i c
  obtain⟨l,f,d,-⟩:=(eO a (am b)).1 c;obtain⟨g,j,-⟩:=zD f d;obtain⟨o,k,n⟩:=a.dropL b g j;unfold Ab.freeL;rw[k];exact n
 ·rename_i c
  split
  ·exact a
  ·have d:=a.inQuar b c
   refine bp.recycs (E:=[]) ?_ e;rw[List.append_nil];exact d
theorem FJ:∀{H L:List Int},H.Nodup->(∀x∈H,x∈L)->H.length<=L.length
 | [],L,_,_=>R0 _
 | y::H,L,f,b=>by
  have c:y∈L:=b y (O1 ..);have a:=List.nodup_cons.1 f;have:=FJ (L:=L.erase y) a.2 λz d=>(List.mem_erase_of_ne (λe:z=y=>a.1 (by rw[<-e];exact d))).2 (b z (C4 _ d))
  rw[List.length_erase_of_mem c]at this;have g:=List.length_pos_of_mem c;simp only[List.length_cons];omega
theorem wi{H:List Int}{n:Nat}(c:H.Nodup)(a:∀x∈H,0<=x/\x<n):H.length<=n:=by
 have:=FJ (L:=(List.range n).map λ(i:Nat)=>(i:Int)) c λx b=>T3.2 ⟨x.toNat,List.mem_range.2 (by have:=a x b;omega),by have:=a x b;omega⟩
 simpa using this
theorem gX{α:Type}{f:α->Int}{xs:List α}(h:xs.Pairwise λa b=>f a<f b):(xs.map f).Nodup:=by
 unfold List.Nodup;rw[List.pairwise_map];exact h.imp λh e=>ω
theorem JM:∀(b:List (List Int))(k:Nat)(s:List Int),(fJ k s b).isSome=true->∀l∈b,l.length<=8
 | [],_,_,_,l,a=>by cases a
 | x::b,k,s,h,l,a=>by
  simp only[fJ]at h;cases e:dS k s x with
  | none=>rw[e]at h;cases h
  | some d=>
   rw[e]at h;rcases List.mem_cons.1 a with rfl|a
   ·unfold dS at e
    split at e
    ·rename_i c;exact c.1
    ·cases e
   ·exact JM b (k+1) d h l a
theorem ep{c:ay}(h:bm c=true):c.Lists.length=4/\∀l∈c.Lists,l.length<=8:=by
 have a:=h;unfold bm at h;simp only[I0,C0]at h;exact⟨h.1,JM _ _ _ h.2⟩
structure Mq(h:ab):Prop where
 cells:h.Kernel.Machine.Frames.Cells.length<=32
 row:∀r∈h.Kernel.Machine.Frames.Cells,r.length=16
 used:h.Kernel.Machine.Frames.Used.length<=32
 ents:h.Kernel.Machine.Table.Entries.length<=32
 ref:h.Kernel.Refuse.length<=40
 free:h.Free.length<=32
 spans:h.Spans.length<=32
 larges:h.Larges.length<=32
 objs:h.Objs.length<=512
 caches:h.Caches.length<=4
 lists:∀c∈h.Caches,c.Lists.length=4/\∀l∈c.Lists,l.length<=8
 quar:h.Quar.Lst.length<=512
theorem jl.bd{h:ab}{E:List Int}(b:bp h E){a c:Int}(d:jl h.Spans a c):0<=a/\a<512:=by
 obtain⟨s,e,⟨f,g,-⟩,-⟩:=d;have i:=aE (b.L.sok s e);omega
theorem bp.lens{h:ab}{E:List Int}(d:bp h E):Mq h:=by
 obtain⟨O,t,u,P,Q,R,w⟩:=aF.1 d.ker;obtain⟨S,A,T,B⟩:=bh.1 t;obtain⟨U,V,C⟩:=bw.1 u;obtain⟨p,D,W⟩:=fj.1 d.rng;obtain⟨X,Y,F,Z⟩:=jc.1 d.quar;have q:=d.mail;unfold bz at q;simp only[I0,C0]at q;have G:=d.nc;refine⟨A,λr g=>?_,ω,C,w,?_,?_,?_,?_,ω,λc J=>ep (d.cach c J),?_⟩
 ·obtain⟨j,K,rfl⟩:=aZ g
  have:=B j K;unfold gP at this;simp only[I0,C0]at this;exact this.1
 ·have:=wi (H:=h.Free.map (·.At)) (n:=32) (gX (p.1.imp_of_mem fun {a b} ha hb h=>by have:=p.2 a ha;omega)) λx f=>by
   obtain⟨r,g,rfl⟩:=T3.1 f;have:=D r g;omega
  simpa using this
 ·have:=wi (H:=h.Spans.map (·.Page)) (n:=32) d.L.nd λx f=>by
   obtain⟨s,i,rfl⟩:=T3.1 f;have:=aE (d.L.sok s i);omega
  simpa using this
 ·have:=wi (H:=h.Larges.map (·.Page)) (n:=32) (gX d.srl) λx f=>by
   obtain⟨l,k,rfl⟩:=T3.1 f;have:=aR (d.L.lok l k);omega
  simpa using this
 ·have:=wi (H:=h.Objs.map (·.Addr)) (n:=512) (gX d.osr) λx f=>by
   obtain⟨o,M,rfl⟩:=T3.1 f;rcases d.oow o M with⟨s,i,⟨k1,k2,-⟩,-⟩|⟨l,k,e,-⟩
   ·have:=aE (d.L.sok s i);omega
   ·have:=aR (d.L.lok l k);omega
  simpa using this
 ·have:=wi (H:=h.Quar.Lst.map (·.Addr)) (n:=512) F λx f=>by
   obtain⟨y,N,rfl⟩:=T3.1 f;exact(d.hqu y N).bd d
  simpa using this
theorem Mq.sml{h:ab}(a:Mq h)(d:aB h.Kernel=true)(e:aJ.sml h.Mail)(f:cN.sml h.Job):ab.sml h:=
 ⟨bF d,⟨by have:=a.free;omega,λ_ _=>trivial⟩,⟨by have:=a.spans;omega,λ_ _=>trivial⟩,⟨by have:=a.larges;omega,λ_ _=>trivial⟩,⟨by have:=a.objs;omega,λ_ _=>trivial⟩,⟨by have:=a.caches;omega,λc b=>⟨by have:=(a.lists c b).1;omega,λl g=>by have:=(a.lists c b).2 l g;show l.length<=1048576;omega⟩⟩,e,⟨by have:=a.quar;omega,λ_ _=>trivial⟩,f⟩
def kW(a:Int)(o:bB):Bool:=decide (o.Addr=a)
def og(h:ab)(a:Int):Nat:=(cy (kW a) h.Objs).toNat
theorem bp.objAt{h:ab}{E:List Int}(k:bp h E){o:bB}(l:o∈h.Objs):og h o.Addr<h.Objs.length/\nth h.Objs (og h o.Addr)=o/\cy (kW o.Addr) h.Objs=(og h o.Addr:Nat):=by
 obtain⟨i,a,rfl⟩:=aZ l;have d:cy (kW (nth h.Objs i).Addr) h.Objs=(i:Nat):=d6 (ah a) (by unfold kW;simp) λj z p g=>by
  have b:=bo g;have c:=(V1.1 g).1;subst b;unfold kW;refine Q0 λe=>?_
  have:=gF (f:=(·.Addr)) (gX k.osr) c a e;omega
 have n:og h (nth h.Objs i).Addr=i:=by unfold og;rw[d];rfl
 rw[n];exact⟨a,rfl,d⟩
theorem rP(k:af)(p:Int)(n:Nat):(dR k p n).Calls=k.Calls/\(dR k p n).Refuse=k.Refuse:=(iv k p n).2
open Go.RowKit
set_option maxRecDepth 20000
set_option maxHeartbeats 4000000
theorem Jq(y:aA)(a:List aA):de [] (y::a)=de [y] a:=by rw[de];rfl
theorem A8{α:Type}[Inhabited α]{xs:List α}(h:xs≠[]):xs.getLast? = some (nth xs (xs.length - 1)):=by
 have a:0<xs.length:=List.length_pos_iff.2 h;rw[List.getLast?_eq_getElem?,ah ω]
theorem Jl{α:Type}{xs:List α}(h:xs≠[])(v:α):xs.dropLast++[v]=xs.set (xs.length - 1) v:=by
 have b:0<xs.length:=List.length_pos_iff.2 h;refine List.ext_getElem (by simp;omega) λi a c=>?_
 rw[List.getElem_set];by_cases e:xs.length - 1=i
 ·subst e
  rw[C8 rfl,List.getElem_append_right (by simp)];simp
 ·rw[C7 e,List.getElem_append_left (by simp at a |-;omega),List.getElem_dropLast]
theorem Js{out:List aA}{y:aA}{a:List aA}(h:out≠[])(e:(nth out (out.length - 1)).At+(nth out (out.length - 1)).Len=y.At):de out (y::a)=de (out.set (out.length - 1) ⟨(nth out (out.length - 1)).At,(nth out (out.length - 1)).Len+y.Len⟩) a:=by
 rw[de,A8 h];simp only;rw[C8 e,Jl h]
theorem LS{out:List aA}{y:aA}{a:List aA}(h:out≠[])(e:¬(nth out (out.length - 1)).At+(nth out (out.length - 1)).Len=y.At):de out (y::a)=de (out++[y]) a:=by
 rw[de,A8 h];simp only;rw[C7 e]
theorem qT(xs:List aA)(B:xs.length<=4194304)(o:∀y∈xs,0<=y.At/\1<=y.Len/\y.At+y.Len<=1048576):ao Tryz.prog 404 false [.val none (bI .imm xs)] .one (bI .own (de [] xs)):=by
 refine fO 63 [(6,21,[15,16,17,18,19,20,21,22,23,24,25,26,27,28,29,30,31,32,33,34,35]),(7,15,[38,39,40,41,42,43,44,45,46,47,48,49,50,51,52])] Tryz.func404 rfl ?_ (.inr (nr _))
 repeat'(first|refine gO ?_|fail)
 (conv=>whnf)
 refine CD (ι:=Nat × List aA) (λq=>[(0,.hold .one (bI .imm xs)),(3,.hold .one (bI .own q.2)),(4,.hold .one [I ((q.1:Nat):Int)])]) (λq=>q.1<=xs.length/\de q.2 (xs.drop q.1)=de [] xs/\q.2.length<=q.1/\∀y∈q.2,0<=y.At/\1<=y.Len/\y.At+y.Len<=1048576) (λq=>xs.length - q.1) ((0,[])) ?_ (⟨R0 _,rfl,Q2 _,λy g=>by cases g⟩) λq p=>?_
 ·exact wB
 obtain⟨i,out⟩:=q;obtain⟨t,b,j,c⟩:=p;simp only at t b j c |-;by_cases k:i<xs.length
 ·have l:=ah k
  have g:=o _ (am k);rw[iT k]at b;by_cases h:out=[]
  ·subst h
   rw[Jq]at b;have D:([]:List aA).length=0:=rfl
   repeat'(first|refine gD ?_|(conv=>whnf);first|with_reducible refine CA (aa l) ?_|refine Ln.mk (show List.length _=0 from rfl) ?_|refine Ap.sm (λr u=>by cases u) rfl (by simp) (by decide) rfl ?_)
   ((conv=>whnf)
    refine CB (i+1,[nth xs i]) ⟨(by simp only;omega),b,(by simp),(λy a=>by rw[Z0.1 a];exact g)⟩ (by simp only;omega) ?_
    (repeat'(first|exact trivial|rfl|exact CI rfl (CI (T0 (C.s d7.own) (by simp[aA.enc])) trivial)|refine CI ?_ ?_)))
  ·have n:0<out.length:=List.length_pos_iff.2 h
   have d:out[((out.length:Int) - 1).toNat]? = some (nth out (out.length - 1)):=by
    rw[show((out.length:Int) - 1).toNat=out.length - 1 by omega];exact ah ω
   have w:=c _ (am (xs:=out) (i:=out.length - 1) ω);by_cases e:(nth out (out.length - 1)).At+(nth out (out.length - 1)).Len=(nth xs i).At
   ·rw[Js h e]at b
    repeat'(first|refine gA ?_|(conv=>whnf);first|with_reducible refine CA (aa l) ?_|refine CK ω (aa d) ?_|refine CG rfl (aa d) rfl ?_|refine CM rfl rfl (aa d) rfl (X0 rfl) rfl ?_)
    ((conv=>whnf)
     refine CB (i+1,out.set (out.length - 1) ⟨(nth out (out.length - 1)).At,(nth out (out.length - 1)).Len+(nth xs i).Len⟩) ⟨(by simp only;omega),b,(by simp only;rw[C1];omega),(λy a=>?_)⟩ (by simp only;omega) ?_)
    ·rcases Z4 a with a|rfl
     ·exact c y a
     ·simp only;omega
    ·(repeat'(first|exact trivial|rfl|exact CI rfl (CI (T0 (C.s d7.own) (by rw[show((out.length:Int) - 1).toNat=out.length - 1 by omega,W4];rfl)) trivial)|refine CI ?_ ?_))
   ·rw[LS h e]at b
    repeat'(first|refine gA ?_|(conv=>whnf);first|with_reducible refine CA (aa l) ?_|refine CK ω (aa d) ?_|refine CG rfl (aa d) rfl ?_|refine Ap.sm (aN λ_=>rfl) rfl (by simp;omega) (by decide) rfl ?_)
    ((conv=>whnf)
     refine CB (i+1,out++[nth xs i]) ⟨(by simp only;omega),b,(by simp;omega),(λy a=>?_)⟩ (by simp only;omega) ?_)
    ·rcases O2.1 a with a|a
     ·exact c y a
     ·rw[Z0.1 a];exact g
    ·(repeat'(first|exact trivial|rfl|exact CI rfl (CI (T0 (C.s d7.own) (by simp[aA.enc])) trivial)|refine CI ?_ ?_))
 ·obtain rfl:i=xs.length:=ω
  rw[List.drop_length]at b
  repeat'(first|refine gD ?_|fail)
  rw[<-b];rfl
theorem yb(r y:aA)(a:List aA)(put:Bool):lw r (y::a) put=if ovl y r then none else if !put&&decide (y.At > r.At) then(lw r a true).map λt=>r::y::t else(lw r a put).map λt=>y::t:=by rw[lw]
theorem kY(pages:Int)(xs:List aA)(r:aA)(H:0<=pages/\pages<=1048576)(J:iL xs):ao Tryz.prog 387 false [.val none [I pages],.val none (bI .imm xs),.val (some 2) (aA.enc .imm r)] (.tup [none,none]) (Eb xs (d2 pages xs r)):=by
 have w:=J.1;have n:=kT pages xs H J;have E:=uG pages r H;cases o:bv pages xs<;>rw[o]at n
 ·rw[show d2 pages xs r=none by unfold d2;rw[C7 (by rw[o];simp)]]
  refine fO 82 [] Tryz.func387 rfl ?_ (.inr (r7 _ _))
  repeat'(first|refine gO ?_|(conv=>whnf);first|refine C6 (n) ?_|refine CQ (λ_=>rfl) (λ_=>rfl) w (by decide) ?_)
  rfl
 cases k:rangeIn pages r<;>rw[k]at E
 ·rw[show d2 pages xs r=none by unfold d2;rw[C7 (by rw[k];simp)]]
  refine fO 82 [] Tryz.func387 rfl ?_ (.inr (r7 _ _))
  repeat'(first|refine gO ?_|(conv=>whnf);first|refine C6 (n) ?_|refine C6 (E) ?_|refine CQ (λ_=>rfl) (λ_=>rfl) w (by decide) ?_)
  rfl
 obtain⟨K,L⟩:=Aa o;have p:0<=r.At/\1<=r.Len/\r.At+r.Len<=pages:=by
  unfold rangeIn at k;rw[C0]at k;omega
 rw[show d2 pages xs r=(lw r xs false).map (de []) by unfold d2;rw[C8 ⟨o,k⟩,xS (pages:=pages) K p.2.1 λz M=>by simp at M]];refine fO 82 [] Tryz.func387 rfl ?_ (.inr (r7 _ _))
 repeat'(first|refine gO ?_|(conv=>whnf);first|refine C6 (n) ?_|refine C6 (E) ?_|refine CQ (λ_=>rfl) (λ_=>rfl) w (by decide) ?_)
 (conv=>whnf)
 refine CD (ι:=Nat × List aA × Bool) (λq=>[(1,.hold .one (bI .imm xs)),(5,.hold .box (aA.enc .imm r)),(8,.hold .one (bI .own xs)),(9,.hold .one (bI .own q.2.1)),(10,.hold .one [B (q.2.2)]),(11,.hold .one [I ((q.1:Nat):Int)])]) (λq=>q.1<=xs.length/\(lw r (xs.drop q.1) q.2.2).map (q.2.1++·)=lw r xs false/\q.2.1.length<=q.1+q.2.2.toNat/\(∀y∈q.2.1,0<=y.At/\1<=y.Len/\y.At+y.Len<=1048576)) (λq=>xs.length - q.1) ((0,[],false)) ?_ (⟨R0 _,by simp,by simp,by simp⟩) λq g=>?_
 ·exact wB
 obtain⟨i,out,put⟩:=q;obtain⟨N,b,d,e⟩:=g;simp only at N b d e |-;have l:0<=r.At/\1<=r.Len/\r.At+r.Len<=1048576:=ω
 by_cases F:i<xs.length
 ·have u:=ah F
  have O:=L _ (am F);have h:0<=(nth xs i).At/\1<=(nth xs i).Len/\(nth xs i).At+(nth xs i).Len<=1048576:=ω
  rw[iT F]at b;by_cases j:ovl (nth xs i) r=true
  ·rw[<-b]
   rw[yb,C8 j];unfold ovl at j;rw[C0]at j
   repeat'(first|refine gD ?_|(conv=>whnf);first|with_reducible (first|refine CA (aa u) ?_|refine Bf.D (λg=>?_) (λg=>?_)))
   rfl
  ·rw[yb,C7 j]at b
   unfold ovl at j;rw[C0]at j;cases put with
   | false=>
    have d:out.length<=i:=by simpa using d
    by_cases P:(nth xs i).At > r.At
    ·rw[C8 (by simp;omega),Option.map_map]at b
     repeat'(first|refine gD ?_|(conv=>whnf);first|with_reducible (first|refine CA (aa u) ?_|refine Bf.D (λg=>?_) (λg=>?_))|refine Ap.sm (aN λ_=>rfl) rfl (by simp;omega) (by decide) rfl ?_|refine Ap.sm (λr p=>by simp at p;rcases p with⟨a,_,rfl⟩|rfl<;>rfl) rfl (by simp;omega) (by decide) rfl ?_)
     ((conv=>whnf)
      refine CB (i+1,out++[r,nth xs i],true) ⟨(by simp only;omega),(by rw[<-b];congr 1;funext t;simp),(by simp;omega),(λy c=>?_)⟩ (by simp only;omega) ?_)
     ·rcases O2.1 c with c|c
      ·exact e y c
      ·rcases List.mem_cons.1 c with rfl|c
       ·exact l
       ·rw[Z0.1 c];exact h
     ·(repeat'(first|exact trivial|rfl|exact CI rfl (CI (T0 (C.s d7.own) (by simp[aA.enc])) trivial)|refine CI ?_ ?_))
    ·rw[C7 (by simp;omega),Option.map_map]at b
     repeat'(first|refine gD ?_|(conv=>whnf);first|with_reducible (first|refine CA (aa u) ?_|refine Bf.D (λg=>?_) (λg=>?_))|refine Ap.sm (aN λ_=>rfl) rfl (by simp;omega) (by decide) rfl ?_)
     ((conv=>whnf)
      refine CB (i+1,out++[nth xs i],false) ⟨(by simp only;omega),(by rw[<-b];congr 1;funext t;simp),(by simp;omega),(λy c=>?_)⟩ (by simp only;omega) ?_)
     ·rcases O2.1 c with c|c
      ·exact e y c
      ·rw[Z0.1 c];exact h
     ·(repeat'(first|exact trivial|rfl|exact CI rfl (CI (T0 (C.s d7.own) (by simp[aA.enc])) trivial)|refine CI ?_ ?_))
   | true=>
    have d:out.length<=i+1:=d;rw[C7 (by simp),Option.map_map]at b;by_cases Q:(nth xs i).At<r.At+r.Len
    all_goals
     repeat'(first|refine gD ?_|(conv=>whnf);first|with_reducible (first|refine CA (aa u) ?_|refine Bf.D (λg=>?_) (λg=>?_))|refine Ap.sm (aN λ_=>rfl) rfl (by simp;omega) (by decide) rfl ?_)
     ((conv=>whnf)
      refine CB (i+1,out++[nth xs i],true) ⟨(by simp only;omega),(by rw[<-b];congr 1;funext t;simp),(by simp;omega),(λy c=>?_)⟩ (by simp only;omega) ?_)
     ·rcases O2.1 c with c|c
      ·exact e y c
      ·rw[Z0.1 c];exact h
     ·(repeat'(first|exact trivial|rfl|exact CI rfl (CI (T0 (C.s d7.own) (by simp[aA.enc])) trivial)|refine CI ?_ ?_))
 ·obtain rfl:i=xs.length:=ω
  rw[List.drop_length]at b;cases put with
  | false=>
   have d:out.length<=xs.length:=by simpa using d
   rw[<-b];have G:=qT (out++[r]) (by simp;omega) (λy c=>by
     rcases O2.1 c with c|c
     · exact e y c
     · rw[Z0.1 c];exact l)
   repeat'(first|refine gD ?_|(conv=>whnf);first|refine Ap.sm (aN λ_=>rfl) rfl (by simp;omega) (by decide) (show(out++[r]).map (aA.enc .own)=_ by simp[aA.enc]) ?_|refine CF (G) ⟨⟨rfl,dB _⟩,trivial⟩ ?_)
   rfl
  | true=>
   have d:out.length<=xs.length+1:=d;rw[<-b];have G:=qT out ω e
   repeat'(first|refine gD ?_|(conv=>whnf);first|refine CF (G) ⟨⟨rfl,dB _⟩,trivial⟩ ?_)
   simp[lw,Eb]
   rfl
theorem shl64{i:Int}(d:0<=i/\i<=15):IntKind.i64.wrap (1*2 ^ min i.toNat IntKind.i64.bits)=2 ^ i.toNat/\0<=(2:Int) ^ i.toNat/\(2:Int) ^ i.toNat<=32768:=by
 have a:min i.toNat IntKind.i64.bits=i.toNat:=Nat.min_eq_left (show i.toNat<=64 by omega);have b:(0:Int)<=2 ^ i.toNat/\(2:Int) ^ i.toNat<=32768:=by
  have:(2:Nat) ^ i.toNat<=2 ^ 15:=Nat.pow_le_pow_right (by decide) ω;have c:((2 ^ i.toNat:Nat):Int)=(2:Int) ^ i.toNat:=Int.natCast_pow 2 i.toNat;rw[<-c];exact⟨Int.natCast_nonneg _,Int.ofNat_le.2 this⟩
 rw[a,Int.one_mul];exact⟨ef ω ω,b⟩
theorem clr64{b i:Int}(a:0<=b/\b<=65535):IntKind.i64.wrap ((BitVec.ofInt IntKind.i64.bits b &&& ~~~BitVec.ofInt IntKind.i64.bits (2 ^ i.toNat)).toNat:Nat)=wZ b i:=by
 have:=zL (i:=i) a;unfold wZ at this |-;exact ef ω ω
theorem sQ(b i:Int)(c:0<=b/\b<=65535)(d:0<=i/\i<=15):ao Tryz.prog 405 false [.val none [I b],.val none [I i]] .one [I (wZ b i)]:=by
 have a:=oh b i;rw[O0 ω]at a;have e:IntKind.u64.wrap i=i:=by unfold IntKind.wrap;simp[IntKind.signed,IntKind.bits];omega
 refine fO 15 [] Tryz.func405 rfl ?_
 repeat'(first|refine gO ?_|(conv=>whnf);first|refine C9 ?_|refine C6 (a) ?_|refine CL ω ?_|refine CJ e ?_|refine CJ (shl64 d).1 ?_|refine CJ (clr64 c) ?_)
 rfl
theorem My{s:au}{k:Int}(a:aS s.Bits k=true):0<=k/\k<=15:=by
 have:=(fS _ _).1 a;omega
theorem xu(s:au)(k:Int)(a:aX s=true)(b:aS s.Bits k=true):ao Tryz.prog 391 false [.val (some 3) (au.enc .imm s),.val none [I k]] (.tup [some 3,none]) (au.enc .own (mt s k)++[B true]):=by
 have e:=er a;have g:=My b;have c:=eM s;have d:=gi s.Bits k ω;rw[a]at c;rw[b]at d;refine fO 23 [] Tryz.func391 rfl ?_ (.inr (aY (au.enc_fr _) ⟨trivial,trivial⟩))
 repeat'(first|refine gO ?_|(conv=>whnf);first|refine C9 ?_|refine C6 (c) ?_|refine C6 (d) ?_|refine C6 (sQ s.Bits k e g) ?_)
 rfl
theorem vE(c:ay)(k:Int)(b:ay.sml c):ao Tryz.prog 340 false [.val (some 1) (ay.enc .imm c),.val none [I k]] .one [B (bm c&&decide (0<=k/\k<=3))]:=by
 have a:=lX c b;cases e:bm c<;>rw[e]at a
 all_goals
  refine fO 11 [] Tryz.func340 rfl ?_
  repeat'(first|refine gO ?_|(conv=>whnf);first|refine C9 ?_|refine C6 (a) ?_|refine C6 (aG k 0 3) ?_)
  all_goals rfl
theorem rJ{c:ay}{k:Nat}(a:k<c.Lists.length):c.Lists[k]? = some (nth c.Lists k):=ah a
theorem JV{c:ay}(h:bm c=true)(k:Nat)(a:Int):ay.sml (mn c k a):=by
 obtain⟨f,d⟩:=ep h;refine⟨by simp only[mn,C1];omega,λl b=>?_⟩;rcases Z4 b with b|rfl
 ·have:=d l b;show l.length<=1048576;omega
 ·show(nth c.Lists k++[a]).length<=1048576
  by_cases e:k<c.Lists.length
  ·have:=d _ (am e);simp;omega
  ·have:nth c.Lists k=[]:=by unfold nth;rw[Z1,W1 ω];rfl
   rw[this];simp
theorem K6(c:ay)(k:Nat)(a:Int):ay.enc .own (mn c k a)=[.s .own ((c.Lists.map (aD .own)).set k (aD .own (nth c.Lists k++[a])))]:=by simp[ay.enc,mn,W4]
theorem fQ{α:Type}{f:α->List C}{xs:List α}{k:Nat}{y:α}{r:List C}(h:xs[k]? = some y):((xs.map f).set k r)[k]? = some r:=by
 rw[Z2 (by rw[W0];exact(V1.1 h).1)]
theorem hJ{α β:Type}(f:α->β)(xs:List α)(y:α):(xs++[y]).map f=xs.map f++[f y]:=by simp
def FM(c:ay)(k a:Int):List C:=ay.enc .own ((cput c k a).getD c)++[B (cput c k a).isSome]
theorem Km(c:ay)(k a:Int):gE (FM c k a):=aY (ay.enc_fr _) ⟨trivial,trivial⟩
theorem xm(c:ay)(k:Nat)(a:Int)(h:bm c=true)(B:k<=3):ao Tryz.prog 403 false [.val (some 1) (ay.enc .imm c),.val none [I (k:Nat)],.val none [I a]] (.tup [some 1,none]) (FM c k a):=by
 obtain⟨D,q⟩:=ep h;have r:ay.sml c:=⟨ω,λl u=>by have:=q l u;show l.length<=1048576;omega⟩
 have n:=vE c k r;rw[h,O0 ω]at n;have t:=gZ c r;have d:=JV h k a;have o:=lX (mn c k a) d;have w:=gZ (mn c k a) d;have b:=rJ (c:=c) (k:=k) ω;have y:=q _ (am (xs:=c.Lists) (i:=k) ω);have j:=ay.enc_fz (mn c k a);rw[K6]at j;have g:=Km c k a;unfold FM at g |-;cases e:bm (mn c k a)<;>rw[e]at o
 ·have p:cput c k a=none:=by unfold cput;rw[C7 λx=>by have:=x.2.2.2;rw[C2,e]at this;cases this]
  rw[p]at g |-;refine fO 35 [(4,267,[16,17,18,19,20,21,22,23,24,25,27,0,1,2,3,4,5,6,7,8,9,10,1000,1001,1002,11,12])] Tryz.func403 rfl ?_ (.inr g)
  repeat'(first|refine gO ?_|(conv=>whnf);first|with_reducible refine CA (aa b) ?_|refine C9 ?_|refine CA (fQ b) ?_|refine CG rfl (fQ b) rfl ?_|refine C6 (n) ?_|refine C6 (t) ?_|refine Lq.one rfl rfl (aa b) rfl (X0 rfl) rfl rfl ?_|refine CG rfl (aa b) rfl ?_|refine CM rfl rfl (fQ b) rfl (X0 rfl) (show [C.s d7.own ((c.Lists.map (aD .own)).set k (aD .own (nth c.Lists k++[a])))]=_ from by simp only[List.set_cons_zero,List.set_set,C2];rfl) ?_|refine Ap.sm (aN λ_=>rfl) rfl (by simp;omega) (by decide) (hJ _ _ _) ?_|refine CF (o) ⟨⟨rfl,j⟩,trivial⟩ ?_)
  rfl
 ·have p:cput c k a=some (mn c k a):=by unfold cput;rw[C8 ⟨h,ω,ω,by rw[C2];exact e⟩,C2]
  rw[p]at g |-;refine fO 35 [(4,267,[16,17,18,19,20,21,22,23,24,25,27,0,1,2,3,4,5,6,7,8,9,10,1000,1001,1002,11,12])] Tryz.func403 rfl ?_ (.inr g)
  repeat'(first|refine gO ?_|(conv=>whnf);first|with_reducible refine CA (aa b) ?_|refine C9 ?_|refine CA (fQ b) ?_|refine CG rfl (fQ b) rfl ?_|refine C6 (n) ?_|refine C6 (t) ?_|refine Lq.one rfl rfl (aa b) rfl (X0 rfl) rfl rfl ?_|refine CG rfl (aa b) rfl ?_|refine CM rfl rfl (fQ b) rfl (X0 rfl) (show [C.s d7.own ((c.Lists.map (aD .own)).set k (aD .own (nth c.Lists k++[a])))]=_ from by simp only[List.set_cons_zero,List.set_set,C2];rfl) ?_|refine Ap.sm (aN λ_=>rfl) rfl (by simp;omega) (by decide) (hJ _ _ _) ?_|refine CF (o) ⟨⟨rfl,j⟩,trivial⟩ ?_|refine CF (w) ⟨⟨rfl,j⟩,trivial⟩ ?_)
  rfl
def bu(x:ab):List C:=[.s .own (x.Kernel.Machine.Frames.Cells.map (aD .own)),.s .own (x.Kernel.Machine.Frames.Used.map (rB .own)),.s .own (x.Kernel.Machine.Table.Entries.map (bg.enc .own)),I x.Kernel.Calls,.s .own (x.Kernel.Refuse.map (rI .own)),.s .own (x.Free.map (aA.enc .own)),.s .own (x.Spans.map (au.enc .own)),.s .own (x.Larges.map (a8.enc .own)),.s .own (x.Objs.map (bB.enc .own)),.s .own (x.Caches.map (ay.enc .own)),.s .own (x.Mail.Buffers.map (cM .own)),.s .own (x.Mail.Inbox.map (aD .own)),I x.Quar.Room,.s .own (x.Quar.Lst.map (aL.enc .own)),I x.Seed,I x.Clock,I x.Limit,I x.Next,B x.Meshing,I x.Job.Plan.Keep,I x.Job.Plan.Move,.s .imm (x.Job.Plan.Cells.map (rI .imm)),I x.Job.Phase,I x.Job.Next]
theorem bx(x:ab):dy (bu x)=ab.enc .imm x:=by simp[dy,bu,ab.enc,ay.enc_fz,bg.enc_fz,a8.enc_fz,bB.enc_fz,aA.enc_fz,au.enc_fz,aL.enc_fz,rB,mD,rI,cW,<-bR,T4]
def ve(x:cN):List C:=[I x.Plan.Keep,I x.Plan.Move,.s .imm (x.Plan.Cells.map (rI .imm)),I x.Phase,I x.Next]
theorem Pu.two{f bs':List C}{off i k j g h b:Nat}{cs:List C}{K:List C->Prop}{o c:d7}{rows rows2:List (List C)}{r d:List C}(h1:f[off]? = some (.s o rows))(t:o.mine=true)(l:rows[i]? = some r)(u:r.length=k)(n:r[j]? = some (.s c rows2))(w:c.mine=true)(p:rows2[g]? = some d)(y:d.length=h)(D:b+cs.length<=h)(A:bs'=f.set off (.s o (rows.set i (r.set j (.s c (rows2.set g (splice d b cs)))))))(B:K bs'):Pu f off [(i,k,j),(g,h,b)] cs K:=by
 have q:o≠.imm:=λe=>by subst e;cases t
 have a:c≠.imm:=λe=>by subst e;cases w
 refine Pu.mk (r:=d) (j:=b) (by simp[bU,h1,l,u,n,p,y]) (by simp[ju,h1,l,q,n,p,a]) ω (by rw[A];simp[fp,h1,l,n,p]) B
theorem Bj(x:List au):fz (.s .own (x.map (au.enc .own)))=.s .imm (x.map (au.enc .imm)):=(List.cons.inj (qf x)).1
theorem yd(x:List a8):fz (.s .own (x.map (a8.enc .own)))=.s .imm (x.map (a8.enc .imm)):=(List.cons.inj (tI x)).1
theorem zP(x:List bB):fz (.s .own (x.map (bB.enc .own)))=.s .imm (x.map (bB.enc .imm)):=(List.cons.inj (rM x)).1
theorem Ap.dele{α:Type}{e:α->List C}{xs:List α}{i sz by_:Nat}{K:List (List C)->Prop}(a:∀y,(e y).length=sz)(b:∀y,aU (e y)=true)(h:xs.length<=1048576)(c:by_<=1000)(d:K ((Ab.dele xs i).map e)):Ap true ((xs.take i).map e) ((xs.drop (i+1)).map e) sz by_ K:=by
 have f:(xs.take i).length+(xs.drop (i+1)).length<=2097152:=by rw[I1,W2];omega
 refine CN (aN a) (aN a) (λ_ r g=>by obtain⟨y,-,rfl⟩:=T3.1 g;exact b y) (by rw[W0,W0];omega) (by rw[W0,W0];exact Z3 (Nat.mul_le_mul f c) (by decide)) ?_ d;unfold Ab.dele;rw[R4]
theorem GL(h:ab)(p:Int)(a:aH.sml h.Kernel.Machine.Table):ao Tryz.prog 348 false [.ptr (ab.enc .imm h),.val none [I p]] .one [I (ar h.Kernel.Machine.Table p).Mode]:=by
 refine fO 13 [] Tryz.func348 rfl ?_
 repeat'(first|refine gO ?_|(conv=>whnf);first|refine C9 ?_|refine C6 (db h.Kernel.Machine.Table p a) ?_)
 rfl
def MI(h:ab):List C:=(bu h).drop 5
theorem NI(h:ab)(k:af):bu {h with Kernel:=k} = af.enc .own k++MI h:=rfl
theorem Dj(h:ab):MI h=[.s .own (h.Free.map (aA.enc .own)),.s .own (h.Spans.map (au.enc .own)),.s .own (h.Larges.map (a8.enc .own)),.s .own (h.Objs.map (bB.enc .own)),.s .own (h.Caches.map (ay.enc .own)),.s .own (h.Mail.Buffers.map (cM .own)),.s .own (h.Mail.Inbox.map (aD .own)),I h.Quar.Room,.s .own (h.Quar.Lst.map (aL.enc .own)),I h.Seed,I h.Clock,I h.Limit,I h.Next,B h.Meshing,I h.Job.Plan.Keep,I h.Job.Plan.Move,.s .imm (h.Job.Plan.Cells.map (rI .imm)),I h.Job.Phase,I h.Job.Next]:=rfl
theorem G5(h:ab)(f:Int)(a:aH.sml h.Kernel.Machine.Table)(b:0<=f/\f<h.Kernel.Machine.Frames.Cells.length/\f<h.Kernel.Machine.Frames.Used.length) :
  aQ Tryz.prog 349 false [.ptr (bu h),.val none [I f]] [.ptr (bu {h with Kernel:=ip h.Kernel f}),.val none [I f]] (.tup []) []:=by
 have c:=ah (xs:=h.Kernel.Machine.Frames.Cells) (i:=f.toNat) ω;have d:=ah (xs:=h.Kernel.Machine.Frames.Used) (i:=f.toNat) ω;rw[NI h (ip h.Kernel f)];by_cases e:(pagesOn h.Kernel.Machine.Table f).length=0
 ·rw[yu e,Dj]
  refine fM 30 [] [(2,8,[21,22,23,24,25,26,27,28])] [(0,0),(0,0)] Tryz.func349 rfl (λu q=>?_) (.inr trivial)
  repeat'(first|refine gA ?_|(conv=>whnf);first|with_reducible (first|refine CK b.1 (aa d) ?_|refine CK b.1 (aa c) ?_)|refine C9 ?_|refine CF (gg h.Kernel.Machine.Table f a) ⟨⟨rfl,CV h.Kernel.Machine.Table⟩,⟨rfl,rfl⟩,trivial⟩ ?_|refine CM rfl rfl (aa c) rfl (X0 rfl) rfl ?_|refine CM rfl rfl (aa d) rfl (X0 rfl) rfl ?_|refine Mk.mk 16 rfl rfl (by decide) (by decide) rfl ?_)
  refine CE rfl rfl ?_;exact wB
 ·rw[Be e]
  show aQ _ _ _ [.ptr (bu h),_] [.ptr (bu h),_] _ _;refine fM 30 [] [(2,8,[21,22,23,24,25,26,27,28])] [(0,0),(0,0)] Tryz.func349 rfl (λu q=>?_) (.inr trivial)
  repeat'(first|refine gA ?_|(conv=>whnf);first|refine C9 ?_|refine CF (gg h.Kernel.Machine.Table f a) ⟨⟨rfl,CV h.Kernel.Machine.Table⟩,⟨rfl,rfl⟩,trivial⟩ ?_)
  refine CE rfl rfl ?_;exact wB
theorem mL(h:ab)(p:Int)(b:aB h.Kernel=true) :
  aQ Tryz.prog 297 false [.ptr (bu h),.val none [I p]] [.ptr (bu {h with Kernel:=dM h.Kernel p}),.val none [I p]] .one [B (decide ((ar h.Kernel.Machine.Table p).Mode≠0))]:=by
 have k:=bF b;have c:=GL h p k.1.2;by_cases a:(ar h.Kernel.Machine.Table p).Mode=0
 ·rw[show dM h.Kernel p=h.Kernel by unfold dM;rw[C8 a]]
  refine fM 32 [(349,[2,0])] [] [(0,0),(0,0)] Tryz.func297 rfl (λu q=>?_)
  repeat'(first|refine gA ?_|(conv=>whnf);first|refine C9 ?_|refine CF (c) ⟨bx h,⟨rfl,rfl⟩,trivial⟩ ?_)
  refine CE rfl ?_ ?_
  ·exact T0 (λz=>[B z]) ((by simp[a]))
  ·exact wB
 ·obtain⟨l,r,n,d,o⟩:=cr b a
  have j:=(bh.1 (aF.1 b).2.1).2.2.1;rw[show dM h.Kernel p=ip (qa h.Kernel p) (ar h.Kernel.Machine.Table p).Frame by unfold dM;rw[C7 a]];have e:=G5 {h with Kernel:=qa h.Kernel p} (ar h.Kernel.Machine.Table p).Frame (JZ b) ⟨d,by simp only[qa];omega,by simp only[qa];omega⟩;rw[NI h (qa h.Kernel p),Jj,Dj]at e;have g:=ah (xs:=h.Kernel.Machine.Table.Entries) (i:=p.toNat) ω;rw[n]at c e a |-;refine fM 32 [(349,[2,0])] [] [(0,0),(0,0)] Tryz.func297 rfl (λu q=>?_)
  repeat'(first|refine gA ?_|(conv=>whnf);first|with_reducible refine CK l (aa g) ?_|refine C9 ?_|refine CF (c) ⟨bx h,⟨rfl,rfl⟩,trivial⟩ ?_|refine CM rfl rfl (aa g) rfl (X0 rfl) rfl ?_|refine CG rfl (aa g) rfl ?_|refine CH (e) (.inl rfl) ?_)
  refine CE rfl ?_ ?_
  ·exact T0 (λz=>[B z]) ((by simp[a]))
  ·exact wB
theorem tp(h:ab)(p:Int):ao Tryz.prog 290 false [.ptr (ab.enc .imm h),.val none [I p]] .one [B (gt h p)]:=by
 cases e:h.Meshing
 all_goals
  have b:ab.enc .imm h=(ab.enc .imm h).set 18 (B h.Meshing):=rfl;rw[e]at b;rw[b];refine fO 29 [] Tryz.func290 rfl ?_
  repeat'(first|refine gO ?_|(conv=>whnf);first|with_reducible (first|refine Bf.D (λa=>?_) (λa=>?_)|refine Bf.E (λa=>?_) (λa=>?_)|refine Bf.N (λa=>?_) (λa=>?_))|refine C9 ?_)
  all_goals exact T0 (λz=>[B z]) ((by unfold gt;rw[e];first|(simp[*];done)|(simp[*];rw[Y3];simp)))
theorem gw(h:ab):ao Tryz.prog 295 false [.ptr (ab.enc .imm h)] .one [I (dQ h:Nat)]:=by
 refine fO 11 [] Tryz.func295 rfl ?_
 repeat'(first|refine gO ?_|(conv=>whnf);first|refine C9 ?_)
 rfl
theorem pC(h:ab)(a:Int)(k:h.Objs.length<=1048576):ao Tryz.prog 53 false [.val (some 24) (ab.enc .imm h),.val none [I a]] .one [I (cy (kW a) h.Objs)]:=by
 refine fO 22 [] Tryz.func53 rfl ?_
 repeat'(first|refine gO ?_|(conv=>whnf);first|refine C9 ?_)
 (conv=>whnf)
 refine CD (ι:=Nat) (λi=>[(1,.hold .one [I (a)]),(2,.hold .box (ab.enc .imm h)),(5,.hold .one [I ((i:Nat):Int)])]) (λi=>i<=h.Objs.length/\∀(j:Nat)(z:bB),j<i->h.Objs[j]? = some z->kW a z=false) (λi=>h.Objs.length - i) (0) ?_ (⟨R0 _,λj z l=>ω⟩) λi d=>?_
 ·exact wB
 obtain⟨d,c⟩:=d;by_cases g:i<h.Objs.length
 ·have b:=ah g
  by_cases e:(nth h.Objs i).Addr=a
  ·repeat'(first|refine gA ?_|(conv=>whnf);first|with_reducible refine CA (aa b) ?_|refine C9 ?_)
   exact T0 (λz=>[I z]) (d6 b (by unfold kW;simp[e]) c).symm
  ·repeat'(first|refine gA ?_|(conv=>whnf);first|with_reducible refine CA (aa b) ?_|refine C9 ?_)
   ((conv=>whnf);refine CB (i+1) ⟨ω,cV b (by unfold kW;simp[e]) c⟩ ω ?_;(exact wB))
 ·repeat'(first|refine gD ?_|(conv=>whnf);first|refine C9 ?_)
  exact T0 (λz=>[I z]) (eH ω c).symm
theorem mh(h:ab)(i:Nat)(b:i<h.Objs.length)(a:h.Objs.length<=1048576):aQ Tryz.prog 382 false [.ptr (bu h),.val none [I (i:Nat)]] [.ptr (bu {h with Objs:=dele h.Objs i}),.val none [I (i:Nat)]] (.tup []) []:=by
 refine fM 23 [] [(0,273,[4,5,6,7,8,9,10,11,13,14,15,16,17,18,19,21,22,0,1,2,3,4,5,6,7,9,10,11,12,13,14,15,8,1000,1009,1010,1011,1012,1013,1014,1015,16,1000,17,18,19]),(1048576,0,[8])] [(0,0),(0,0)] Tryz.func382 rfl (λu q=>?_) (.inr trivial)
 repeat'(first|refine gO ?_|(conv=>whnf);first|refine C9 ?_|refine r6.mk rfl (zP h.Objs) rfl ?_|refine CS i rfl (by rw[W0];omega) (aN λ_=>rfl) Q3 ?_|refine Sl.suf (i+1) rfl (by rw[W0];omega) (aN λ_=>rfl) R3 ?_|refine CT (λ_=>rfl) (λ_=>rfl) (by rw[I1];omega) (by decide) ?_|refine Ap.dele (λ_=>rfl) (λ_=>rfl) a (by decide) ?_|refine CQ (λ_=>rfl) (λ_=>rfl) (by rw[I1];omega) (by decide) ?_|refine C9 ?_)
 refine CE rfl rfl ?_;exact wB
theorem zM(h:ab)(E:List Int)(i:Nat)(b:bp h E)(e:i<h.Spans.length):aQ Tryz.prog 392 false [.ptr (bu h),.val none [I (i:Nat)]] [.ptr (bu (giveP h i)),.val none [I (i:Nat)]] (.tup []) []:=by
 have a:=b.lens;have g:=a.spans;have c:=ah e;have j:=mL {h with Spans:=dele h.Spans i} (nth h.Spans i).Page b.ker;have d:=gw {h with Kernel:=dM h.Kernel (nth h.Spans i).Page,Spans:=dele h.Spans i};rw[show dQ {h with Kernel:=dM h.Kernel (nth h.Spans i).Page,Spans:=dele h.Spans i} = dQ h from(pR _ _).1]at d;have k:dQ h<=32:=a.ents;have l:=kY (dQ h:Nat) h.Free ⟨(nth h.Spans i).Page,1⟩ ⟨ω,ω⟩ ⟨by have:=a.free;omega,λ_ _=>trivial⟩;refine fM 52 [(297,[2,0])] [(1,273,[13,14,15,16,17,18,19,20,22,23,24,25,26,27,28,30,31,0,1,2,3,4,5,6,7,9,10,11,12,13,14,15,8,1000,1009,1010,1011,1012,1013,1014,1015,16,1000,17,18,19]),(1048577,0,[6]),(3,270,[38,39,40,41,42,43,44,45,47,37,48,49,50,51,0,1,2,3,4,5,6,7,8,1000,1001,1002,1003,1004,1005,1006,9,10,11,12,13,14,15,1012])] [(0,0),(0,0)] Tryz.func392 rfl (λu q=>?_) (.inr trivial)
 repeat'(first|refine gO ?_|(conv=>whnf);first|with_reducible refine CA (aa c) ?_|refine C9 ?_|refine r6.mk rfl (Bj h.Spans) rfl ?_|refine CS i rfl (by rw[W0];omega) (aN λ_=>rfl) Q3 ?_|refine Sl.suf (i+1) rfl (by rw[W0];omega) (aN λ_=>rfl) R3 ?_|refine CT (λ_=>rfl) (λ_=>rfl) (by rw[I1];omega) (by decide) ?_|refine Ap.dele (λ_=>rfl) (λ_=>rfl) ω (by decide) ?_|refine CQ (λ_=>rfl) (λ_=>rfl) (by rw[I1];omega) (by decide) ?_|refine CG rfl (aa c) rfl ?_|refine C9 ?_|refine CH (j) (.inl rfl) ?_|refine CF (d) ⟨bx _,trivial⟩ ?_|refine CF (l) ⟨⟨rfl,rfl⟩,⟨rfl,dB h.Free⟩,⟨rfl,rfl⟩,trivial⟩ ?_)
 refine CE rfl rfl ?_;exact wB
theorem w6(h:ab)(i:Nat)(a:Int):bu (clrS h i a)=(bu h).set 6 (.s .own ((h.Spans.map (au.enc .own)).set i (au.enc .own (mt (nth h.Spans i) (dX (nth h.Spans i) a))))):=by
 simp[bu,clrS,W4]
theorem qL{α β:Type}{f:α->β}{xs:List α}{i:Nat}{y:β}(a:i<xs.length):((xs.map f).set i y)[i]? = some y:=by
 rw[Z2 (by rw[W0];exact a)]
theorem Gv{s:au}(c:aX s=true){a:Int}(b:eP s a):gY s a=(dX s a,0):=by
 unfold gY;rw[C8 ((eS c).2 ⟨b.1,b.2.1⟩),b.2.2.1];rfl
theorem mr(h:ab)(E:List Int)(a:Int)(c:bp h (a::E)):aQ Tryz.prog 364 false [.ptr (bu h),.val none [I a]] [.ptr (bu (freeA h a)),.val none [I a]] (.tup []) []:=by
 obtain⟨g,n,t⟩:=c.at (c.hin a (O1 ..));have d:=(c.hin a (O1 ..)).bd c;have B:=c.lens;have C:=B.spans;have e:=c.L.sok _ (am g);have k:=jd h (a / 16) ω;rw[t]at k;unfold freeA;generalize vh h a=i at g n k e;have b:=ah g;have o:=tg (nth h.Spans i) a ⟨ω,ω⟩;rw[Gv e n]at o;have w:=xu (nth h.Spans i) (dX (nth h.Spans i) a) e n.2.2.2;have D:=c.give g n;have l:=tp (clrS h i a) (nth h.Spans i).Page;rw[show gt (clrS h i a) (nth h.Spans i).Page=gt h (nth h.Spans i).Page from rfl]at l;have p:=zM (clrS h i a) E i D (by unfold clrS;simp only[C1];exact g);have r:=bx (clrS h i a);rw[w6]at p r;have j:((h.Spans.map (au.enc .own)).set i (au.enc .own (mt (nth h.Spans i) (dX (nth h.Spans i) a))))[i]? = some (au.enc .own (mt (nth h.Spans i) (dX (nth h.Spans i) a))):=qL g;unfold freeS;by_cases y:(mt (nth h.Spans i) (dX (nth h.Spans i) a)).Bits=0
 ·cases F:gt h (nth h.Spans i).Page<;>rw[F]at l
  ·rw[C8 ⟨y,rfl⟩]
   refine fM 68 [(392,[2,0])] [(2,274,[26,27,28,29,30,31,32,33,34,35,36,37,38,39,25,40,41,42,0,1,2,3,4,5,6,7,8,9,10,11,12,13,14,15,16,17,18,1016])] [(0,0),(0,0)] Tryz.func364 rfl (λu q=>?_) (.inr trivial)
   repeat'(first|refine gA ?_|(conv=>whnf);first|with_reducible refine CJ ((T0 _ (tdiv16 d.1)).trans (ef ω ω)) ?_|refine C9 ?_|refine CL (by decide) ?_|refine CF (k) ⟨⟨rfl,bx h⟩,⟨rfl,rfl⟩,trivial⟩ ?_|refine CA (aa b) ?_|refine CA j ?_|refine CG rfl (aa b) rfl ?_|refine CG rfl j rfl ?_|refine C6 (o) ?_|refine C6 (w) ?_|refine C9 ?_|refine CM rfl rfl (aa b) rfl (X0 rfl) rfl ?_|refine CF (l) ⟨r,⟨rfl,rfl⟩,trivial⟩ ?_|refine CH (p) (.inl rfl) ?_)
   refine CE rfl rfl ?_;exact wB
  ·rw[C7 λx=>by cases x.2]
   rw[w6];refine fM 68 [(392,[2,0])] [(2,274,[26,27,28,29,30,31,32,33,34,35,36,37,38,39,25,40,41,42,0,1,2,3,4,5,6,7,8,9,10,11,12,13,14,15,16,17,18,1016])] [(0,0),(0,0)] Tryz.func364 rfl (λu q=>?_) (.inr trivial)
   repeat'(first|refine gA ?_|(conv=>whnf);first|with_reducible refine CJ ((T0 _ (tdiv16 d.1)).trans (ef ω ω)) ?_|refine C9 ?_|refine CL (by decide) ?_|refine CF (k) ⟨⟨rfl,bx h⟩,⟨rfl,rfl⟩,trivial⟩ ?_|refine CA (aa b) ?_|refine CA j ?_|refine CG rfl (aa b) rfl ?_|refine CG rfl j rfl ?_|refine C6 (o) ?_|refine C6 (w) ?_|refine C9 ?_|refine CM rfl rfl (aa b) rfl (X0 rfl) rfl ?_|refine CF (l) ⟨r,⟨rfl,rfl⟩,trivial⟩ ?_|refine CH (p) (.inl rfl) ?_)
   refine CE rfl rfl ?_;exact wB
 ·rw[C7 λx=>y x.1]
  rw[w6];refine fM 68 [(392,[2,0])] [(2,274,[26,27,28,29,30,31,32,33,34,35,36,37,38,39,25,40,41,42,0,1,2,3,4,5,6,7,8,9,10,11,12,13,14,15,16,17,18,1016])] [(0,0),(0,0)] Tryz.func364 rfl (λu q=>?_) (.inr trivial)
  repeat'(first|refine gA ?_|(conv=>whnf);first|with_reducible refine CJ ((T0 _ (tdiv16 d.1)).trans (ef ω ω)) ?_|refine C9 ?_|refine CL (by decide) ?_|refine CF (k) ⟨⟨rfl,bx h⟩,⟨rfl,rfl⟩,trivial⟩ ?_|refine CA (aa b) ?_|refine CA j ?_|refine CG rfl (aa b) rfl ?_|refine CG rfl j rfl ?_|refine C6 (o) ?_|refine C6 (w) ?_|refine C9 ?_|refine CM rfl rfl (aa b) rfl (X0 rfl) rfl ?_|refine CF (l) ⟨r,⟨rfl,rfl⟩,trivial⟩ ?_|refine CH (p) (.inl rfl) ?_)
  refine CE rfl rfl ?_;exact wB
theorem KI(h:ab)(t:Nat)(c:ay):bu {h with Caches:=h.Caches.set t c} = (bu h).set 9 (.s .own ((h.Caches.map (ay.enc .own)).set t (ay.enc .own c))):=by
 simp[bu,W4]
theorem mV(h:ab)(E:List Int)(t:Nat)(a:Int)(b:bp h (a::E))(w:t<h.Caches.length):aQ Tryz.prog 384 false [.ptr (bu h),.val none [I (t:Nat)],.val none [I a]] [.ptr (bu (recyc t h a)),.val none [I (t:Nat)],.val none [I a]] (.tup []) []:=by
 obtain⟨o,y,p⟩:=b.at (b.hin a (O1 ..));have g:=(b.hin a (O1 ..)).bd b;have B:=b.lens;have C:=B.spans;have j:=aE (b.L.sok _ (am o));have r:=b.cach _ (am w);have l:=jd h (a / 16) ω;rw[p]at l;have D:=mr h E a b;unfold recyc;generalize vh h a=i at o y l j;have n:=ah o;have k:=ah w;have d:=xm (nth h.Caches t) (nth h.Spans i).Class.toNat a r ω;rw[Int.toNat_of_nonneg j.2.2.1]at d;unfold FM at d;cases e:cput (nth h.Caches t) (nth h.Spans i).Class a with
 | none=>
  rw[e]at d;refine fM 46 [(364,[2,0])] [(1,277,[16,17,18,19,20,21,22,23,24,25,26,27,28,29,30,31,32,15,33,34,7,0,1,2,3,4,5,6,7,8,9,10,11,12,13,14,15,16,17,18,19,20,21,1019,22]),(3,6,[36,37,38,39,40,41])] [(0,0),(0,0),(0,0)] Tryz.func384 rfl (λu q=>?_) (.inr trivial)
  repeat'(first|refine gO ?_|(conv=>whnf);first|with_reducible refine CJ ((T0 _ (tdiv16 g.1)).trans (ef ω ω)) ?_|refine C9 ?_|refine CL (by decide) ?_|refine CF (l) ⟨⟨rfl,bx h⟩,⟨rfl,rfl⟩,trivial⟩ ?_|refine CA (aa n) ?_|refine CA (aa k) ?_|refine CG rfl (aa n) rfl ?_|refine CG rfl (aa k) rfl ?_|refine CF (d) ⟨⟨rfl,ay.enc_fz _⟩,⟨rfl,rfl⟩,⟨rfl,rfl⟩,trivial⟩ ?_|refine C9 ?_|refine CH (D) (.inl rfl) ?_)
  refine CE rfl rfl ?_;exact wB
 | some c=>
  rw[e]at d;simp only;rw[KI];refine fM 46 [(364,[2,0])] [(1,277,[16,17,18,19,20,21,22,23,24,25,26,27,28,29,30,31,32,15,33,34,7,0,1,2,3,4,5,6,7,8,9,10,11,12,13,14,15,16,17,18,19,20,21,1019,22]),(3,6,[36,37,38,39,40,41])] [(0,0),(0,0),(0,0)] Tryz.func384 rfl (λu q=>?_) (.inr trivial)
  repeat'(first|refine gO ?_|(conv=>whnf);first|with_reducible refine CJ ((T0 _ (tdiv16 g.1)).trans (ef ω ω)) ?_|refine C9 ?_|refine CL (by decide) ?_|refine CF (l) ⟨⟨rfl,bx h⟩,⟨rfl,rfl⟩,trivial⟩ ?_|refine CA (aa n) ?_|refine CA (aa k) ?_|refine CG rfl (aa n) rfl ?_|refine CG rfl (aa k) rfl ?_|refine CF (d) ⟨⟨rfl,ay.enc_fz _⟩,⟨rfl,rfl⟩,⟨rfl,rfl⟩,trivial⟩ ?_|refine C9 ?_|refine CM rfl rfl (aa k) rfl (X0 rfl) rfl ?_)
  refine CE rfl rfl ?_;exact wB
theorem oX(h:ab)(i:Nat)(d:bp h [])(o:i<h.Objs.length)(t:aK (nth h.Objs i).Size<0):aQ Tryz.prog 380 false [.ptr (bu h),.val none [I (i:Nat)]] [.ptr (bu (freeL h i (xt h (nth h.Objs i).Addr))),.val none [I (i:Nat)]] (.tup []) []:=by
 obtain⟨l,w,y,-⟩:=(eO d (am o)).1 t;obtain⟨p,B,c,-⟩:=zD w y;generalize xt h (nth h.Objs i).Addr=g at p B c;have a:=d.lens;have C:=a.larges;have D:=a.objs;have b:=ah o;have N:=aR (d.L.lok _ (am p));have E:dQ h<=32:=a.ents;refine fM 89 [(297,[2,0]),(382,[2,0])] [(4,11,[23,24,25,26,27,28,29,30,31,32,33]),(8,7,[41,42,43,44,45,46,47]),(9,273,[50,51,52,53,54,55,56,57,58,59,60,62,49,63,64,65,66,0,1,2,3,4,5,6,7,8,9,10,11,1000,1001,1002,1003,1004,1005,1006,12,13,14,15,16,17,18,1015]),(10,273,[67,68,69,70,71,72,73,74,76,77,78,79,80,81,82,84,85,0,1,2,3,4,5,6,7,9,10,11,12,13,14,15,8,1000,1009,1010,1011,1012,1013,1014,1015,16,1000,17,18,19]),(1048586,0,[7])] [(0,0),(0,0)] Tryz.func380 rfl (λu q=>?_) (.inr trivial)
 repeat'(first|refine gO ?_|(conv=>whnf);first|refine C9 ?_)
 (conv=>whnf)
 refine CD (ι:=Nat) (λk=>[(0,.hold .box (bu h)),(1,.hold .one [I ((i:Nat):Int)]),(4,.hold .one [I ((k:Nat):Int)])]) (λk=>k<=g) (λk=>g - k) (0) ?_ (R0 _) λk O=>?_
 ·exact wB
 have j:=ah (xs:=h.Larges) (i:=k) ω;have F:=aR (d.L.lok _ (am (xs:=h.Larges) (i:=k) ω));have G:0<=(nth h.Objs i).Addr/\(nth h.Objs i).Addr<=512:=ω
 by_cases e:k=g
 ·subst e
  repeat'(first|refine gA ?_|(conv=>whnf);first|with_reducible refine CA (aa j) ?_|refine C9 ?_|refine CG rfl (aa j) rfl ?_|refine CG rfl (aa b) rfl ?_|refine CA (aa b) ?_)
  (conv=>whnf)
  refine CD (ι:=Nat) (λn=>[(0,.hold .box (bu {h with Kernel:=dR h.Kernel (nth h.Larges k).Page n})),(1,.hold .one [I ((i:Nat):Int)]),(4,.hold .one [I ((k:Nat):Int)]),(5,.hold .box (a8.enc .own (nth h.Larges k))),(6,.hold .one [I ((n:Nat):Int)])]) (λn=>n<=(nth h.Larges k).Pages.toNat) (λn=>(nth h.Larges k).Pages.toNat - n) (0) ?_ (R0 _) λn P=>?_
  ·exact wB
  by_cases Q:n<(nth h.Larges k).Pages.toNat
  ·have H:=mL {h with Kernel:=dR h.Kernel (nth h.Larges k).Page n} ((nth h.Larges k).Page+n) (kq d.ker _ _)
   repeat'(first|refine gD ?_|(conv=>whnf);first|refine C9 ?_|refine CH (H) (.inl rfl) ?_|refine C9 ?_)
   ((conv=>whnf);refine CB (n+1) ω ω ?_;(exact wB))
  ·obtain rfl:n=(nth h.Larges k).Pages.toNat:=ω
   have r:=gw {h with Kernel:=dR h.Kernel (nth h.Larges k).Page (nth h.Larges k).Pages.toNat};rw[show dQ {h with Kernel:=dR h.Kernel (nth h.Larges k).Page (nth h.Larges k).Pages.toNat} = dQ h from(iv _ _ _).1]at r;have J:=kY (dQ h:Nat) h.Free ⟨(nth h.Larges k).Page,(nth h.Larges k).Pages⟩ ⟨ω,ω⟩ ⟨by have:=a.free;omega,λ_ _=>trivial⟩;have K:=mh {h with Kernel:=dR h.Kernel (nth h.Larges k).Page (nth h.Larges k).Pages.toNat,Larges:=dele h.Larges k,Free:=(d2 (dQ h) h.Free ⟨(nth h.Larges k).Page,(nth h.Larges k).Pages⟩).getD h.Free} i o (by show h.Objs.length<=_;omega)
   repeat'(first|refine gD ?_|(conv=>whnf);first|refine C9 ?_|refine r6.mk rfl (yd h.Larges) rfl ?_|refine CS k rfl (by rw[W0];omega) (aN λ_=>rfl) Q3 ?_|refine Sl.suf (k+1) rfl (by rw[W0];omega) (aN λ_=>rfl) R3 ?_|refine CT (λ_=>rfl) (λ_=>rfl) (by rw[I1];omega) (by decide) ?_|refine Ap.dele (λ_=>rfl) (λ_=>rfl) ω (by decide) ?_|refine CQ (λ_=>rfl) (λ_=>rfl) (by rw[I1];omega) (by decide) ?_|refine C9 ?_|refine CF (r) ⟨bx _,trivial⟩ ?_|refine CF (J) ⟨⟨rfl,rfl⟩,⟨rfl,dB h.Free⟩,⟨rfl,rfl⟩,trivial⟩ ?_|refine CH (K) (.inl rfl) ?_)
   refine CE rfl rfl ?_;exact wB
 ·have M:=c k ω
  repeat'(first|refine gA ?_|(conv=>whnf);first|with_reducible refine CA (aa j) ?_|refine C9 ?_|refine CG rfl (aa j) rfl ?_|refine CG rfl (aa b) rfl ?_|refine CA (aa b) ?_)
  ((conv=>whnf);refine CB (k+1) ω ω ?_;(exact wB))
def MW(q:bE)(x:aL):List C:=bE.enc .own (Hi q x)++cA .own (za q x)
theorem M2(q:bE)(x:aL):gE (MW q x):=aY (bE.enc_fr _) (tJ _)
theorem zw(q:bE)(a:aL)(K:q.Lst.length<=4096)(e:eZ q=true)(r:0<=a.Class/\a.Class<=3/\0<=a.Addr/\0<=a.Since)(t:∀y∈q.Lst,y.Since<=a.Since)(u:∀y∈q.Lst,y.Addr≠a.Addr) :
  ao Tryz.prog 383 false [.val (some 2) (bE.enc .imm q),.val (some 3) (aL.enc .imm a)] (.tup [some 2,none]) (MW q a):=by
 have b:bE.sml q:=⟨ω,λ_ _=>trivial⟩
 have w:=rd q b;have l:=nK q b;rw[e]at l;have n:=yK a;rw[O0 r]at n;have o:=qm q a.Addr b;rw[show q.Lst.any (cB a.Addr)=false by rw[List.any_eq_false];intro y B;unfold cB;simpa using u y B]at o;have C:=(jc.1 e).2.2.2;have g:=M2 q a;have L:(aL.mk a.Addr a.Class a.Since)=a:=rfl;have c:=DB q.Room (q.Lst++[a]);simp only[U2,List.length_singleton]at c;by_cases E:q.Lst.length=0
 all_goals
  try have h:(nth q.Lst (q.Lst.length - 1)).Since<=a.Since:=t _ (am ω)
  try have j:=ah (xs:=q.Lst) (i:=q.Lst.length - 1) ω
  try have d:q.Lst[((q.Lst.length:Int) - 1).toNat]? = some (nth q.Lst (q.Lst.length - 1)):=by rw[show((q.Lst.length:Int) - 1).toNat=q.Lst.length - 1 by omega];exact j
  refine fO 74 [(3,27,[15,16,17,18,19,20,21,22,23,24,25,26,27,28,29,30,31,32,33,34,35,36,37,38,39,40,41]),(7,6,[52,53,54,55,56,57]),(9,268,[61,62,63,64,65,66,67,69,70,71,72,73,0,1,2,3,4,5,6,8,9,10,11,12,7,1008,1009,1010,1011,1012,13,14])] Tryz.func383 rfl ?_ (.inr g)
  repeat'(first|refine gD ?_|(conv=>whnf);first|with_reducible refine Bf.D (λe=>?_) (λe=>?_)|refine C9 ?_|refine C6 (w) ?_|refine C6 (l) ?_|refine C6 (n) ?_|refine C6 (o) ?_|refine CK ω (aa d) ?_|refine Ap.sm (aN λ_=>rfl) rfl (by simp;omega) (by decide) (hJ (aL.enc .own) q.Lst a) ?_)
  (conv=>whnf)
  refine Lp.fz 8 (ι:=Nat) (λk=>[(2,.hold .box (bE.enc .imm q)),(4,.hold .box [I 0,.z]),(8,.hold .one (cA .imm (q.Lst++[a]))),(9,.hold .one [I (k:Nat)])]) (λk=>k<=mZ q.Room (q.Lst++[a])) (λk=>mZ q.Room (q.Lst++[a]) - k) 0 ?_ (R0 _) λk M=>?_
  ·(repeat'(first|exact trivial|rfl|exact CI rfl (show JF (dy (cA .own (q.Lst++[a]))) (cA .imm (q.Lst++[a])) by rw[tM];exact lG _)|refine CI ?_ ?_))
  have N:(q.Lst++[a]).length=q.Lst.length+1:=by simp
  have F:((q.Lst++[a]).drop k).length<=5000:=by rw[W2];omega
  have G:((q.Lst++[a]).take k).length<=5000:=by rw[I1];omega
  have p:=t6 ((q.Lst++[a]).drop k) ⟨ω,λ_ _=>trivial⟩;by_cases H:k<mZ q.Room (q.Lst++[a])
  ·have J:q.Room<quarCells ((q.Lst++[a]).drop k) ((q.Lst++[a]).drop k).length:=yr H
   repeat'(first|refine gD ?_|(conv=>whnf);first|refine C9 ?_|refine Sl.suf k rfl (by rw[W0];omega) (aN λ_=>rfl) R3 ?_|refine C6 (p) ?_|refine C9 ?_)
   ((conv=>whnf);refine CB (k+1) ω ω ?_;(exact wB))
  ·obtain rfl:k=mZ q.Room (q.Lst++[a]):=ω
   have J:quarCells ((q.Lst++[a]).drop (mZ q.Room (q.Lst++[a]))) ((q.Lst++[a]).drop (mZ q.Room (q.Lst++[a]))).length<=q.Room:=zB C.1 _
   repeat'(first|refine gD ?_|(conv=>whnf);first|refine C9 ?_|refine Sl.suf (mZ q.Room (q.Lst++[a])) rfl (by rw[W0];omega) (aN λ_=>rfl) R3 ?_|refine CS (mZ q.Room (q.Lst++[a])) rfl (by rw[W0];omega) (aN λ_=>rfl) Q3 ?_|refine C6 (p) ?_|refine C9 ?_|refine CT (λ_=>rfl) (λ_=>rfl) ω (by decide) ?_|refine CQ (λ_=>rfl) (λ_=>rfl) ω (by decide) ?_)
   rfl
theorem pw{z:Int}(h:0<=z/\z<512):IntKind.i64.wrap (z.tdiv 16)=z / 16:=(T0 _ (tdiv16 h.1)).trans (ef ω ω)
theorem se{h:ab}{E:List Int}(a:bp h E){o:bB}(b:o∈h.Objs):0<=o.Addr/\o.Addr<512:=by
 rcases a.oow o b with⟨s,c,⟨f,g,-⟩,-⟩|⟨l,d,e,-⟩
 ·have:=aE (a.L.sok s c);omega
 ·have:=aR (a.L.lok l d);omega
theorem Ko{k:Int}(h:0<=k/\k<=3):1<=csz k/\csz k<=8:=by
 rcases bO h with e|e|e|e<;>rw[e]<;>decide
structure Pm(h:ab)(o:bB):Prop where
 cl:0<=aK o.Size/\aK o.Size<=3
 fr:0<=(ar h.Kernel.Machine.Table (o.Addr / 16)).Frame/\(ar h.Kernel.Machine.Table (o.Addr / 16)).Frame<h.Kernel.Machine.Frames.Cells.length
 fit:o.Addr % 16+csz (aK o.Size)<=16
 row:(nth h.Kernel.Machine.Frames.Cells (fR h.Kernel o.Addr)).length=16
theorem Pm.of{h:ab}{E:List Int}(b:bp h E){o:bB}(l:o∈h.Objs)(q:¬aK o.Size<0):Pm h o:=by
 obtain⟨⟨s,d,f,r⟩,B⟩:=(eO b l).2 q;have t:=aE (b.L.sok s d);have u:=se b l;have n:s.Page=o.Addr / 16:=by have C:=f.1;have D:=f.2.1;omega
 have c:(o.Addr / 16).toNat<(tbl h).Entries.length:=by have:=b.pg.bnd _ (d8 (la:=h.Larges) d);omega
 have a:(((o.Addr / 16).toNat:Nat):Int)=o.Addr / 16:=ω
 have p:=(b.pg.own _ c).2 (by rw[a,<-n];exact d8 d);have g:(ar h.Kernel.Machine.Table (o.Addr / 16)).Mode≠0:=by rw[<-a];unfold tbl at p c;rw[lg c];exact p
 obtain⟨-,-,-,i,w⟩:=cr b.ker g;have y:=(bh.1 (aF.1 b.ker).2.1).2.2.1;have j:fR h.Kernel o.Addr<h.Kernel.Machine.Frames.Cells.length:=by unfold fR;omega
 refine⟨ω,⟨i,ω⟩,?_,b.lens.row _ (am j)⟩;have A:=f.2.2.1;rw[n,<-r]at *;rcases bO (k:=s.Class) ⟨ω,ω⟩ with e|e|e|e<;>rw[e]at A |-<;>omega
theorem Fr(h:ab)(a:Int)(b:fR h.Kernel a<h.Kernel.Machine.Frames.Cells.length):({h with Kernel:=fK h.Kernel a 0} : ab)=h:=by
 have e:h.Kernel.Machine.Frames.Cells.set (fR h.Kernel a) (nth h.Kernel.Machine.Frames.Cells (fR h.Kernel a))=h.Kernel.Machine.Frames.Cells:=by
  refine List.ext_getElem? λi=>?_
  rw[z3];split
  ·rename_i e
   subst e;exact(ah b).symm
  ·rfl
 unfold fK lI;rw[e]
theorem Di(h:ab)(a:Int)(k:Nat)(v:Int)(_:0<=a):bu {h with Kernel:=fK h.Kernel a (k+1)} = (bu {h with Kernel:=fK h.Kernel a k}).set 0 (.s .own (((fK h.Kernel a k).Machine.Frames.Cells.map (aD .own)).set (ar h.Kernel.Machine.Table (a / 16)).Frame.toNat ((aD .own (lI (nth h.Kernel.Machine.Frames.Cells (fR h.Kernel a)) (a % 16).toNat k)).set 0 (.s .own (((lI (nth h.Kernel.Machine.Frames.Cells (fR h.Kernel a)) (a % 16).toNat k).map (rI .own)).set (a % 16+k).toNat (splice (rI .own v) 0 [I 0])))))):=by
 have e:(a % 16+k).toNat=(a % 16).toNat+k:=ω
 rw[e];simp[bu,fK,W4,lI,aD,splice,fR]
 rfl
theorem BW(t:Nat)(h:ab)(xs:List aL)(k:Nat)(a:k<xs.length):recycs t h ((xs.take (k+1)).map (·.Addr))=recyc t (recycs t h ((xs.take k).map (·.Addr))) (nth xs k).Addr:=by
 unfold recycs;rw[O4,ah a];simp
theorem Fa(h:ab)(o:bB)(t:Nat)(a:bp h [])(P:o∈h.Objs)(ht:o.Thread=t)(hlc:h.Caches.length<=4):aQ Tryz.prog 354 false [.ptr (bu h),.val none [I (t:Nat)],.val none [I o.Addr]] [.ptr (bu (freeOb h t (og h o.Addr)).1),.val none [I (t:Nat)],.val none [I o.Addr]] .one [I (freeOb h t (og h o.Addr)).2]:=by
 obtain⟨l,B,C⟩:=a.objAt P;have b:=se a P;have hon:=a.onu o P;have d:=a.lens;have hno:=d.objs;have E:t<h.Caches.length:=ω
 have M:=aG (t:Nat) 0 (h.Caches.length - 1:Int);rw[O0 ω]at M;have F:=pC h o.Addr ω;rw[C]at F;generalize og h o.Addr=i at l B F;subst B;have r:=ah l;have Q:=j8 (nth h.Objs i).Size;unfold freeOb;have R:=bF a.ker;have Z:=db h.Kernel.Machine.Table ((nth h.Objs i).Addr / 16) R.1.2;by_cases w:aK (nth h.Objs i).Size<0
 ·rw[C8 w]
  have c3:=oX h i a l w;refine fM 148 [(380,[2,0]),(382,[2,0]),(384,[2,0,0]),(379,[2,0])] [(15,269,[68,69,70,71,72,73,74,75,77,67,78,79,11,0,1,2,3,4,5,6,7,13,8,1000,1001,1002,1003,1004,1013,9,10,11,12,14,1012,15]),(22,15,[92,93,94,95,96,97,98,99,100,101,102,103,104,105,106]),(25,271,[116,117,118,119,120,121,122,123,124,125,127,115,128,129,14,0,1,2,3,4,5,6,7,8,9,15,10,1000,1001,1002,1003,1015,11,12,13,14,16,1014,17])] [(0,0),(0,0),(0,0)] Tryz.func354 rfl (λu q=>?_)
  repeat'(first|refine gD ?_|(conv=>whnf);first|with_reducible refine Bf.D (λn=>?_) (λn=>?_)|refine C9 ?_|refine C6 (M) ?_|refine CF (F) ⟨⟨rfl,bx h⟩,⟨rfl,rfl⟩,trivial⟩ ?_|refine CA (aa r) ?_|refine CG rfl (aa r) rfl ?_|refine C6 (Q) ?_|refine CH (c3) (.inl rfl) ?_)
  refine CE rfl rfl ?_;exact wB
 rw[C7 w];obtain⟨S,s2,s3,s4⟩:=Pm.of a (am l) w;by_cases N:(ar (tbl h) ((nth h.Objs i).Addr / 16)).Mode=1
 ·rw[C8 N]
  unfold tbl at N;refine fM 148 [(380,[2,0]),(382,[2,0]),(384,[2,0,0]),(379,[2,0])] [(15,269,[68,69,70,71,72,73,74,75,77,67,78,79,11,0,1,2,3,4,5,6,7,13,8,1000,1001,1002,1003,1004,1013,9,10,11,12,14,1012,15]),(22,15,[92,93,94,95,96,97,98,99,100,101,102,103,104,105,106]),(25,271,[116,117,118,119,120,121,122,123,124,125,127,115,128,129,14,0,1,2,3,4,5,6,7,8,9,15,10,1000,1001,1002,1003,1015,11,12,13,14,16,1014,17])] [(0,0),(0,0),(0,0)] Tryz.func354 rfl (λu q=>?_)
  repeat'(first|refine gA ?_|(conv=>whnf);first|with_reducible refine Bf.D (λn=>?_) (λn=>?_)|refine C9 ?_|refine CL (by decide) ?_|refine CJ (pw b) ?_|refine C6 (M) ?_|refine CF (F) ⟨⟨rfl,bx h⟩,⟨rfl,rfl⟩,trivial⟩ ?_|refine CA (aa r) ?_|refine CG rfl (aa r) rfl ?_|refine C6 (Q) ?_|refine CF (Z) ⟨⟨rfl,CV _⟩,⟨rfl,rfl⟩,trivial⟩ ?_)
  refine CE rfl rfl ?_;exact wB
 rw[C7 N];unfold tbl at N;have G:fR h.Kernel (nth h.Objs i).Addr<h.Kernel.Machine.Frames.Cells.length:=by unfold fR;omega
 have hcz:=Ko S;have g:=a.inQuar l w;have H:=cX (aK (nth h.Objs i).Size);refine fM 148 [(380,[2,0]),(382,[2,0]),(384,[2,0,0]),(379,[2,0])] [(15,269,[68,69,70,71,72,73,74,75,77,67,78,79,11,0,1,2,3,4,5,6,7,13,8,1000,1001,1002,1003,1004,1013,9,10,11,12,14,1012,15]),(22,15,[92,93,94,95,96,97,98,99,100,101,102,103,104,105,106]),(25,271,[116,117,118,119,120,121,122,123,124,125,127,115,128,129,14,0,1,2,3,4,5,6,7,8,9,15,10,1000,1001,1002,1003,1015,11,12,13,14,16,1014,17])] [(0,0),(0,0),(0,0)] Tryz.func354 rfl (λu q=>?_)
 repeat'(first|refine gA ?_|(conv=>whnf);first|with_reducible refine Bf.D (λn=>?_) (λn=>?_)|refine C9 ?_|refine CL (by decide) ?_|refine CJ (pw b) ?_|refine C6 (M) ?_|refine CF (F) ⟨⟨rfl,bx h⟩,⟨rfl,rfl⟩,trivial⟩ ?_|refine CA (aa r) ?_|refine CG rfl (aa r) rfl ?_|refine C6 (Q) ?_|refine CF (Z) ⟨⟨rfl,CV _⟩,⟨rfl,rfl⟩,trivial⟩ ?_)
 rw[show bu h=bu {h with Kernel:=fK h.Kernel (nth h.Objs i).Addr 0} by rw[Fr h _ G]]
 (conv=>whnf)
 refine CD (ι:=Nat) (λk=>[(0,.hold .box (bu {h with Kernel:=fK h.Kernel (nth h.Objs i).Addr k})),(1,.hold .one [I ((t:Nat):Int)]),(2,.hold .one [I ((nth h.Objs i).Addr)]),(7,.hold .one [I ((i:Nat):Int)]),(8,.hold .box (bB.enc .own (nth h.Objs i))),(9,.hold .one [I (aK (nth h.Objs i).Size)]),(10,.hold .box (bg.enc .own (ar h.Kernel.Machine.Table ((nth h.Objs i).Addr / 16)))),(13,.hold .one [I ((k:Nat):Int)])]) (λk=>k<=(csz (aK (nth h.Objs i).Size)).toNat) (λk=>(csz (aK (nth h.Objs i).Size)).toNat - k) (0) ?_ (R0 _) λk hk=>?_
 ·exact wB
 have hmod:IntKind.i64.wrap 0=0:=rfl;have T:(nth h.Objs i).Addr.tmod 16=(nth h.Objs i).Addr % 16:=fo b.1;have p:(fK h.Kernel (nth h.Objs i).Addr k).Machine.Frames.Cells[(ar h.Kernel.Machine.Table ((nth h.Objs i).Addr / 16)).Frame.toNat]? = some (lI (nth h.Kernel.Machine.Frames.Cells (fR h.Kernel (nth h.Objs i).Addr)) ((nth h.Objs i).Addr % 16).toNat k):=Z2 G;by_cases O:k<(csz (aK (nth h.Objs i).Size)).toNat
 ·have J:=ah (xs:=lI (nth h.Kernel.Machine.Frames.Cells (fR h.Kernel (nth h.Objs i).Addr)) ((nth h.Objs i).Addr % 16).toNat k) (i:=((nth h.Objs i).Addr % 16+k).toNat) (by rw[oL,s4];omega)
  repeat'(first|refine gD ?_|(conv=>whnf);first|refine C9 ?_|refine CL (by decide) ?_|refine CR T ?_|refine C6 (H) ?_|refine CK s2.1 (aa p) ?_|refine CG rfl (aa p) rfl ?_|refine CK ω (aa J) ?_|refine Pu.two rfl rfl (aa p) rfl rfl rfl (aa J) rfl (Q2 _) (Di h _ k _ b.1) ?_)
  ((conv=>whnf);refine CB (k+1) ω ω ?_;(exact wB))
 ·obtain rfl:k=(csz (aK (nth h.Objs i).Size)).toNat:=ω
  have c5:=mh {h with Kernel:=fK h.Kernel (nth h.Objs i).Addr (csz (aK (nth h.Objs i).Size)).toNat} i l (by show h.Objs.length<=_;omega);have j:=a.nums;unfold cb at j;rw[C0]at j;have K:=(a.dropO l (jl.any (c:=aK (nth h.Objs i).Size) (by obtain⟨⟨s,hs,k1,k2⟩,-⟩:=(eO a (am l)).2 w;exact⟨s,hs,k1,.inr k2⟩))).nd;rw[List.cons_append,List.nil_append]at K;have c6:=zw h.Quar (kS h (nth h.Objs i)) (by have:=d.quar;omega) a.quar ⟨S.1,S.2,b.1,j.2.2.1⟩ (λy U=>a.snc y U) (λy U e=>(List.nodup_cons.1 K).1 (by rw[show(nth h.Objs i).Addr=y.Addr from e.symm];unfold holders;simp only[O2];exact .inl (.inr (T3.2 ⟨y,U,rfl⟩))));unfold MW at c6;have V:(za h.Quar (kS h (nth h.Objs i))).length<=513:=by have:=d.quar;unfold za;rw[I1,U2];simp only[List.length_singleton];omega
  repeat'(first|refine gA ?_|(conv=>whnf);first|with_reducible refine Bf.D (λn=>?_) (λn=>?_)|refine C9 ?_|refine C6 (H) ?_|refine CH (c5) (.inl rfl) ?_|refine CF (c6) ⟨⟨rfl,bE.enc_fz h.Quar⟩,⟨rfl,rfl⟩,trivial⟩ ?_|refine C9 ?_)
  have W:Kl h t i=recycs t (inQuar h i) ((za h.Quar (kS h (nth h.Objs i))).map (·.Addr)):=rfl;simp only;rw[W];have hqn:(inQuar h i).Caches.length=h.Caches.length:=rfl;generalize za h.Quar (kS h (nth h.Objs i))=out at g V
  (conv=>whnf)
  refine CD (ι:=Nat) (λk=>[(0,.hold .box (bu (recycs t (inQuar h i) ((out.take k).map (·.Addr))))),(1,.hold .one [I ((t:Nat):Int)]),(15,.hold .one (cA .own out)),(16,.hold .one [I ((k:Nat):Int)])]) (λk=>k<=out.length) (λk=>out.length - k) (0) ?_ (R0 _) λk hk=>?_
  ·exact wB
  by_cases O:k<out.length
  ·have L:=ah O
   have X:out.map (·.Addr)=(out.take k).map (·.Addr)++(nth out k).Addr::(out.drop (k+1)).map (·.Addr):=by
    conv=>lhs;rw[<-List.take_append_drop k out,iT O]
    simp
   have Y:bp (recycs t (inQuar h i) ((out.take k).map (·.Addr))) ((nth out k).Addr::(out.drop (k+1)).map (·.Addr)):=bp.recycs (by rw[<-X];exact g) E;have c7:=mV _ _ t _ Y (by rw[(iS t _ _).1];exact E)
   repeat'(first|refine gD ?_|(conv=>whnf);first|refine C9 ?_|refine CA (aa L) ?_|refine CG rfl (aa L) rfl ?_|refine CH (c7) (.inl rfl) ?_)
   ((conv=>whnf);refine CB (k+1) ω ω ?_)
   rw[BW t _ out k O];exact wB
  ·obtain rfl:k=out.length:=ω
   rw[v4]
   repeat'(first|refine gD ?_|(conv=>whnf);first|refine C9 ?_)
   refine CE rfl rfl ?_;exact wB
set_option maxRecDepth 100000
theorem dq(c:C):Mc c c:=(lG [c]).1
theorem kX{c a:C}(h:a=c):Mc c a:=by subst h;exact dq _
def Hz(c:ay)(k:Nat):ay:=⟨c.Lists.set k []⟩
theorem LY(c:ay)(k:Nat):ay.enc .own (Hz c k)=[.s .own ((c.Lists.map (aD .own)).set k (aD .own []))]:=by simp[ay.enc,Hz,W4]
theorem JA(xs:List Int):([]:List Int).map (rI .imm)=(xs.map (rI .imm)).drop xs.length:=by rw[List.drop_eq_nil_of_le (by rw[W0];omega)];rfl
theorem Jc(xs:List Int):xs.map (rI .imm)=(xs.map (rI .imm)).take xs.length:=by rw[O5 (by rw[W0];omega)]
def Pv(c:ay)(k:Nat):List C:=ay.enc .own (Hz c k)++aD .own (nth c.Lists k)
theorem MR(c:ay)(k:Nat):gE (Pv c k):=aY (ay.enc_fr _) (bC _)
theorem uo(c:ay)(k:Nat)(d:bm c=true)(p:k<=3):ao Tryz.prog 390 false [.val (some 1) (ay.enc .imm c),.val none [I (k:Nat)],.val none [I 8]] (.tup [some 1,none]) (Pv c k):=by
 obtain⟨q,e⟩:=ep d;have g:ay.sml c:=⟨ω,λl j=>by have:=e l j;show l.length<=1048576;omega⟩
 have h:=vE c k g;rw[d,O0 ω]at h;have n:=gZ c g;have a:=rJ (c:=c) (k:=k) ω;have o:=e _ (am (xs:=c.Lists) (i:=k) ω);have b:=MR c k;unfold Pv at b |-;rw[LY]at b |-;refine fO 52 [(5,268,[29,30,31,32,33,34,35,36,37,38,39,41,0,1,2,3,4,5,6,7,8,9,10,11,1000,1001,1002,12,13]),(6,265,[42,43,44,45,46,47,48,49,50,0,1,2,3,4,5,6,7,8,9,1000,10,11])] Tryz.func390 rfl ?_ (.inr b)
 repeat'(first|refine gO ?_|(conv=>whnf);first|with_reducible refine CA (aa a) ?_|refine C9 ?_|refine CG rfl (aa a) rfl ?_|refine C6 (h) ?_|refine C6 (n) ?_|refine CR (z:=((nth c.Lists k).length:Int)) (by simp;omega) ?_|refine Sl.suf (nth c.Lists k).length rfl (by rw[W0];omega) (aN λ_=>rfl) (JA _) ?_|refine CS (nth c.Lists k).length rfl (by rw[W0];omega) (aN λ_=>rfl) (Jc _) ?_|refine C9 ?_|refine CT (λ_=>rfl) (λ_=>rfl) (by simp) (by decide) ?_|refine CQ (λ_=>rfl) (λ_=>rfl) (by simp) (by decide) ?_|refine CT (λ_=>rfl) (λ_=>rfl) ω (by decide) ?_|refine CQ (λ_=>rfl) (λ_=>rfl) ω (by decide) ?_|refine CM rfl rfl (aa a) rfl (X0 rfl) rfl ?_)
 rfl
theorem nH{k:Int} : ∀{l s s2 c:List Int},(∀x∈s2,x∈s)->qj k s l=some c->(∀x∈s,x∈c)/\∃d,qj k s2 l=some d/\∀x∈d,x∈c
 | [],s,s2,c,h,e=>by
  simp only[qj,U0]at e |-;subst e;exact⟨λ_ h=>h,s2,rfl,h⟩
 | a::l,s,s2,c,h,e=>by
  simp only[qj]at e |-;split at e
  ·rename_i g
   rw[C8 (show good k s2 a from⟨g.1,g.2.1,g.2.2.1,λx=>g.2.2.2 (h a x)⟩)];obtain⟨f,i⟩:=nH (l:=l) (s:=s++[a]) (s2:=s2++[a]) (λx b=>by
     rcases O2.1 b with b|b
     · exact O2.2 (.inl (h x b))
     · exact O2.2 (.inr b)) e
   exact⟨λx b=>f x (O2.2 (.inl b)),i⟩
  ·cases e
theorem rN:∀{a:List (List Int)}{k:Nat}{s s2:List Int},(∀x∈s2,x∈s)->(fJ k s a).isSome=true->(fJ k s2 a).isSome=true
 | [],_,_,_,_,_=>rfl
 | l::a,k,s,s2,h,e=>by
  simp only[fJ,dS]at e |-;split at e
  ·rename_i g
   rw[C8 g];cases b:qj k s l with
   | none=>rw[b]at e;cases e
   | some i=>
    rw[b]at e;obtain⟨-,c,d,f⟩:=nH h b;rw[d];exact rN f e
  ·cases e
theorem BU:∀{a:List (List Int)}{k:Nat}{s s2:List Int}(i:Nat),(∀x∈s2,x∈s)->(fJ k s a).isSome=true->(fJ k s2 (a.set i [])).isSome=true
 | [],_,_,_,_,_,_=>rfl
 | l::a,k,s,s2,i,h,e=>by
  simp only[fJ,dS]at e;split at e
  ·rename_i g
   cases b:qj k s l with
   | none=>rw[b]at e;cases e
   | some o=>
    rw[b]at e;obtain⟨c,d,f,j⟩:=nH h b;cases i with
    | zero=>
     simp only[List.set_cons_zero,fJ,dS];rw[C8 ⟨by simp,g.2⟩];exact rN (λx n=>c x (h x n)) e
    | succ i=>
     simp only[List.set_cons_succ,fJ,dS];rw[C8 g,f];exact BU i j e
  ·cases e
theorem MM{c:ay}(h:bm c=true)(k:Nat):bm (Hz c k)=true:=by
 unfold bm at h |-;simp only[I0,C0]at h |-;exact⟨by simp only[Hz,C1];exact h.1,BU k (λ_ h=>h) h.2⟩
def spilt(h:ab)(t k:Nat):ab:={h with Caches:=h.Caches.set t (Hz (nth h.Caches t) k)}
theorem bp.spilt{h:ab}{E:List Int}{t k:Nat}(f:bp h E)(i:t<h.Caches.length)(n:k<(nth h.Caches t).Lists.length):bp (spilt h t k) (nth (nth h.Caches t).Lists k++E):=by
 have p:(E++holders h).Perm (nth (nth h.Caches t).Lists k++E++holders (Ab.spilt h t k)):=by
  refine List.perm_iff_count.2 λb=>?_
  have r:=ib (λc:ay=>c.Lists.flatten) b h.Caches t (Hz (nth h.Caches t) k) i;have q:=ib (λx:List Int=>x) b (nth h.Caches t).Lists k [] n;rw[<-jL,<-jL]at q;simp only[List.count_nil]at q;simp only[Hz]at r;simp only[holders,bQ,Ab.spilt,Hz,V4];omega
 have g:∀c∈(Ab.spilt h t k).Caches,c∈h.Caches\/c=Hz (nth h.Caches t) k:=λc u=>Z4 u
 exact {f with
   nc:=by show(h.Caches.set ..).length=_;rw[C1];exact f.nc
   cach:=λc a=>by
     rcases g c a with a|rfl
     · exact f.cach c a
     · exact MM (f.cach _ (am i)) k
   onu:=by show ∀o∈h.Objs,1<=o.Id/\o.Id<=h.Next - 1/\0<=o.Thread/\o.Thread<=(h.Caches.set t _).length - 1;rw[C1];exact f.onu
   hca:=λc a j l b d=>by
     rcases g c a with a|rfl
     · exact f.hca c a j l b d
     · simp only[Hz,C1]at l
       simp only[Hz,cu]at d;by_cases e:k=j
       · subst e
         rw[C8 ⟨rfl,l⟩]at d;cases d
       · rw[C7 λx=>e x.1]at d
         exact f.hca _ (am i) _ l b d
   hin:=λb d=>by
     rcases O2.1 d with d|d
     · exact(f.hca _ (am i) k n b d).any
     · exact f.hin b d
   nd:=p.nodup_iff.1 f.nd
   mem:=λb=>by rw[<-p.mem_iff];exact f.mem b}
def freeAs(h:ab)(az:List Int):ab:=az.foldl freeA h
theorem kC:∀(az:List Int)(h:ab),(freeAs h az).Caches=h.Caches/\(freeAs h az).Objs=h.Objs/\(freeAs h az).Kernel.Calls=h.Kernel.Calls/\(freeAs h az).Mail=h.Mail/\(freeAs h az).Job=h.Job/\(freeAs h az).Clock=h.Clock/\(freeAs h az).Quar=h.Quar/\(freeAs h az).Kernel.Refuse=h.Kernel.Refuse
 | [],h=>⟨rfl,rfl,rfl,rfl,rfl,rfl,rfl,rfl⟩
 | a::az,h=>by
  obtain⟨b,c,d,e,f,g,i,j⟩:=kC az (freeA h a);obtain⟨k,l,n,o,p,q,r,t⟩:=wN h (vh h a) a;exact⟨b.trans k,c.trans l,d.trans n,e.trans o,f.trans p,g.trans q,i.trans r,j.trans t⟩
theorem bp.freeAs{E:List Int} : ∀{az:List Int}{h:ab},bp h (az++E)->bp (freeAs h az) E
 | [],_,b=>b
 | a::az,h,b=>bp.freeAs (az:=az) (h:=Ab.freeA h a) b.freeA
theorem sU(h:ab)(az:List Int)(k:Nat)(a:k<az.length):freeAs h (az.take (k+1))=freeA (freeAs h (az.take k)) (nth az k):=by
 rw[O4,ah a];simp[freeAs]
def flushN(t:Nat)(h:ab):Nat->ab × Nat
 | 0=>(h,0)
 | k+1=>(freeAs (spilt (flushN t h k).1 t k) (nth (nth (flushN t h k).1.Caches t).Lists k),(flushN t h k).2+(nth (nth (flushN t h k).1.Caches t).Lists k).length)
theorem jX{t:Nat}{h:ab}(c:bp h [])(e:t<h.Caches.length):∀{k:Nat},k<=4->bp (flushN t h k).1 []/\(flushN t h k).1.Caches.length=h.Caches.length/\(flushN t h k).1.Kernel.Calls=h.Kernel.Calls/\(flushN t h k).1.Objs=h.Objs/\(flushN t h k).1.Mail=h.Mail/\(flushN t h k).1.Job=h.Job/\(flushN t h k).2<=8*k
 | 0,_=>⟨c,rfl,rfl,rfl,rfl,rfl,R0 _⟩
 | k+1,y=>by
  obtain⟨d,f,g,i,j,l,A⟩:=jX c e (k:=k) ω;have a:t<(flushN t h k).1.Caches.length:=ω
  obtain⟨B,n⟩:=ep (d.cach _ (am a));have b:k<(nth (flushN t h k).1.Caches t).Lists.length:=ω
  have o:=d.spilt a b;have C:=n _ (am b);obtain⟨p,q,r,u,w,-⟩:=kC (nth (nth (flushN t h k).1.Caches t).Lists k) (Ab.spilt (flushN t h k).1 t k);refine⟨bp.freeAs o,?_,r.trans g,q.trans i,u.trans j,w.trans l,?_⟩
  ·show(Ab.freeAs _ _).Caches.length=_
   rw[p];simp only[Ab.spilt,C1];exact f
  ·simp only[flushN];omega
theorem Bx{h:ab}{t k:Nat}(d:bp h [])(e:t<h.Caches.length)(j:k<4):t<(flushN t h k).1.Caches.length/\bm (nth (flushN t h k).1.Caches t)=true/\k<(nth (flushN t h k).1.Caches t).Lists.length/\(nth (nth (flushN t h k).1.Caches t).Lists k).length<=8/\(flushN t h k).2<=8*k:=by
 obtain⟨f,l,-,-,-,-,g⟩:=jX d e (k:=k) ω;have a:t<(flushN t h k).1.Caches.length:=ω
 have c:=f.cach _ (am a);obtain⟨n,i⟩:=ep c;have b:k<(nth (flushN t h k).1.Caches t).Lists.length:=ω
 exact⟨a,c,b,i _ (am b),g⟩
theorem JJ{h:ab}{t k j:Nat}(a:bp h [])(b:t<h.Caches.length)(d:k<4)(e:j<(nth (nth (flushN t h k).1.Caches t).Lists k).length):bp (freeAs (spilt (flushN t h k).1 t k) ((nth (nth (flushN t h k).1.Caches t).Lists k).take j)) (nth (nth (nth (flushN t h k).1.Caches t).Lists k) j::(nth (nth (flushN t h k).1.Caches t).Lists k).drop (j+1)):=by
 obtain⟨f,g⟩:=Bx a b d;have c:=((jX a b (k:=k) ω).1).spilt f g.2.1;rw[List.append_nil]at c;refine bp.freeAs ?_;rw[<-iT e,List.take_append_drop];exact c
theorem xp(h:ab)(t:Nat)(i:bp h [])(l:t<h.Caches.length):aQ Tryz.prog 362 false [.ptr (bu h),.val none [I (t:Nat)]] [.ptr (bu (flushN t h 4).1),.val none [I (t:Nat)]] .one [I ((flushN t h 4).2:Nat)]:=by
 refine fM 48 [(364,[2,0])] [(6,6,[26,27,28,29,30,31])] [(0,0),(0,0)] Tryz.func362 rfl (λu q=>?_)
 repeat'(first|refine gO ?_|fail)
 (conv=>whnf)
 refine CD (ι:=Nat) (λk=>[(0,.hold .box (bu (flushN t h k).1)),(1,.hold .one [I ((t:Nat):Int)]),(5,.hold .one [I (((flushN t h k).2:Nat):Int)]),(6,.hold .one [I ((k:Nat):Int)])]) (λk=>k<=4) (λk=>4 - k) (0) ?_ (R0 _) λk D=>?_
 ·repeat'(first|exact trivial|rfl |exact kX a|exact dq _|refine CI ?_ ?_|(exact xL (by first|omega|(simp only;omega)|(simp;omega))))
 by_cases n:k<4
 ·obtain⟨o,p,E,F,G⟩:=Bx i l n
  have r:=uo (nth (flushN t h k).1.Caches t) k p ω;have c:=λj=>JJ i l n (j:=j)
  have e:=ah o;have w:(flushN t h (k+1)).1=freeAs (spilt (flushN t h k).1 t k) (nth (nth (flushN t h k).1.Caches t).Lists k):=rfl;have y:(flushN t h (k+1)).2=(flushN t h k).2+(nth (nth (flushN t h k).1.Caches t).Lists k).length:=rfl;have a:C.s d7.own ((spilt (flushN t h k).1 t k).Caches.map (ay.enc .own))=C.s d7.own (((flushN t h k).1.Caches.map (ay.enc .own)).set t (ay.enc .own (Hz (nth (flushN t h k).1.Caches t) k))):=by simp[spilt,W4]
  repeat'(first|refine gD ?_|(conv=>whnf);first|refine CA (aa e) ?_|refine CG rfl (aa e) rfl ?_|refine CF (r) ⟨⟨rfl,ay.enc_fz _⟩,⟨rfl,rfl⟩,⟨rfl,rfl⟩,trivial⟩ ?_|refine C9 ?_|refine CM rfl rfl (aa e) rfl (X0 rfl) rfl ?_)
  generalize (flushN t h k).1=d at *;generalize (flushN t h k).2=m at *
  (conv=>whnf)
  refine CD (ι:=Nat) (λj=>[(0,.hold .box (bu (freeAs (spilt d t k) ((nth (nth d.Caches t).Lists k).take j)))),(1,.hold .one [I ((t:Nat):Int)]),(5,.hold .one [I (((m+j):Nat):Int)]),(6,.hold .one [I ((k:Nat):Int)]),(8,.hold .one (aD .own (nth (nth d.Caches t).Lists k))),(9,.hold .one [I ((j:Nat):Int)])]) (λj=>j<=(nth (nth d.Caches t).Lists k).length) (λj=>(nth (nth d.Caches t).Lists k).length - j) (0) ?_ (R0 _) λj H=>?_
  ·repeat'(first|exact trivial|rfl |exact kX a|exact dq _|refine CI ?_ ?_|(exact xL (by first|omega|(simp only;omega)|(simp;omega))))
  by_cases g:j<(nth (nth d.Caches t).Lists k).length
  ·have b:=ah g
   have B:=mr _ _ _ (c j g)
   repeat'(first|refine gD ?_|(conv=>whnf);first|refine CA (aa b) ?_|refine CG rfl (aa b) rfl ?_|refine CH (B) (.inl rfl) ?_)
   ((conv=>whnf);refine CB (j+1) ω ω ?_)
   rw[sU _ _ _ g];exact wC
  ·obtain rfl:j=(nth (nth d.Caches t).Lists k).length:=ω
   rw[v4]
   repeat'(first|refine gD ?_|fail)
   ((conv=>whnf);refine CB (k+1) ω ω ?_)
   rw[w,y];exact wC
 ·obtain rfl:k=4:=ω
  repeat'(first|refine gD ?_|fail)
  refine CE rfl rfl ?_;exact wC
def Fy(s:Int):Int:=(1103515245*s+12345) % 1073741824
theorem EH(s:Int):0<=Fy s/\Fy s<=1073741823:=by unfold Fy;omega
theorem xC(s:Int)(b:0<=s/\s<=1073741823):ao Tryz.prog 377 false [.val none [I s]] .one [I (Fy s)]:=by
 have a:=aG s 0 1073741823;rw[O0 b]at a;refine fO 10 [] Tryz.func377 rfl ?_
 repeat'(first|refine gO ?_|(conv=>whnf);first|refine C9 ?_|refine CR (z:=Fy s) (fo ω) ?_|refine C6 (a) ?_|refine CL (by decide) ?_)
 rfl
def Jb(s n:Int):Int:=Fy s / 1024 % n
theorem wz(s:Int){n:Int}(h:1<=n):0<=Jb s n/\Jb s n<n:=⟨Int.emod_nonneg _ ω,Int.emod_lt_of_pos _ ω⟩
theorem th(s n:Int)(b:0<=s/\s<=1073741823)(c:1<=n/\n<=1000):ao Tryz.prog 343 false [.val none [I s],.val none [I n]] (.tup [none,none]) [I (Jb s n),I (Fy s)]:=by
 have d:=aG s 0 1073741823;have e:=aG n 1 1000;rw[O0 b]at d;rw[O0 c]at e;have g:=EH s;have i:=wz s c.1;have a:(Fy s).tdiv 1024=Fy s / 1024:=Int.tdiv_eq_ediv_of_nonneg g.1;have h:((Fy s).tdiv 1024).tmod n=Jb s n:=by rw[a];exact fo ω
 refine fO 23 [] Tryz.func343 rfl ?_ (.inr ⟨trivial,trivial,trivial⟩)
 repeat'(first|refine gO ?_|(conv=>whnf);first|refine C9 ?_|refine C6 (d) ?_|refine C6 (e) ?_|refine C6 (xC s b) ?_|refine CL (by decide) ?_|refine CL ω ?_|refine CR h ?_|refine CJ (ef (by rw[a];omega) (by rw[a];omega)) ?_)
 rfl
def q7(n:Nat):List Int:=(List.range n).map λ(i:Nat)=>(i:Int)
theorem ER(n:Nat):q7 (n+1)=q7 n++[(n:Int)]:=by unfold q7;rw[List.range_succ,R4];rfl
theorem yA(n:Nat):(q7 n).length=n:=by simp[q7]
def vW(xs:List Int)(i k:Nat):List Int:=(xs.set i (nth xs k)).set k (nth xs i)
theorem GH(xs:List Int)(i k:Nat):(vW xs i k).length=xs.length:=by simp[vW]
def gv(n:Nat)(s:Int):Nat->List Int × Int
 | 0=>(q7 n,s)
 | j+1=>(vW (gv n s j).1 (n - 1 - j) (Jb (gv n s j).2 ((n - 1 - j:Nat)+1:Int)).toNat,Fy (gv n s j).2)
theorem ly(n:Nat){s:Int}(a:0<=s/\s<=1073741823):∀j,(gv n s j).1.length=n/\0<=(gv n s j).2/\(gv n s j).2<=1073741823
 | 0=>⟨yA n,a⟩
 | j+1=>⟨by simp only[gv,GH];exact(ly n a j).1,EH _⟩
def shuf(n:Nat)(s:Int):List Int × Int:=gv n s (n - 1)
theorem Kf(xs:List Int)(i k:Nat):(vW xs i k).map (rI .own)=((xs.map (rI .own)).set i (rI .own (nth xs k))).set k (rI .own (nth xs i)):=by simp[vW,W4]
theorem Hq{xs:List Int}{i k:Nat}(v:Int)(a:k<xs.length):((xs.map (rI .own)).set i (rI .own v))[k]? = some (rI .own (nth (xs.set i v) k)):=by
 rw[<-W4];exact aa (ah (by rw[C1];exact a))
theorem xG(n:Nat)(s:Int)(d:0<=s/\s<=1073741823)(w:n<=64):ao Tryz.prog 393 false [.val none [I s],.val none [I (n:Nat)]] (.tup [none,none]) (aD .own (shuf n s).1++[I (shuf n s).2]):=by
 have e:=aG s 0 1073741823;have g:=aG (n:Nat) 0 64;rw[O0 d]at e;rw[O0 ω]at g;refine fO 63 [] Tryz.func393 rfl ?_ (.inr (aY (bC _) ⟨trivial,trivial⟩))
 repeat'(first|refine gO ?_|(conv=>whnf);first|refine C9 ?_|refine C6 (e) ?_|refine C6 (g) ?_)
 (conv=>whnf)
 refine CD (ι:=Nat) (λk=>[(0,.hold .one [I (s)]),(1,.hold .one [I ((n:Nat):Int)]),(6,.hold .one (aD .own (q7 k))),(7,.hold .one [I ((k:Nat):Int)])]) (λk=>k<=n) (λk=>n - k) (0) ?_ (R0 _) λk y=>?_
 ·exact wB
 have h:=yA k;by_cases B:k<n
 ·repeat'(first|refine gD ?_|(conv=>whnf);first|refine C9 ?_|refine Ap.sm (aN λ_=>rfl) rfl (by simp;omega) (by decide) (hJ (rI .own) (q7 k) (k:Int)) ?_)
  ((conv=>whnf);refine CB (k+1) ω ω ?_)
  rw[ER];exact wB
 ·obtain rfl:k=n:=ω
  repeat'(first|refine gD ?_|(conv=>whnf);first|refine C9 ?_)
  (conv=>whnf)
  refine CD (ι:=Nat) (λj=>[(0,.hold .one [I ((gv k s j).2)]),(6,.hold .one (aD .own (gv k s j).1)),(8,.hold .one [I (((k:Int) - 1 - j))])]) (λj=>(j<=k - 1/\j<=k)) (λj=>k - j) (0) ?_ (⟨R0 _,R0 _⟩) λj C=>?_
  ·exact wB
  obtain⟨D,l,o⟩:=ly k d j;by_cases E:j<k - 1
  ·have q:(k:Int) - 1 - j=((k - 1 - j:Nat):Int):=ω
   have r:=wz (gv k s j).2 (n:=((k - 1 - j:Nat)+1:Int)) ω;have t:=th (gv k s j).2 ((k - 1 - j:Nat)+1:Int) ⟨l,o⟩ ω;have u:gv k s (j+1)=(vW (gv k s j).1 (k - 1 - j) (Jb (gv k s j).2 ((k - 1 - j:Nat)+1:Int)).toNat,Fy (gv k s j).2):=rfl;rw[q];generalize gv k s j=p at *;obtain⟨xs,z⟩:=p;simp only at *;generalize k - 1 - j=i at *;have a:=ah (xs:=xs) (i:=i) ω;have b:=ah (xs:=xs) (i:=(Jb z (i+1)).toNat) ω;have c:=Hq (xs:=xs) (i:=i) (k:=(Jb z (i+1)).toNat) (nth xs (Jb z (i+1)).toNat) ω
   repeat'(first|refine gD ?_|(conv=>whnf);first|refine C9 ?_|refine C6 (t) ?_|refine CK ω (aa b) ?_|refine CA (aa a) ?_|refine CG rfl (aa a) rfl ?_|refine CG rfl (aa b) rfl ?_|refine CM rfl rfl (aa a) rfl (X0 rfl) rfl ?_|refine CK ω c ?_|refine CM rfl rfl c rfl (X0 rfl) rfl ?_)
   ((conv=>whnf);refine CB (j+1) ω ω ?_)
   rw[u];simp only[aD,Kf];exact wB
  ·obtain rfl:j=k - 1:=ω
   repeat'(first|refine gD ?_|(conv=>whnf);first|refine C9 ?_)
   rfl
def Aq(b:Int):Nat->Nat
 | 0=>0
 | n+1=>Aq b n+(if aS b (n:Nat)=true then 1 else 0)
theorem Ay(b:Int):∀n,Aq b n<=n
 | 0=>Q2 _
 | n+1=>by have:=Ay b n;simp only[Aq];split<;>omega
theorem um(b:Int)(d:b<=9223372036854775807):ao Tryz.prog 112 false [.val none [I b]] .one [I (Aq b 16:Nat)]:=by
 refine fO 15 [] Tryz.func112 rfl ?_
 repeat'(first|refine gO ?_|fail)
 (conv=>whnf)
 refine CD (ι:=Nat) (λk=>[(0,.hold .one [I (b)]),(3,.hold .one [I ((Aq b k:Nat):Int)]),(4,.hold .one [I ((k:Nat):Int)])]) (λk=>k<=16) (λk=>16 - k) (0) ?_ (R0 _) λk g=>?_
 ·exact wB
 have h:=Ay b k;by_cases i:k<16
 ·have a:=gi b (k:Nat) d
  have c:Aq b (k+1)=Aq b k+(if aS b (k:Nat)=true then 1 else 0):=rfl;cases e:aS b (k:Nat)<;>rw[e]at a c
  all_goals
   repeat'(first|refine gD ?_|(conv=>whnf);first|refine C6 (a) ?_)
   ((conv=>whnf);refine CB (k+1) ω ω ?_)
   rw[c];exact wB
 ·obtain rfl:k=16:=ω
  repeat'(first|refine gD ?_|fail)
  rfl
def yN(h:ab)(s:au):Bool:=decide (0<Aq s.Bits 16)&&decide ((aO h s.Page).length=1)
def kB(h:ab):Nat->List au
 | 0=>[]
 | n+1=>if yN h (nth h.Spans n)=true then kB h n++[nth h.Spans n] else kB h n
def mO(h:ab):List au:=kB h h.Spans.length
theorem wD(h:ab):∀n,(kB h n).length<=n
 | 0=>Q2 _
 | n+1=>by have:=wD h n;simp only[kB];split<;>simp<;>omega
theorem oz(h:ab):∀{n:Nat},n<=h.Spans.length->∀s∈kB h n,s∈h.Spans
 | 0,_,s,a=>by cases a
 | n+1,b,s,a=>by
  simp only[kB]at a;split at a
  ·rcases O2.1 a with a|a
   ·exact oz h ω s a
   ·rw[Z0.1 a];exact am ω
  ·exact oz h ω s a
theorem w9(h:ab)(j:xl h)(q:h.Spans.length<=1000)(r:dQ h<=1000)(l:∀s∈h.Spans,s.Bits<=9223372036854775807):ao Tryz.prog 38 false [.val (some 24) (ab.enc .imm h)] .one (bX .own (mO h)):=by
 refine fO 42 [(5,16,[13,14,15,16,17,18,19,20,21,22,23,24,25,26,27,28])] Tryz.func38 rfl ?_ (.inr (E1 _))
 repeat'(first|refine gO ?_|fail)
 (conv=>whnf)
 refine CD (ι:=Nat) (λk=>[(1,.hold .box (ab.enc .imm h)),(3,.hold .one (bX .own (kB h k))),(4,.hold .one [I ((k:Nat):Int)])]) (λk=>k<=h.Spans.length) (λk=>h.Spans.length - k) (0) ?_ (R0 _) λk t=>?_
 ·exact wB
 have n:=wD h k;by_cases e:k<h.Spans.length
 ·have c:=ah e
  have d:=um (nth h.Spans k).Bits (l _ (am e));have b:=gC h (nth h.Spans k).Page j;have o:=g9 h (nth h.Spans k).Page;have p:=Ay (nth h.Spans k).Bits 16;have a:kB h (k+1)=if yN h (nth h.Spans k)=true then kB h k++[nth h.Spans k] else kB h k:=rfl
  by_cases g:0<Aq (nth h.Spans k).Bits 16
  ·by_cases i:(aO h (nth h.Spans k).Page).length=1
   ·rw[C8 (by unfold yN;simp[g,i])]at a
    repeat'(first|refine gA ?_|(conv=>whnf);first|refine CA (aa c) ?_|refine C6 (d) ?_|refine CF (b) ⟨⟨rfl,rfl⟩,⟨rfl,rfl⟩,trivial⟩ ?_|refine C6 (b) ?_|refine C9 ?_|refine Ap.sm (aN λ_=>rfl) rfl (by simp;omega) (by decide) (hJ (au.enc .own) (kB h k) (nth h.Spans k)) ?_)
    ((conv=>whnf);refine CB (k+1) ω ω ?_)
    rw[a];exact wB
   ·rw[C7 (by unfold yN;simp[i])]at a
    repeat'(first|refine gA ?_|(conv=>whnf);first|refine CA (aa c) ?_|refine C6 (d) ?_|refine C6 (b) ?_|refine C9 ?_)
    ((conv=>whnf);refine CB (k+1) ω ω ?_)
    rw[a];exact wB
  ·rw[C7 (by unfold yN;simp[g])]at a
   repeat'(first|refine gD ?_|(conv=>whnf);first|refine CA (aa c) ?_|refine C6 (d) ?_|refine C6 (b) ?_|refine C9 ?_)
   ((conv=>whnf);refine CB (k+1) ω ω ?_)
   rw[a];exact wB
 ·obtain rfl:k=h.Spans.length:=ω
  repeat'(first|refine gD ?_|fail)
  rfl
def yR(s:au)(c:Nat):Bool:=aS s.Bits (((c:Nat):Int) / csz s.Class)
def ux(s:au)(n:Nat):List Int:=((List.range n).filter (yR s)).map λ(i:Nat)=>(i:Int)
theorem Lu{s:au}{n:Nat}(h:yR s n=true):ux s (n+1)=ux s n++[(n:Int)]:=by
 unfold ux;rw[List.range_succ,List.filter_append,R4];simp[h]
theorem MT{s:au}{n:Nat}(h:yR s n=false):ux s (n+1)=ux s n:=by
 unfold ux;rw[List.range_succ,List.filter_append,R4];simp[h]
theorem qk(s:au)(n:Nat):(ux s n).length<=n:=by
 unfold ux;rw[W0];exact Z3 (List.length_filter_le _ _) (by simp)
theorem L1{s:au}(a:aX s=true){c:Nat}(d:c<16):0<=((c:Nat):Int) / csz s.Class/\((c:Nat):Int) / csz s.Class<=15:=by
 have f:=aE a;have b:csz s.Class=1\/csz s.Class=2\/csz s.Class=4\/csz s.Class=8:=bO ω;rcases b with e|e|e|e<;>rw[e]<;>omega
theorem nL(s:au)(a:aX s=true):ao Tryz.prog 394 false [.val (some 3) (au.enc .imm s)] .one (aD .own (ux s 16)):=by
 have b:=eM s;rw[a]at b;have g:=aE a;have n:=bO g.2.2;refine fO 27 [(5,7,[14,15,16,17,18,19,20])] Tryz.func394 rfl ?_ (.inr (bC _))
 repeat'(first|refine gO ?_|fail)
 (conv=>whnf)
 refine CD (ι:=Nat) (λi=>[(1,.hold .box (au.enc .imm s)),(3,.hold .one (aD .own (ux s i))),(4,.hold .one [I ((i:Nat):Int)])]) (λi=>i<=16) (λi=>16 - i) (0) ?_ (R0 _) λi o=>?_
 ·exact wB
 have h:=qk s i;by_cases j:i<16
 ·have k:=L1 a j
  have d:IntKind.i64.wrap (((i:Nat):Int).tdiv (csz s.Class))=((i:Nat):Int) / csz s.Class:=by rw[jN ω];exact ef ω ω
  have c:=gi s.Bits (((i:Nat):Int) / csz s.Class) (dL a).2;cases e:yR s i
  ·rw[show aS s.Bits (((i:Nat):Int) / csz s.Class)=false from e]at c
   repeat'(first|refine gD ?_|(conv=>whnf);first|refine C6 (b) ?_|refine C6 (cX _) ?_|refine CL ω ?_|refine CJ d ?_|refine C6 (c) ?_)
   ((conv=>whnf);refine CB (i+1) ω ω ?_)
   rw[MT e];exact wB
  ·rw[show aS s.Bits (((i:Nat):Int) / csz s.Class)=true from e]at c
   repeat'(first|refine gD ?_|(conv=>whnf);first|refine C6 (b) ?_|refine C6 (cX _) ?_|refine CL ω ?_|refine CJ d ?_|refine C6 (c) ?_|refine CN bW (λr l=>by rw[Z0.1 l];rfl) (by simp[aU,d4]) (by simp;omega) (by simp only[W0];exact up (by simp;omega) (by decide)) rfl ?_)
   ((conv=>whnf);refine CB (i+1) ω ω ?_)
   rw[Lu e]
   (repeat'(first|exact trivial|rfl|exact CI rfl (CI (T0 (C.s d7.own) (by simp[rI])) trivial)|refine CI ?_ ?_))
 ·obtain rfl:i=16:=ω
  repeat'(first|refine gD ?_|(conv=>whnf);first|refine C6 (b) ?_)
  rfl
structure fE where
 A:Int
 B:Int
deriving DecidableEq,Inhabited
def fE.enc(_:d7)(x:fE):List C:=[I x.A,I x.B]
def iN(o:d7)(x:List fE):List C:=[.s o (x.map (fE.enc o))]
theorem EK(x:List fE):gE (iN .own x):=⟨⟨.inl λh=>(by cases h),bf _ _ λ_ _=>⟨trivial,trivial,trivial⟩⟩,trivial⟩
def Mg(i:Int)(p:fE):Bool:=decide (p.A=i) || decide (p.B=i)
def dH(a b:au):cz:=if(ux a 16).length<(ux b 16).length then⟨b.Page,a.Page,ux a 16⟩ else⟨a.Page,b.Page,ux b 16⟩
theorem xh(a b:au)(g:meshable a b=true)(h:aX a=true)(i:aX b=true):ao Tryz.prog 366 false [.val (some 3) (au.enc .imm a),.val (some 3) (au.enc .imm b)] (.tup [some 3,none]) (cz.enc .own (dH a b)++[B true]):=by
 have c:=lc a b;rw[g]at c;have d:=nL a h;have e:=nL b i;have j:=qk a 16;have k:=qk b 16;unfold dH;split
 ·refine fO 27 [(3,6,[11,12,13,14,15,16]),(5,6,[20,21,22,23,24,25])] Tryz.func366 rfl ?_ (.inr (aY (cz.enc_fr _) ⟨trivial,trivial⟩))
  repeat'(first|refine gD ?_|(conv=>whnf);first|refine C6 (c) ?_|refine C6 (d) ?_|refine C6 (e) ?_|refine C9 ?_)
  rfl
 ·refine fO 27 [(3,6,[11,12,13,14,15,16]),(5,6,[20,21,22,23,24,25])] Tryz.func366 rfl ?_ (.inr (aY (cz.enc_fr _) ⟨trivial,trivial⟩))
  repeat'(first|refine gD ?_|(conv=>whnf);first|refine C6 (c) ?_|refine C6 (d) ?_|refine C6 (e) ?_|refine C9 ?_)
  rfl
def vi(p:cz):cN:=⟨p,0,0⟩
theorem AN(p:cz)(c:eD p=true)(a:cz.sml p):ao Tryz.prog 367 false [.val (some 3) (cz.enc .imm p)] (.tup [some 5,none]) (cN.enc .own (vi p)++[B true]):=by
 have b:=tt p a;rw[c]at b;have d:=rn (vi p) a;refine fO 11 [] Tryz.func367 rfl ?_ (.inr (aY (cN.enc_fr _) ⟨trivial,trivial⟩))
 repeat'(first|refine gO ?_|(conv=>whnf);first|refine C6 (b) ?_|refine C6 (d) ?_)
 rfl
theorem si(n:Nat){s:Int}(c:0<=s/\s<=1073741823):∀{j:Nat},j<=n - 1->∀x∈(gv n s j).1,0<=x/\x<n
 | 0,_,x,a=>by
  simp only[gv,q7,T3,List.mem_range]at a;obtain⟨i,d,rfl⟩:=a;omega
 | j+1,e,x,a=>by
  have f:=(ly n c j).1;have b:=si n c (j:=j) ω;have g:=wz (gv n s j).2 (n:=((n - 1 - j:Nat)+1:Int)) ω;simp only[gv,vW]at a;rcases Z4 a with a|rfl
  ·rcases Z4 a with a|rfl
   ·exact b x a
   ·exact b _ (am ω)
  ·exact b _ (am ω)
def tkn(out:List fE)(a:Int):Bool:=out.any (Mg a)
def stp(a:List au)(p:List Int)(t i:Nat)(out:List fE):List fE:=
 if tkn out (nth p i)=false/\tkn out (nth p (p.length / 2+(i+t) % (p.length - p.length / 2)))=false/\meshable (nth a (nth p i).toNat) (nth a (nth p (p.length / 2+(i+t) % (p.length - p.length / 2))).toNat)=true then out++[⟨nth p i,nth p (p.length / 2+(i+t) % (p.length - p.length / 2))⟩] else out
def uk(a:List au)(p:List Int)(t:Nat)(out:List fE):Nat->List fE
 | 0=>out
 | i+1=>stp a p t i (uk a p t out i)
def pD(a:List au)(p:List Int):Nat->List fE
 | 0=>[]
 | t+1=>uk a p t (pD a p t) (p.length / 2)
theorem LF(a:List au)(p:List Int)(t i:Nat)(out:List fE):(stp a p t i out).length<=out.length+1:=by unfold stp;split<;>simp
theorem vq(a:List au)(p:List Int)(t:Nat)(out:List fE):∀i,(uk a p t out i).length<=out.length+i
 | 0=>Q2 _
 | i+1=>by have b:=vq a p t out i;have c:=LF a p t i (uk a p t out i);simp only[uk];omega
theorem BI(a:List au)(p:List Int):∀t,(pD a p t).length<=t*(p.length / 2)
 | 0=>R0 _
 | t+1=>by have b:=BI a p t;have c:=vq a p t (pD a p t) (p.length / 2);simp only[pD];rw[Nat.add_mul];omega
def mE(a:List au)(s:Int):List fE:=pD a (shuf a.length s).1 3
def mW(n:Nat)(out:List fE):List Bool:=(List.range n).map λ(i:Nat)=>tkn out (i:Nat)
theorem FK{n:Nat}{out:List fE}{a:Int}(h:0<=a/\a<n):(mW n out)[a.toNat]? = some (tkn out a):=by
 unfold mW;rw[R2,z5 ω];show some (tkn out ((a.toNat:Nat):Int))=_;rw[Int.toNat_of_nonneg h.1]
theorem JG{n:Nat}{out:List fE}{a b:Int}(f:0<=a/\a<n)(g:0<=b/\b<n):mW n (out++[⟨a,b⟩])=((mW n out).set a.toNat true).set b.toNat true:=by
 unfold mW;apply List.ext_getElem?;intro i;by_cases c:i<n
 ·rw[R2,z5 c]
  by_cases d:b.toNat=i
  ·subst d
   rw[Z2 (by simp;omega)];simp only[z4,tkn,List.any_append,List.any_cons,List.any_nil,Mg];rw[Int.toNat_of_nonneg g.1];simp
  ·rw[List.getElem?_set_ne d]
   by_cases e:a.toNat=i
   ·subst e
    rw[Z2 (by simp;omega)];simp only[z4,tkn,List.any_append,List.any_cons,List.any_nil,Mg];rw[Int.toNat_of_nonneg f.1];simp
   ·rw[List.getElem?_set_ne e,R2,z5 c]
    simp only[z4,tkn,List.any_append,List.any_cons,List.any_nil,Mg];rw[Q0 ω,Q0 ω];simp
 ·rw[W1 (by simp;omega),W1 (by simp;omega)]
theorem LZ(n:Nat):(mW n []).map (rB .own)=List.replicate n [B false]:=by
 unfold mW;rw[List.map_map];apply List.ext_getElem?;intro i;rw[R2];by_cases a:i<n
 ·rw[z5 a,List.getElem?_replicate];simp[a];rfl
 ·rw[W1 (by simp;omega),List.getElem?_replicate];simp[a]
theorem GB{xs:List Bool}{i k:Nat}(v:Bool)(a:k<xs.length):((xs.map (rB .own)).set i (rB .own v))[k]? = some (rB .own (nth (xs.set i v) k)):=by
 rw[<-W4];exact aa (ah (by rw[C1];exact a))
theorem uj(c:List au)(s:Int)(u:0<=s/\s<=1073741823)(V:c.length<=16):ao Tryz.prog 365 false [.val none (bX .imm c),.val none [I s],.val none [I 3]] (.tup [none,none]) (iN .own (mE c s)++[I (shuf c.length s).2]):=by
 have J:=aG s 0 1073741823;rw[O0 u]at J;have K:=aG 3 0 16;rw[O0 ω]at K;have Q:=xG c.length s u ω;have D:=(ly c.length u (c.length - 1)).1;have e:=si c.length u (Q2 _);unfold mE;change (shuf c.length s).1.length=_ at D;change ∀x∈(shuf c.length s).1,_ at e
 have E:gE (iN .own (pD c (shuf c.length s).1 3)++[I (shuf c.length s).2]):=aY (EK _) ⟨trivial,trivial⟩;generalize shuf c.length s=q at *;obtain⟨p,z⟩:=q;simp only at *;have F:((p.length:Nat):Int).tdiv 2=((p.length / 2:Nat):Int):=by rw[Int.tdiv_eq_ediv_of_nonneg ω];omega
 have g:C.s d7.own ((mW c.length []).map (rB .own))=C.s d7.own (List.replicate c.length [B false]):=by rw[LZ]
 have h:∀i:Nat,i<p.length->0<=nth p i/\nth p i<c.length:=λi R=>e _ (am R)
 refine fO 110 [(15,21,[73,74,75,76,77,78,79,80,81,82,83,84,85,86,87,88,89,90,91,92,93])] Tryz.func365 rfl ?_ (.inr E)
 repeat'(first|refine gD ?_|(conv=>whnf);first|with_reducible refine CJ ((T0 _ F).trans (ef ω ω)) ?_|refine C6 (J) ?_|refine C6 (K) ?_|refine C6 (Q) ?_|refine CL (by decide) ?_|refine Mk.mk c.length rfl rfl ω (up ω (by decide)) rfl ?_)
 (conv=>whnf)
 refine CD (ι:=Nat) (λt=>[(0,.hold .one (bX .imm c)),(2,.hold .one [I (3)]),(8,.hold .one (iN .own (pD c p t))),(9,.hold .one (aD .own p)),(10,.hold .one [I (z)]),(11,.hold .one [I (((p.length / 2):Nat):Int)]),(12,.hold .one (nw .own (mW c.length (pD c p t)))),(13,.hold .one [I ((t:Nat):Int)])]) (λt=>t<=3) (λt=>3 - t) (0) ?_ (R0 _) λt S=>?_
 ·repeat'(first|exact trivial|rfl |exact kX g|refine CI ?_ ?_|(exact xL (by first|omega|(simp only;omega)|(simp;omega))))
 have W:=BI c p t;have ol2:t*(p.length / 2)<=3*8:=Nat.mul_le_mul S ω;by_cases X:t<3
 ·repeat'(first|refine gD ?_|fail)
  (conv=>whnf)
  refine CD (ι:=Nat) (λj=>[(0,.hold .one (bX .imm c)),(2,.hold .one [I (3)]),(8,.hold .one (iN .own (uk c p t (pD c p t) j))),(9,.hold .one (aD .own p)),(10,.hold .one [I (z)]),(11,.hold .one [I (((p.length / 2):Nat):Int)]),(12,.hold .one (nw .own (mW c.length (uk c p t (pD c p t) j)))),(13,.hold .one [I ((t:Nat):Int)]),(14,.hold .one [I ((j:Nat):Int)])]) (λj=>j<=p.length / 2) (λj=>p.length / 2 - j) (0) ?_ (R0 _) λj Y=>?_
  ·repeat'(first|exact trivial|rfl |exact kX g|refine CI ?_ ?_|(exact xL (by first|omega|(simp only;omega)|(simp;omega))))
  have Z:=vq c p t (pD c p t) j;by_cases lj:j<p.length / 2
  ·have L:(j+t) % (p.length - p.length / 2)<p.length - p.length / 2:=Nat.mod_lt _ ω
   have G:((j:Int)+t).tmod ((p.length:Int) - (p.length / 2:Nat))=(((j+t) % (p.length - p.length / 2):Nat):Int):=by
    rw[fo ω,Int.natCast_emod];congr 1;omega
   have d:uk c p t (pD c p t) (j+1)=stp c p t j (uk c p t (pD c p t) j):=rfl;unfold stp at d;generalize uk c p t (pD c p t) j=out at *;have l:p.length / 2+(j+t) % (p.length - p.length / 2)<p.length:=ω
   generalize hk:(j+t) % (p.length - p.length / 2)=k at *;have n:=ah (xs:=p) (i:=j) ω;have o:=ah (xs:=p) (i:=p.length / 2+k) l;have w:=h j ω;have r:=h _ l;generalize nth p j=a at *;generalize nth p (p.length / 2+k)=b at *;have y:=FK (out:=out) w;have H:=FK (out:=out) r;have T:=ah (xs:=c) (i:=a.toNat) ω;have U:=ah (xs:=c) (i:=b.toNat) ω;have M:=lc (nth c a.toNat) (nth c b.toNat);have ub2:=GB (xs:=mW c.length out) (i:=a.toNat) (k:=b.toNat) true (by simp[mW];omega);cases N:tkn out a<;>cases O:tkn out b<;>cases P:meshable (nth c a.toNat) (nth c b.toNat)
   all_goals
    rw[N]at y;rw[O]at H;rw[P]at M;rw[N,O,P]at d;simp only[and_true,true_and,if_true,Bool.false_eq_true,Bool.true_eq_false,and_false,false_and,if_false]at d
    repeat'(first|refine gD ?_|(conv=>whnf);first|refine CR G ?_|refine CL ω ?_|refine CA (aa n) ?_|refine CK ω (aa o) ?_|refine CK w.1 (aa y) ?_|refine CK r.1 (aa H) ?_|refine CK w.1 (aa T) ?_|refine CK r.1 (aa U) ?_|refine CG rfl (aa n) rfl ?_|refine CG rfl (aa o) rfl ?_|refine CG rfl (aa y) rfl ?_|refine CG rfl (aa H) rfl ?_|refine C6 (M) ?_|refine C9 ?_|refine CM rfl rfl (aa y) rfl (X0 rfl) rfl ?_|refine CK r.1 ub2 ?_|refine CM rfl rfl ub2 rfl (X0 rfl) rfl ?_|refine Ap.sm (aN λ_=>rfl) rfl (by simp;omega) (by decide) (hJ (fE.enc .own) out ⟨a,b⟩) ?_)
    ((conv=>whnf);refine CB (j+1) ω ω ?_)
    rw[d]
    first|(rw[JG w r];simp only[nw,W4])|skip
    exact wB
  ·obtain rfl:j=p.length / 2:=ω
   repeat'(first|refine gD ?_|fail)
   ((conv=>whnf);refine CB (t+1) ω ω ?_;(exact wB))
 ·obtain rfl:t=3:=ω
  repeat'(first|refine gD ?_|fail)
  rfl
theorem Fe(x:List fE):dy (iN .own x)=iN .imm x:=by simp[dy,iN,fE.enc,<-bR,T4]
theorem ao.fzR{P:Program}{f:Nat}{sh:Bool}{A:List RA}{k:Kd}{rcs:List C}(h:ao P f sh A k rcs):ao P f sh A k (dy rcs):=by
 obtain⟨c,d⟩:=h;refine⟨c,λw S g i j=>(d w S g i j).mono λe w1 l=>?_⟩;obtain⟨v,n,p,X,q,r,t,B,u,y⟩:=l;refine⟨v,n,p,NO,λb o=>q b o\/X b o,λ_ _ h=>h.elim,λb o a=>?_,λ_ _ h=>h.elim,by rw[bR,W0];exact u,y.freeze⟩;rcases a with a|a
 ·exact t b o a
 ·exact .inr (r b o a)
structure L8(ls:List au)(q:fE):Prop where
 a:0<=q.A/\q.A<ls.length
 b:0<=q.B/\q.B<ls.length
 m:meshable (nth ls q.A.toNat) (nth ls q.B.toNat)=true
theorem Gd{b:List au}{p:List Int}(c:∀x∈p,0<=x/\x<b.length)(t:Nat){out:List fE}(d:∀q∈out,L8 b q):∀{i:Nat},i<=p.length / 2->∀q∈uk b p t out i,L8 b q
 | 0,_=>d
 | i+1,h=>λq a=>by
  have e:=Gd c t d (i:=i) ω;simp only[uk,stp]at a;split at a
  ·rename_i g
   rcases O2.1 a with a|a
   ·exact e q a
   ·obtain rfl:=Z0.1 a
    have f:(i+t) % (p.length - p.length / 2)<p.length - p.length / 2:=Nat.mod_lt _ ω;exact⟨c _ (am ω),c _ (am ω),g.2.2⟩
  ·exact e q a
theorem FF{a:List au}{p:List Int}(b:∀x∈p,0<=x/\x<a.length):∀t,∀q∈pD a p t,L8 a q
 | 0=>λq c=>by cases c
 | t+1=>Gd b t (FF b t) (Q2 _)
theorem pZ(a:List au){s:Int}(b:0<=s/\s<=1073741823):∀q∈mE a s,L8 a q:=FF (si a.length b (Q2 _)) 3
theorem M7(s:au)(n:Nat):(ux s n).Pairwise (· < ·):=by
 unfold ux;rw[List.pairwise_map];exact(List.pairwise_lt_range.sublist List.filter_sublist).imp λh=>ω
theorem Ng{s:au}{n:Nat} : ∀z∈ux s n,0<=z/\z<n:=λz a=>by
 unfold ux at a;simp only[T3,U3,List.mem_range]at a;obtain⟨c,⟨b,-⟩,rfl⟩:=a;omega
theorem vd(s:au):cE (ux s 16).length (mH (ux s 16))=true:=by
 refine cn.2 λj a=>?_
 have c:=Ng _ (am a);unfold mH;refine O0 ⟨ω,ω,?_⟩;by_cases e:j=0
 ·exact .inl e
 ·refine .inr ?_
  have b:=List.pairwise_iff_getElem.1 (M7 s 16) (j - 1) j ω a ω;rw[show nth (ux s 16) (j - 1)=(ux s 16)[j - 1] from bo (U1 ω),show nth (ux s 16) j=(ux s 16)[j] from bo (U1 a)];exact b
theorem rL{a b:au}(c:meshable a b=true):eD (dH a b)=true/\aX a=true/\aX b=true:=by
 unfold meshable at c;simp only[I0,C0]at c;have d:=aE c.1.1;have e:=aE c.1.2;refine⟨?_,c.1⟩;unfold dH eD;split
 ·simp only[I0,C0];exact⟨vd a,ω⟩
 ·simp only[I0,C0];exact⟨vd b,ω⟩
theorem DQ(a b:au):cz.sml (dH a b):=by
 have c:=qk a 16;have d:=qk b 16;unfold dH cz.sml qx;split<;>simp only<;>omega
def bM(h:ab):List au:=(mO h).take 16
def started(h:ab):ab × Bool:=match mE (bM h) h.Seed with
 | []=>({h with Seed:=(shuf (bM h).length h.Seed).2},false)
 | q::_=>({h with Seed:=(shuf (bM h).length h.Seed).2,Meshing:=true,Job:=vi (dH (nth (bM h) q.A.toNat) (nth (bM h) q.B.toNat))},true)
theorem Kh{h:ab}{E:List Int}(a:bp h E):h.Spans.length<=32/\dQ h<=32/\xl h/\∀s∈h.Spans,s.Bits<=9223372036854775807:=by
 have b:=a.lens;refine⟨b.spans,b.ents,?_,λs c=>by have:=er (a.L.sok s c);omega⟩;have:=(bF a.ker).1.2;exact this
theorem DZ(h:ab):(bM h).length<=16:=by unfold bM;rw[I1];omega
theorem MO(x:List fE)(z:Int):dy (iN .own x++[I z])=iN .imm x++[I z]:=by
 have h:=Fe x;rw[bR]at h |-;rw[R4,h];simp[fz]
theorem Nw(h:ab):(bM h).map (au.enc .imm)=((mO h).map (au.enc .imm)).take 16:=Q3
theorem DL(p:cz)(b:eD p=true)(c:cz.sml p):ao Tryz.prog 367 false [.val (some 3) (cz.enc .imm p)] (.tup [some 5,none]) (ve (vi p)++[B true]):=by
 have h:=(AN p b c).fzR;have e:dy (cN.enc .own (vi p)++[B true])=ve (vi p)++[B true]:=by
  have a:=cN.enc_fz (vi p);rw[bR]at a |-;rw[R4,a];simp[fz,cN.enc,ve]
 rwa [e]at h
theorem x9(h:ab)(w:bp h []):aQ Tryz.prog 307 false [.ptr (bu h)] [.ptr (bu (started h).1)] .one [B (started h).2]:=by
 obtain⟨w1,Q,H,J⟩:=Kh w;have a:=w.nums;unfold cb at a;rw[C0]at a;have e:=(w9 h H ω ω J).fzR;rw[qf]at e;have o:=DZ h;have b:=(uj (bM h) h.Seed ⟨a.1,a.2.1⟩ o).fzR;rw[MO]at b;have g:=pZ (bM h) ⟨a.1,a.2.1⟩;have K:=wD h h.Spans.length;have y:(mO h).length<=32:=by unfold mO;omega
 have j:=Nw h;unfold started;cases C:mE (bM h) h.Seed with
 | nil=>
  rw[C]at b;by_cases L:16<(mO h).length
  ·refine fM 62 [] [(8,275,[34,35,36,37,38,39,40,41,42,43,44,45,46,47,48,33,49,50,6,0,1,2,3,4,5,6,7,8,9,10,11,12,13,14,15,16,17,18,19,1017,20])] [(0,0)] Tryz.func307 rfl (λu q=>?_)
   repeat'(first|refine gD ?_|(conv=>whnf);first|refine C9 ?_|refine CF (e) ⟨⟨rfl,bx h⟩,trivial⟩ ?_|refine C6 (b) ?_|refine CS 16 rfl (by rw[W0];omega) (aN λ_=>rfl) j ?_)
   refine CE rfl rfl ?_;exact wC
  ·have k:bM h=mO h:=by unfold bM;exact O5 ω
   rw[k]at b;refine fM 62 [] [(8,275,[34,35,36,37,38,39,40,41,42,43,44,45,46,47,48,33,49,50,6,0,1,2,3,4,5,6,7,8,9,10,11,12,13,14,15,16,17,18,19,1017,20])] [(0,0)] Tryz.func307 rfl (λu q=>?_);rw[k]
   repeat'(first|refine gD ?_|(conv=>whnf);first|refine C9 ?_|refine CF (e) ⟨⟨rfl,bx h⟩,trivial⟩ ?_|refine C6 (b) ?_)
   refine CE rfl rfl ?_;exact wC
 | cons q M=>
  rw[C]at b g;obtain⟨E,F,G⟩:=g q (O1 ..);obtain⟨N,O,P⟩:=rL G;have p:=xh _ _ G O P;have t:=DL _ N (DQ _ _);have c:=ah (xs:=bM h) (i:=q.A.toNat) ω;have d:=ah (xs:=bM h) (i:=q.B.toNat) ω;have l:(q::M)[0]? = some q:=rfl;by_cases L:16<(mO h).length
  ·refine fM 62 [] [(8,275,[34,35,36,37,38,39,40,41,42,43,44,45,46,47,48,33,49,50,6,0,1,2,3,4,5,6,7,8,9,10,11,12,13,14,15,16,17,18,19,1017,20])] [(0,0)] Tryz.func307 rfl (λu r=>?_)
   repeat'(first|refine gD ?_|(conv=>whnf);first|with_reducible refine Bf.D (λn=>absurd n (by simp)) (λn=>?_)|refine C9 ?_|refine CF (e) ⟨⟨rfl,bx h⟩,trivial⟩ ?_|refine C6 (b) ?_|refine CS 16 rfl (by rw[W0];omega) (aN λ_=>rfl) j ?_|refine CK (by decide) (aa l) ?_|refine CK E.1 (aa c) ?_|refine CK F.1 (aa d) ?_|refine C6 (p) ?_|refine CF (t) ⟨⟨rfl,cz.enc_fz _⟩,trivial⟩ ?_|refine C9 ?_)
   refine CE rfl rfl ?_;exact wC
  ·have k:bM h=mO h:=by unfold bM;exact O5 ω
   rw[k]at b p t c d;refine fM 62 [] [(8,275,[34,35,36,37,38,39,40,41,42,43,44,45,46,47,48,33,49,50,6,0,1,2,3,4,5,6,7,8,9,10,11,12,13,14,15,16,17,18,19,1017,20])] [(0,0)] Tryz.func307 rfl (λu r=>?_);rw[k]
   repeat'(first|refine gD ?_|(conv=>whnf);first|with_reducible refine Bf.D (λn=>absurd n (by simp)) (λn=>?_)|refine C9 ?_|refine CF (e) ⟨⟨rfl,bx h⟩,trivial⟩ ?_|refine C6 (b) ?_|refine CK (by decide) (aa l) ?_|refine CK E.1 (aa c) ?_|refine CK F.1 (aa d) ?_|refine C6 (p) ?_|refine CF (t) ⟨⟨rfl,cz.enc_fz _⟩,trivial⟩ ?_|refine C9 ?_)
   refine CE rfl rfl ?_;exact wC
def dv(k:af):af:={k with Calls:=k.Calls+1}
def refd(k:af):Bool:=decide (k.Calls∈k.Refuse)
def w5(k:af)(p:Int)(m:Int):af:={k with Machine:=⟨k.Machine.Frames,⟨k.Machine.Table.Entries.set p.toNat {nth k.Machine.Table.Entries p.toNat with Mode:=m}⟩⟩}
def jW(k:af)(p m:Int):af × Bool:=if refd k=true then(dv k,false) else(w5 (dv k) p m,true)
theorem H7(k:af)(p m:Int):af.enc .own (w5 k p m)=(af.enc .own k).set 2 (.s .own ((k.Machine.Table.Entries.map (bg.enc .own)).set p.toNat (bg.enc .own {nth k.Machine.Table.Entries p.toNat with Mode:=m}))):=by
 simp[af.enc,w5,W4]
theorem row16{k:af}(a:aB k=true){f:Nat}(b:f<k.Machine.Frames.Cells.length):(nth k.Machine.Frames.Cells f).length=16:=by
 have:=(bh.1 (aF.1 a).2.1).2.2.2 f b;unfold gP at this;simp only[I0,C0]at this;omega
def setCell(k:af)(f:Nat)(c v:Int):af:={k with Machine:=⟨⟨k.Machine.Frames.Cells.set f ((nth k.Machine.Frames.Cells f).set c.toNat v),k.Machine.Frames.Used⟩,k.Machine.Table⟩}
theorem B9(k:af)(f:Nat)(c v:Int):af.enc .own (setCell k f c v)=(af.enc .own k).set 0 (.s .own ((k.Machine.Frames.Cells.map (aD .own)).set f [.s .own (((nth k.Machine.Frames.Cells f).map (rI .own)).set c.toNat [I v])])):=by
 simp[af.enc,setCell,W4,aD,rI]
def mM(k:af)(p:Int):Nat:=(ar k.Machine.Table p).Frame.toNat
def yt(k:af)(a b c:Int):af:=setCell k (mM k b) c (nth (nth k.Machine.Frames.Cells (mM k a)) c.toNat)
def MK(k:af)(a b c:Int):Nat->af
 | 0=>k
 | _+1=>yt k a b c
def vu(k:af)(p:Nat)(e:bg):af:={k with Machine:=⟨k.Machine.Frames,⟨k.Machine.Table.Entries.set p e⟩⟩}
theorem JQ(k:af)(p:Nat)(e:bg):af.enc .own (vu k p e)=(af.enc .own k).set 2 (.s .own ((k.Machine.Table.Entries.map (bg.enc .own)).set p (bg.enc .own e))):=by
 simp[af.enc,vu,W4]
theorem Kv{k:af}(p:Nat)(e:bg)(h:aH.sml k.Machine.Table):aH.sml (vu k p e).Machine.Table:=by
 refine⟨?_,λx _=>trivial⟩;show(k.Machine.Table.Entries.set p e).length<=_;rw[C1];exact h.1
def zq(k:af)(p o:Int):af × Bool:=if refd k=true then(dv k,false) else(ip (vu (dv k) p.toNat ⟨2,(nth k.Machine.Table.Entries o.toNat).Frame⟩) (nth k.Machine.Table.Entries p.toNat).Frame,true)
def lv(m:aT)(a v:Int):aT × Int:=
 if(ar m.Table (a / 16)).Mode=0 then(m,1) else if(ar m.Table (a / 16)).Mode=1 then(m,2) else
 (⟨⟨m.Frames.Cells.set (ar m.Table (a / 16)).Frame.toNat ((nth m.Frames.Cells (ar m.Table (a / 16)).Frame.toNat).set (a % 16).toNat v),m.Frames.Used⟩,m.Table⟩,0)
theorem Et(m:aT)(f:Nat)(c v:Int):aT.enc .own ⟨⟨m.Frames.Cells.set f ((nth m.Frames.Cells f).set c.toNat v),m.Frames.Used⟩,m.Table⟩ = (aT.enc .own m).set 0 (.s .own ((m.Frames.Cells.map (aD .own)).set f [.s .own (((nth m.Frames.Cells f).map (rI .own)).set c.toNat [I v])])):=by
 simp[aT.enc,W4,aD,rI]
def jmay(k:af)(j:cN):Bool:=(aB k&&decide (k.Calls≠100000))&&(jf j&&decide ((ar k.Machine.Table j.Plan.Keep).Mode≠0/\(ar k.Machine.Table j.Plan.Move).Mode≠0/\(ar k.Machine.Table j.Plan.Keep).Frame≠(ar k.Machine.Table j.Plan.Move).Frame))
def jstep(k:af)(j:cN):af × cN:=
 if j.Phase=0 then((jW k j.Plan.Move 1).1,{j with Phase:=if(jW k j.Plan.Move 1).2=true then 1 else 5})
 else if j.Phase=1 then(if j.Next=j.Plan.Cells.length then(k,{j with Phase:=2}) else(yt k j.Plan.Move j.Plan.Keep (nth j.Plan.Cells j.Next.toNat),{j with Next:=j.Next+1}))
 else if j.Phase=2 then((zq k j.Plan.Move j.Plan.Keep).1,{j with Phase:=if(zq k j.Plan.Move j.Plan.Keep).2=true then 4 else 3})
 else if j.Phase=3 then(if 0<j.Next then({k with Machine:=(lv k.Machine (j.Plan.Keep*16+nth j.Plan.Cells (j.Next - 1).toNat) 0).1},{j with Next:=j.Next - 1}) else((jW k j.Plan.Move 2).1,{j with Phase:=if(jW k j.Plan.Move 2).2=true then 5 else 3}))
 else(k,j)
theorem KD{k:af}{f:Int}(h1:∀j,j<k.Refuse.length->0<=nth k.Refuse j)(d:cw k.Machine.Frames=true)(g:fC k.Machine.Table k.Machine.Frames.Used.length=true)(h:∀j:Nat,j<k.Machine.Frames.Used.length->(j:Int)≠f->nth k.Machine.Frames.Used j=decide (0<(pagesOn k.Machine.Table (j:Int)).length))(t:0<=f/\f<k.Machine.Frames.Used.length)(l:nth k.Machine.Frames.Used f.toNat=true)(i:0<=k.Calls/\k.Calls<=100000/\k.Refuse.length<=40):aB (ip k f)=true:=by
 obtain⟨n,o,p,q⟩:=bh.1 d;unfold ip;split
 ·rename_i c
  rw[aF];simp only[C1];refine⟨h1,?_,g,λj b=>?_,i⟩
  ·rw[bh]
   simp only[C1,cu];refine⟨n,o,p,λj b=>?_⟩;by_cases a:f.toNat=j
   ·rw[C8 ⟨a,b⟩,C8 ⟨a,ω⟩];decide
   ·rw[C7 (λe=>a e.1),C7 (λe=>a e.1)];exact q j b
  ·rw[cu]
   by_cases a:f.toNat=j
   ·rw[C8 ⟨a,b⟩]
    have:(j:Int)=f:=ω
    rw[this];exact(Q0 λr=>absurd c (Nat.ne_of_gt r)).symm
   ·rw[C7 (λe=>a e.1)];exact h j b ω
 ·rename_i c
  rw[aF];refine⟨h1,d,g,λj b=>?_,i⟩;by_cases a:(j:Int)=f
  ·rw[a,show j=f.toNat by omega,l]
   exact(O0 (Nat.pos_of_ne_zero c)).symm
  ·exact h j b a
def tEq(t a:aH):Prop:=a.Entries.length=t.Entries.length/\∀q:Nat,((nth a.Entries q).Mode≠0↔(nth t.Entries q).Mode≠0)/\(nth a.Entries q).Frame=(nth t.Entries q).Frame
theorem tEq.refl(t:aH):tEq t t:=⟨rfl,λ_=>⟨Iff.rfl,rfl⟩⟩
theorem tEq.of{t a:aH}(h:a=t):tEq t a:=by rw[h];exact tEq.refl t
theorem tEq.pagesOn{t a:aH}(h:tEq t a)(f:Int):Ab.pagesOn a f=Ab.pagesOn t f:=by
 unfold Ab.pagesOn iW;rw[h.1]
 congr 1
 refine List.filter_congr λq _=>?_
 obtain⟨b,c⟩:=h.2 q;unfold HI;rw[c];exact decide_eq_decide.2 (and_congr b Iff.rfl)
theorem Ag{k:af}(h:aB k=true){a:aH}(c:tEq k.Machine.Table a)(i:∀q,q<a.Entries.length->0<=(nth a.Entries q).Mode/\(nth a.Entries q).Mode<=2):aB {k with Machine:=⟨k.Machine.Frames,a⟩} = true:=by
 obtain⟨l,n,o,p,r⟩:=aF.1 h;obtain⟨t,u,w⟩:=bw.1 o;rw[aF];refine⟨l,n,bw.2 ⟨λj b=>?_,?_,?_⟩,λj b=>?_,r⟩
 ·replace b:j<a.Entries.length:=b
  have e:=t j (by rw[<-c.1];exact b);have d:=i j b;obtain⟨g,y⟩:=c.2 j;show jT _ (nth a.Entries j)=true;unfold jT at e |-;rw[C0]at e |-;rw[y];refine⟨d.1,d.2,λf=>e.2.2.1 (Classical.byContradiction λA=>(g.2 A) f),λf=>e.2.2.2 (g.1 f)⟩
 ·show 1<=a.Entries.length;rw[c.1];exact u
 ·show a.Entries.length<=32;rw[c.1];exact w
 ·show nth k.Machine.Frames.Used j=decide (0<(Ab.pagesOn a (j:Int)).length)
  rw[c.pagesOn];exact p j b
theorem lA{k:af}(h:aB k=true)(f:k.Calls≠100000):aB (dv k)=true:=by
 obtain⟨a,b,c,d,g,i,e⟩:=aF.1 h;rw[aF];exact⟨a,b,c,d,by show 0<=k.Calls+1;omega,by show k.Calls+1<=100000;omega,e⟩
theorem sO{k:af}{p m:Int}(a:(nth k.Machine.Table.Entries p.toNat).Mode≠0)(b:m=1\/m=2):tEq k.Machine.Table (w5 k p m).Machine.Table:=by
 refine⟨by simp[w5],λq=>?_⟩;simp only[w5,cu];split
 ·rename_i e
  rw[<-e.1];exact⟨⟨λ_=>a,λ_=>by show m≠0;omega⟩,rfl⟩
 ·exact⟨Iff.rfl,rfl⟩
theorem Jy{k:af}(h:aB k=true){p m:Int}(d:(nth k.Machine.Table.Entries p.toNat).Mode≠0)(a:m=1\/m=2):aB (w5 k p m)=true:=by
 refine Ag h (sO d a) λq e=>?_
 obtain⟨i,j,f,l,n⟩:=aF.1 h;obtain⟨g,o,r⟩:=bw.1 f;have c:q<k.Machine.Table.Entries.length:=by rw[<-(sO d a).1];exact e
 have b:=g q c;unfold jT at b;rw[C0]at b;simp only[cu];split
 ·show 0<=m/\m<=2;omega
 ·exact⟨b.1,b.2.1⟩
theorem DA{k:af}{p m:Int}(h:aB k=true)(c:k.Calls≠100000)(b:(ar k.Machine.Table p).Mode≠0)(a:m=1\/m=2):aB (jW k p m).1=true/\tEq k.Machine.Table (jW k p m).1.Machine.Table:=by
 obtain⟨e,f,d,-⟩:=cr h b;rw[d]at b;unfold jW;split
 ·exact⟨lA h c,tEq.refl _⟩
 ·exact⟨Jy (lA h c) b a,sO (k:=dv k) b a⟩
theorem iE{k:af}(h:aB k=true){p:Int}(b:(ar k.Machine.Table p).Mode≠0):mM k p<k.Machine.Frames.Cells.length/\nth k.Machine.Frames.Used (mM k p)=true/\((mM k p:Nat):Int)=(nth k.Machine.Table.Entries p.toNat).Frame:=by
 obtain⟨f,g,a,i,j⟩:=cr h b;obtain⟨l,d,n,e,o⟩:=aF.1 h;obtain⟨q,r,t,u⟩:=bh.1 d;have c:((mM k p:Nat):Int)=(ar k.Machine.Table p).Frame:=by unfold mM;omega
 refine⟨ω,?_,by rw[c,a]⟩;rw[e _ ω,c];refine O0 (ek.2 ⟨p.toNat,ω,?_,?_⟩)
 ·rw[<-a];exact b
 ·rw[<-a]
theorem Kq{k:af}(h:aB k=true){f:Nat}{a:List Int}(c:a.length=16)(d:∀v∈a,0<=v/\v<=999)(g:nth k.Machine.Frames.Used f=true):aB {k with Machine:=⟨⟨k.Machine.Frames.Cells.set f a,k.Machine.Frames.Used⟩,k.Machine.Table⟩} = true:=by
 obtain⟨i,l,n,o,p⟩:=aF.1 h;obtain⟨q,r,t,u⟩:=bh.1 l;refine aF.2 ⟨i,bh.2 ⟨?_,?_,?_,λj b=>?_⟩,n,o,p⟩
 ·simp only[C1];exact q
 ·simp only[C1];exact r
 ·simp only[C1];exact t
 ·simp only[C1]at b |-
  simp only[cu];split
  ·rename_i e
   obtain⟨rfl,-⟩:=e;unfold gP;simp only[I0,C0,I3];refine⟨c,λv w=>?_⟩;have:=d v w;unfold i9;simp[g,this]
  ·exact u j b
theorem zZ{k:af}(h:aB k=true){f:Nat}(b:f<k.Machine.Frames.Cells.length):(nth k.Machine.Frames.Cells f).length=16/\∀v∈nth k.Machine.Frames.Cells f,0<=v/\v<=999:=by
 obtain⟨g,c,i,j,l⟩:=aF.1 h;obtain⟨n,o,p,d⟩:=bh.1 c;have a:=d f b;unfold gP at a;simp only[I0,C0,I3]at a;refine⟨a.1,λv e=>?_⟩;have:=a.2 v e;unfold i9 at this;simp only[I0,C0]at this;exact this.1
theorem pY{k:af}(h:aB k=true){f:Nat}(b:f<k.Machine.Frames.Cells.length)(d:nth k.Machine.Frames.Used f=true){c v:Int}(e:0<=v/\v<=999):aB (setCell k f c v)=true:=by
 obtain⟨g,i⟩:=zZ h b;refine Kq h (by rw[C1];exact g) (λz a=>?_) d;rcases Z4 a with a|rfl
 ·exact i z a
 ·exact e
theorem Jk{k:af}(h:aB k=true){a b c:Int}(d:(ar k.Machine.Table a).Mode≠0)(e:(ar k.Machine.Table b).Mode≠0)(l:0<=c/\c<=15):aB (yt k a b c)=true:=by
 obtain⟨f,n,-⟩:=iE h d;obtain⟨g,i,-⟩:=iE h e;obtain⟨o,j⟩:=zZ h f;exact pY h g i (j _ (am ω))
theorem MX{k:af}{p o:Int}(h:aB k=true)(u:k.Calls≠100000)(i:(ar k.Machine.Table p).Mode≠0)(d:(ar k.Machine.Table o).Mode≠0)(w:p≠o):aB (zq k p o).1=true:=by
 unfold zq;split
 ·exact lA h u
 obtain⟨O,y,A⟩:=iE h i;obtain⟨P,Q,R⟩:=iE h d;obtain⟨S,T,B,r,t⟩:=cr h i;obtain⟨U,V,C,D,E⟩:=cr h d;obtain⟨F,G,H,J,W,X,K⟩:=aF.1 h;obtain⟨L,M,N⟩:=bw.1 H;rw[C]at D E d;rw[B]at r t i;have a:∀q,nth (k.Machine.Table.Entries.set p.toNat ⟨2,(nth k.Machine.Table.Entries o.toNat).Frame⟩) q=if p.toNat=q then⟨2,(nth k.Machine.Table.Entries o.toNat).Frame⟩ else nth k.Machine.Table.Entries q:=λq=>by
  rw[cu];by_cases f:p.toNat=q
  ·rw[C8 ⟨f,ω⟩,C8 f]
  ·rw[C7 (λe=>f e.1),C7 f]
 refine KD F G (bw.2 ⟨λj c=>?_,?_,?_⟩) (λj c l=>?_) ⟨r,t⟩ (by rw[<-A];exact y) ⟨by show 0<=k.Calls+1;omega,by show k.Calls+1<=100000;omega,K⟩
 ·simp only[vu,dv,C1]at c |-
  rw[a];split
  ·unfold jT;rw[C0];simp only;omega
  ·exact L j c
 ·simp only[vu,dv,C1];exact M
 ·simp only[vu,dv,C1];exact N
 ·replace c:j<k.Machine.Frames.Used.length:=c
  show nth k.Machine.Frames.Used j=_;rw[J j c];refine decide_eq_decide.2 ?_;rw[ek,ek];simp only[vu,dv,C1,a];constructor
  ·rintro⟨q,n,g,b⟩
   refine⟨q,n,?_⟩;rw[C7 (λe=>l (by rw[<-b,<-e]))];exact⟨g,b⟩
  ·rintro⟨q,n,g,b⟩
   by_cases e:p.toNat=q
   ·rw[C8 e]at b
    exact⟨o.toNat,ω,d,b⟩
   ·rw[C7 e]at g b
    exact⟨q,n,g,b⟩
theorem LU{k:af}{p o:Int}(h:aB k=true)(b:(ar k.Machine.Table p).Mode≠0)(a:(zq k p o).2=true)(q:Nat):(zq k p o).1.Machine.Table.Entries.length=k.Machine.Table.Entries.length/\nth (zq k p o).1.Machine.Table.Entries q=if(q:Int)=p then⟨2,(nth k.Machine.Table.Entries o.toNat).Frame⟩ else nth k.Machine.Table.Entries q:=by
 obtain⟨d,f,-⟩:=cr h b;unfold zq at a |-;split at a
 ·cases a
 rename_i c;rw[C7 c];simp only[(oq _ _).1];simp only[vu,dv,C1,cu];refine⟨trivial,?_⟩;by_cases e:(q:Int)=p
 ·rw[C8 ⟨ω,ω⟩,C8 e]
 ·rw[C7 λz=>e ω,C7 e]
theorem N0{k:af}{p o:Int}(a:(zq k p o).2=false):(zq k p o).1=dv k:=by
 unfold zq at a |-;split
 ·rfl
 ·rename_i b;rw[C7 b]at a;cases a
theorem GA{k:af}{a v:Int}(h:aB k=true)(g:0<=a)(b:0<=v/\v<=999):aB {k with Machine:=(lv k.Machine a v).1} = true/\(lv k.Machine a v).1.Table=k.Machine.Table:=by
 unfold lv;split
 ·exact⟨h,rfl⟩
 rename_i d;split
 ·exact⟨h,rfl⟩
 ·obtain⟨e,f,-⟩:=iE h d
  exact⟨pY h e f (c:=a % 16) b,rfl⟩
def nY(t:aH)(p:Int):Prop:=∀q:Nat,(nth t.Entries q).Mode≠0->(nth t.Entries q).Frame=(nth t.Entries p.toNat).Frame->(q:Int)=p
structure JI(h:ab):Prop where
 ph:h.Meshing=true->0<=h.Job.Phase/\h.Job.Phase<=3
 sp:h.Meshing=true->∃a∈h.Spans,∃b∈h.Spans,a.Page=h.Job.Plan.Keep/\b.Page=h.Job.Plan.Move/\meshable a b=true
 sk:h.Meshing=true->nY (tbl h) h.Job.Plan.Keep
 sm:h.Meshing=true->nY (tbl h) h.Job.Plan.Move
theorem nY.tEq{t a:aH}{p:Int}(h:nY t p)(b:tEq t a):nY a p:=λq c d=>by
 obtain⟨e,f⟩:=b.2 q;exact h q (e.1 c) (by rw[<-f,<-(b.2 p.toNat).2];exact d)
theorem Pg.tEq{t b:aH}{c:List aA}{sp:List au}{la:List a8}(h:Pg t c sp la)(a:tEq t b):Pg b c sp la where
 one l hl p hp q hq h1 h2:=h.one l hl p hp q (by rw[<-a.1];exact hq) ((a.2 q).1.1 h1) (by rw[<-(a.2 q).2,<-(a.2 p).2];exact h2)
 bnd p hp:=by rw[a.1];exact h.bnd p hp
 own p hp:=(a.2 p).1.trans (h.own p (by rw[<-a.1];exact hp))
 fre p hp:=(a.2 p).1.trans (h.fre p (by rw[<-a.1];exact hp))
 mesh s hs u hu hne hf:=h.mesh s hs u hu hne (by rw[<-(a.2 _).2,<-(a.2 u.Page.toNat).2];exact hf)
theorem bp.step{h:ab}{E:List Int}(a:bp h E){k:af}(b:aB k=true)(c:k.Machine.Table.Entries.length=(tbl h).Entries.length)(d:Pg k.Machine.Table h.Free h.Spans h.Larges){j:cN}{m:Bool}(h1:m=true->jf j=true/\(∃s∈h.Spans,s.Page=j.Plan.Keep)/\∃s∈h.Spans,s.Page=j.Plan.Move)(e:m=false->qK j=true):bp {h with Kernel:=k,Meshing:=m,Job:=j} E:=
 {a with
   ker:=b
   rng:=by show bv ((k.Machine.Table.Entries.length:Nat):Int) h.Free=true;rw[c];exact a.rng
   pg:=d
   job:=h1
   noj:=e}
theorem pm.apart{sp:List au}{la:List a8}(b:pm sp la){s:au}(c:s∈sp){l:a8}(d:l∈la){p:Int}(a:p∈lpgs l l.Pages.toNat):s.Page≠p:=by
 unfold lpgs at a;simp only[T3,List.mem_range]at a;obtain⟨k,e,rfl⟩:=a;exact b.dis s c l d k e
theorem Pg.on{t H:aH}{Q:List aA}{sp:List au}{la:List a8}(h:Pg t Q sp la)(r:pm sp la){a b:au}(w:a∈sp)(L:b∈sp)(R:meshable a b=true)(A:nY t a.Page)(M:(nth t.Entries a.Page.toNat).Mode≠0)(N:(nth t.Entries b.Page.toNat).Mode≠0)(U:0<=b.Page)(J:H.Entries.length=t.Entries.length)(B:∀q:Nat,nth H.Entries q=if(q:Int)=b.Page then⟨2,(nth t.Entries a.Page.toNat).Frame⟩ else nth t.Entries q):Pg H Q sp la:=by
 have c:∀q:Nat,(nth H.Entries q).Mode≠0↔(nth t.Entries q).Mode≠0:=λq=>by
  rw[B];split
  ·rename_i e
   rw[show q=b.Page.toNat by omega];exact⟨λ_=>N,λ_=>by show(2:Int)≠0;omega⟩
  ·rfl
 have V:0<=a.Page:=by have:=r.sok a w;unfold aX at this;rw[C0]at this;omega
 refine⟨λl k p g q W S C=>?_,λp g=>by rw[J];exact h.bnd p g,λp g=>(c p).trans (h.own p (by rw[<-J];exact g)),λp g=>(c p).trans (h.fre p (by rw[<-J];exact g)),λs D u E F n=>?_⟩
 ·have O:¬(p:Int)=b.Page:=λe=>r.apart L k g e.symm
  rw[B p,C7 O,B q]at C;rw[c]at S;by_cases e:(q:Int)=b.Page
  ·rw[C8 e]at C
   have T:=h.one l k p g a.Page.toNat (by have:=h.bnd _ (d8 (la:=la) w);omega) M C;exact absurd (show a.Page=(p:Int) by omega) (r.apart w k g)
  ·rw[C7 e]at C
   exact h.one l k p g q (by rw[<-J];exact W) S C
 ·have X:0<=s.Page:=by have:=r.sok s D;unfold aX at this;rw[C0]at this;omega
  have Y:0<=u.Page:=by have:=r.sok u E;unfold aX at this;rw[C0]at this;omega
  have d:∀x∈sp,∀y∈sp,x.Page=y.Page->x=y:=λx G y Z e=>by
   obtain⟨i,hi,rfl⟩:=aZ G;obtain⟨j,hj,rfl⟩:=aZ Z;rw[gF (f:=(·.Page)) r.nd hi hj e]
  have o:∀x∈sp,(nth t.Entries x.Page.toNat).Mode≠0:=λx G=>by
   have hx0:0<=x.Page:=by have:=r.sok x G;unfold aX at this;rw[C0]at this;omega
   refine(h.own x.Page.toNat (by have:=h.bnd _ (d8 (la:=la) G);omega)).2 ?_;rw[show((x.Page.toNat:Nat):Int)=x.Page by omega];exact d8 G
  rw[B,B]at n;simp only[show((s.Page.toNat:Nat):Int)=s.Page by omega,show((u.Page.toNat:Nat):Int)=u.Page by omega]at n;by_cases K:s.Page=b.Page
  ·rw[C8 K,C7 (λe=>F (K.trans e.symm))]at n
   have T:=A u.Page.toNat (o u E) n.symm;rw[d s D b L K,d u E a w ω,iK];exact R
  ·rw[C7 K]at n
   by_cases P:u.Page=b.Page
   ·rw[C8 P]at n
    have T:=A s.Page.toNat (o s D) n;rw[d u E b L P,d s D a w ω];exact R
   ·rw[C7 P]at n
    exact h.mesh s D u E F n
def over(j:cN):Bool:=decide (j.Phase=4\/j.Phase=5)
def jh(k:af)(j:cN):af × cN:=if jmay k j=true then jstep k j else(k,j)
def mStep(h:ab):ab:={h with Kernel:=(jh h.Kernel h.Job).1,Meshing:=if over (jh h.Kernel h.Job).2=true then false else h.Meshing,Job:=if over (jh h.Kernel h.Job).2=true then⟨⟨0,0,[]⟩,0,0⟩ else(jh h.Kernel h.Job).2}
def AB(h:ab):Bool:=decide ((jh h.Kernel h.Job).2.Phase=4)
theorem fx{j:cN} : jf j=true↔eD j.Plan=true/\0<=j.Phase/\j.Phase<=5/\0<=j.Next/\j.Next<=j.Plan.Cells.length:=by
 unfold jf;simp only[I0,C0]
theorem lM{p:cz}(h:eD p=true){i:Nat}(a:i<p.Cells.length):0<=nth p.Cells i/\nth p.Cells i<=15:=by
 unfold eD at h;simp only[I0]at h;have:=dE h.1 a;unfold mH at this;rw[C0]at this;exact⟨this.1,this.2.1⟩
structure JS(h:ab)(k:af)(j:cN):Prop where
 ker:aB k=true
 len:k.Machine.Table.Entries.length=(tbl h).Entries.length
 pg:j.Phase≠4\/JI h->Pg k.Machine.Table h.Free h.Spans h.Larges
 ph:0<=j.Phase/\j.Phase<=5
 plan:j.Plan=h.Job.Plan
 nxt:0<=j.Next/\j.Next<=j.Plan.Cells.length
 eq:j.Phase≠4->tEq (tbl h) k.Machine.Table
 calls:h.Kernel.Calls<=k.Calls/\k.Calls<=h.Kernel.Calls+1/\k.Refuse=h.Kernel.Refuse
theorem uS(k:af)(p m:Int):(jW k p m).1.Calls=k.Calls+1/\(jW k p m).1.Refuse=k.Refuse:=by
 unfold jW;split<;>exact⟨rfl,rfl⟩
theorem JP(k:af)(p o:Int):(zq k p o).1.Calls=k.Calls+1/\(zq k p o).1.Refuse=k.Refuse:=by
 unfold zq;split
 ·exact⟨rfl,rfl⟩
 ·obtain⟨-,a,b,-⟩:=oq (vu (dv k) p.toNat ⟨2,(nth k.Machine.Table.Entries o.toNat).Frame⟩) (nth k.Machine.Table.Entries p.toNat).Frame
  simp only[a,b];exact⟨rfl,rfl⟩
theorem JS.of{h:ab}{E:List Int}(c:bp h E)(B:h.Meshing=true):JS h (jh h.Kernel h.Job).1 (jh h.Kernel h.Job).2:=by
 obtain⟨R,-,-⟩:=c.job B;obtain⟨O,y,A,o,p⟩:=fx.1 R;unfold jh;split
 case isFalse=>exact⟨c.ker,rfl,λ_=>c.pg,⟨y,A⟩,rfl,⟨o,p⟩,λ_=>tEq.refl _,t4 _,by show h.Kernel.Calls<=h.Kernel.Calls+1;omega,rfl⟩
 rename_i d;unfold jmay at d;simp only[I0,C0]at d;obtain⟨⟨-,C⟩,-,u,r,D⟩:=d;have fin:∀(k:af)(j:cN),aB k=true->tEq (tbl h) k.Machine.Table->0<=j.Phase/\j.Phase<=5->j.Plan=h.Job.Plan->0<=j.Next/\j.Next<=j.Plan.Cells.length->h.Kernel.Calls<=k.Calls/\k.Calls<=h.Kernel.Calls+1/\k.Refuse=h.Kernel.Refuse->JS h k j:=
  λk j S F T U V W=>⟨S,F.1,λ_=>c.pg.tEq F,T,U,V,λ_=>F,W⟩
 have P:=(aF.1 c.ker).2.2.2.2;unfold jstep;split
 ·obtain⟨l,w⟩:=DA c.ker C r (m:=1) (.inl rfl)
  obtain⟨g,t⟩:=uS h.Kernel h.Job.Plan.Move 1;refine fin _ _ l w ?_ rfl ⟨o,p⟩ ⟨by rw[g];omega,by rw[g];omega,t⟩;show 0<=(if _ then _ else _:Int)/\(if _ then _ else _:Int)<=5;split<;>omega
 split
 ·split
  ·exact fin _ _ c.ker (tEq.refl _) ⟨by show(0:Int)<=2;omega,by show(2:Int)<=5;omega⟩ rfl ⟨o,p⟩ ⟨t4 _,by show h.Kernel.Calls<=h.Kernel.Calls+1;omega,rfl⟩
  ·have n:=lM O (i:=h.Job.Next.toNat) ω
   refine fin _ _ (Jk c.ker r u n) (tEq.refl _) ⟨y,A⟩ rfl ⟨by show 0<=h.Job.Next+1;omega,by show h.Job.Next+1<=h.Job.Plan.Cells.length;omega⟩ ⟨t4 _,by show h.Kernel.Calls<=h.Kernel.Calls+1;omega,rfl⟩
 split
 ·have G:h.Job.Plan.Move≠h.Job.Plan.Keep:=λe=>D (by rw[e])
  have l:=MX c.ker C r u G;obtain⟨g,t⟩:=JP h.Kernel h.Job.Plan.Move h.Job.Plan.Keep;cases e:(zq h.Kernel h.Job.Plan.Move h.Job.Plan.Keep).2 with
  | false=>
   rw[C7 (by simp)];refine fin _ _ l (tEq.of ?_) ⟨by show(0:Int)<=3;omega,by show(3:Int)<=5;omega⟩ rfl ⟨o,p⟩ ⟨by rw[g];omega,by rw[g];omega,t⟩;rw[N0 e];rfl
  | true=>
   rw[C8 rfl];obtain⟨X,m2,Y,-⟩:=cr c.ker r;obtain⟨n1,n2,Z,-⟩:=cr c.ker u;have f:=LU c.ker r e;refine⟨l,(f 0).1,λH=>?_,⟨by show(0:Int)<=4;omega,by show(4:Int)<=5;omega⟩,rfl,⟨o,p⟩,λJ=>absurd rfl J,by rw[g];omega,by rw[g];omega,t⟩;have Q:JI h:=H.elim (λJ=>absurd rfl J) id;obtain⟨a,ha,b,hb,K,M,N⟩:=Q.sp B;refine c.pg.on c.L ha hb N (by rw[K];exact Q.sk B) (by rw[K];show(nth h.Kernel.Machine.Table.Entries _).Mode≠0;rw[<-Z];exact u) (by rw[M];show(nth h.Kernel.Machine.Table.Entries _).Mode≠0;rw[<-Y];exact r) (by rw[M];exact X) (f 0).1 λq=>?_
   rw[(f q).2,M,K];rfl
 split
 ·split
  ·rename_i hn0
   have n:=lM O (i:=(h.Job.Next - 1).toNat) ω;have hk0:=(cr c.ker u).1;obtain⟨l,w⟩:=GA c.ker (a:=h.Job.Plan.Keep*16+nth h.Job.Plan.Cells (h.Job.Next - 1).toNat) (v:=0) ω ⟨ω,ω⟩;exact fin _ _ l (tEq.of w) ⟨y,A⟩ rfl ⟨by show 0<=h.Job.Next - 1;omega,by show h.Job.Next - 1<=h.Job.Plan.Cells.length;omega⟩ ⟨t4 _,by show h.Kernel.Calls<=h.Kernel.Calls+1;omega,rfl⟩
  ·obtain⟨l,w⟩:=DA c.ker C r (m:=2) (.inr rfl)
   obtain⟨g,t⟩:=uS h.Kernel h.Job.Plan.Move 2;refine fin _ _ l w ?_ rfl ⟨o,p⟩ ⟨by rw[g];omega,by rw[g];omega,t⟩;show 0<=(if _ then _ else _:Int)/\(if _ then _ else _:Int)<=5;split<;>omega
 ·exact fin _ _ c.ker (tEq.refl _) ⟨y,A⟩ rfl ⟨o,p⟩ ⟨t4 _,by show h.Kernel.Calls<=h.Kernel.Calls+1;omega,rfl⟩
theorem bp.mStep{h:ab}{E:List Int}(d:bp h E)(f:JI h)(c:h.Meshing=true):bp (mStep h) E/\JI (mStep h):=by
 have s:=JS.of d c;unfold Ab.mStep;generalize (jh h.Kernel h.Job).1=k at s |-;generalize (jh h.Kernel h.Job).2=j at s |-;cases e:over j with
 | true=>
  refine⟨d.step s.ker s.len (s.pg (.inr f)) (λh=>by simp at h) (λ_=>by simp[qK]),?_⟩;exact⟨λh=>by simp at h,λh=>by simp at h,λh=>by simp at h,λh=>by simp at h⟩
 | false=>
  simp only[Bool.false_eq_true,if_false];unfold over at e;simp only[X3,not_or]at e;have g:=s.eq e.1;have i:=s.ph;refine⟨d.step s.ker s.len (s.pg (.inr f)) (λ_=>⟨fx.2 ⟨by rw[s.plan];exact(fx.1 (d.job c).1).1,s.ph.1,s.ph.2,s.nxt⟩,by rw[s.plan];exact(d.job c).2⟩) (λh=>by rw[c]at h;cases h),?_⟩;refine⟨λ_=>⟨s.ph.1,by show j.Phase<=3;omega⟩,λ_=>?_,λ_=>?_,λ_=>?_⟩
  ·show ∃a∈h.Spans,∃b∈h.Spans,a.Page=j.Plan.Keep/\b.Page=j.Plan.Move/\meshable a b=true
   rw[s.plan];exact f.sp c
  ·show nY k.Machine.Table j.Plan.Keep
   rw[s.plan];exact(f.sk c).tEq g
  ·show nY k.Machine.Table j.Plan.Move
   rw[s.plan];exact(f.sm c).tEq g
def N8(k:af)(a:Int):Int:=nth (nth k.Machine.Frames.Cells (ar k.Machine.Table (a / 16)).Frame.toNat) (a % 16).toNat
def cellsOf(k:af)(a:Int)(n:Nat):List Int:=(List.range n).map λ(i:Nat)=>N8 k (a+i)
theorem qt{sp:List au}{la:List a8}{a:Int}(h:(denotes sp la a).Kind=1):∃i:Nat,i<sp.length/\(denotes sp la a).Index=i/\ca (nth sp i) a=true/\denotes sp la a=mX i (nth sp i) a:=by
 unfold denotes at h |-;cases e:sp.findIdx? (ca · a) with
 | some i=>
  obtain⟨b,d,-⟩:=I5.1 e;refine⟨i,b,rfl,?_,rfl⟩;rw[bo (U1 b)];exact d
 | none=>
  rw[e]at h;simp only at h;cases c:la.findIdx? (bk · a) with
  | some i=>rw[c]at h;simp at h
  | none=>rw[c]at h;simp at h
theorem AK{sp:List au}{la:List a8}{a:Int}(h:(denotes sp la a).Kind=3):∃i:Nat,i<la.length/\(denotes sp la a).Index=i/\bk (nth la i) a=true/\denotes sp la a = ⟨3,i,0,a - 16*(nth la i).Page⟩:=by
 unfold denotes at h |-;cases e:sp.findIdx? (ca · a) with
 | some i=>
  rw[e]at h;simp only[mX]at h;split at h<;>simp at h
 | none=>
  rw[e]at h;simp only at h |-;cases b:la.findIdx? (bk · a) with
  | some i=>
   obtain⟨c,d,-⟩:=I5.1 b;refine⟨i,c,rfl,?_,rfl⟩;rw[bo (U1 c)];exact d
  | none=>rw[b]at h;simp at h
theorem mJ{n:Int}(h:0<=aK n):1<=n/\n<=8:=by
 unfold aK at h;split at h
 ·omega
 ·split at h
  ·omega
  ·split at h
   ·omega
   ·split at h
    ·omega
    ·split at h<;>omega
theorem L9{h:ab}{o:bB}(c:ix h o=true):0<=o.Addr/\o.Addr<=2000/\1<=o.Size/\o.Size<=1000:=by
 unfold ix at c;simp only[I0,X4,C0]at c;obtain⟨-,⟨d,e⟩|⟨d,e⟩⟩:=c
 ·obtain⟨i,f,a,b,-⟩:=qt d
  rw[a,C2]at e;unfold ca aX at b;simp only[I0,C0]at b;have:=mJ (n:=o.Size) ω;omega
 ·obtain⟨i,f,a,b,-⟩:=AK d
  rw[a,C2]at e;unfold bk bP at b;simp only[I0,C0]at b;omega
theorem uI{h:ab}(a:dD h=true):cb h=true/\ee h=true:=by
 unfold dD at a;simp only[I0]at a;exact⟨a.1.1.2,a.1.2.1⟩
theorem LO{h:ab}(a:dD h=true):1<=h.Next/\h.Next<=1000000:=by
 have:=(uI a).1;unfold cb at this;rw[C0]at this;omega
theorem LN{h:ab}(c:dD h=true){i:Nat}(f:i<h.Objs.length):1<=(nth h.Objs i).Id/\(nth h.Objs i).Id<h.Next/\0<=(nth h.Objs i).Addr/\(nth h.Objs i).Addr<=2000/\1<=(nth h.Objs i).Size/\(nth h.Objs i).Size<=1000/\∀j,j<i->(nth h.Objs j).Id≠(nth h.Objs i).Id:=by
 obtain⟨-,g⟩:=uI c;obtain⟨o,p⟩:=LO c;have a:=dE g f;rw[ef ω ω]at a;unfold objAt fZ at a;simp only[I0,C0,Bool.not_eq_true']at a;obtain⟨⟨k,d⟩,l⟩:=a;have b:=L9 l;refine⟨k.2.1,ω,b.1,b.2.1,b.2.2.1,b.2.2.2,λj n e=>?_⟩;rw[List.any_eq_false]at d;refine d (nth h.Objs j) ?_ (by unfold js;exact O0 e);have:(h.Objs.take i)[j]? = some (nth h.Objs j):=by rw[List.getElem?_take,C8 n,ah ω]
 exact Q1 this
def eN{α:Type}[Inhabited α](f:α->Int)(xs:List α):Nat->Int
 | 0=>0
 | i+1=>eN f xs i+f (nth xs i)
theorem kE{α:Type}[Inhabited α]{f:α->Int}{xs:List α}{b:Int}(h:∀y∈xs,0<=f y/\f y<=b):∀i:Nat,i<=xs.length->0<=eN f xs i/\eN f xs i<=b*i
 | 0,_=>by simp[eN]
 | i+1,a=>by
  have c:=kE h i ω;have d:=h _ (am (xs:=xs) (i:=i) ω);have e:b*((i+1:Nat):Int)=b*i+b:=by rw[Int.natCast_add,Int.mul_add];simp
  simp only[eN];omega
def cx(e:bg):Int:=if e.Mode≠0 then 1 else 0
theorem sY(e:bg):0<=cx e/\cx e<=1:=by unfold cx;split<;>omega
def kx(t:aH):Int:=eN cx t.Entries t.Entries.length
def rp(s:au)(c:Nat):Bool:=aS s.Bits (((c:Nat):Int) / csz s.Class)
def qV(s:au)(n:Nat):List Int:=((List.range n).filter (rp s)).map λ(i:Nat)=>(i:Int)
theorem D0{s:au}{n:Nat}(h:rp s n=true):qV s (n+1)=qV s n++[(n:Int)]:=by
 unfold qV;rw[List.range_succ,List.filter_append,R4];simp[h]
theorem Gg{s:au}{n:Nat}(h:rp s n=false):qV s (n+1)=qV s n:=by
 unfold qV;rw[List.range_succ,List.filter_append,R4];simp[h]
theorem re(s:au)(n:Nat):(qV s n).length<=n:=by
 unfold qV;rw[W0];exact Z3 (List.length_filter_le _ _) (by simp)
def Mf(s:au):Int:=((qV s 16).length:Nat)
theorem N9(s:au):0<=Mf s/\Mf s<=16:=by have:=re s 16;unfold Mf;omega
def sI(sp:List au)(la:List a8):Int:=eN Mf sp sp.length+eN (·.Size) la la.length
theorem M4{la:List a8}(h:la.all bP=true):∀l∈la,0<=l.Size/\l.Size<=1000:=λl b=>by
 have a:=I3.1 h l b;unfold bP at a;rw[C0]at a;omega
def fe(o:bB):Int:=if 0<=aK o.Size then csz (aK o.Size) else o.Size
theorem BH{h:ab}(a:dD h=true):∀o∈h.Objs,1<=o.Size/\o.Size<=1000:=λo b=>by
 obtain⟨i,c,rfl⟩:=aZ b;obtain⟨f,g,j,k,d,e,-⟩:=LN a c;exact⟨d,e⟩
theorem csz8(k:Int):0<=csz k/\csz k<=8:=rH k
theorem EA{h:ab}(a:dD h=true):∀o∈h.Objs,0<=fe o/\fe o<=1000:=λo b=>by
 have c:=BH a o b;have d:=csz8 (aK o.Size);unfold fe;split<;>omega
theorem tH:∀(a:List (List Int))(k:Nat),(∀l∈a,l.length<=8)->0<=dA k a/\dA k a<=64*a.length
 | [],_,_=>by simp[dA]
 | l::a,k,h=>by
  have d:=tH a (k+1) λy c=>h y (C4 _ c)
  have b:=Kr k;have e:=Gb (h l (O1 ..)) b.1 b.2;simp only[dA,List.length_cons];omega
theorem oZ(c:ay):0<=dh c/\dh c<=256:=by
 unfold dh;split
 ·rename_i h
  obtain⟨b,a⟩:=kv h;have:=tH c.Lists 0 a;omega
 ·omega
def iy(h:ab)(a:Int):Int:=csz (nth h.Spans (eU h (a / 16)).toNat).Class
def sf(h:ab):jb:=
 ⟨dQ h,kx h.Kernel.Machine.Table,fV h.Kernel.Machine.Frames,sI h.Spans h.Larges,eN fe h.Objs h.Objs.length,eN dh h.Caches h.Caches.length,quarCells h.Quar.Lst h.Quar.Lst.length,eN (iy h) (aC h.Mail) (aC h.Mail).length⟩
theorem Ni{h:ab}(e:dD h=true){a:Int}(f:a∈aC h.Mail):∃i:Nat,i<h.Spans.length/\(denotes h.Spans h.Larges a).Index=i/\eU h (a / 16)=i/\0<=a/\a<=600:=by
 obtain⟨-,g,-,-,-,-,-,-,j,-⟩:=lL e;have c:=I3.1 ((iZ h).1 j).2 a f;unfold iP cU at c;simp only[I0,C0]at c;obtain⟨i,b,k,l,-⟩:=qt c.1.1;have d:=pm.of g;have n:=aE (d.sok _ (am b));have o:=(eS (d.sok _ (am b))).1 l;refine⟨i,b,k,?_,ω,ω⟩;rw[show a / 16=(nth h.Spans i).Page by omega];exact oF d b
def bor(n m:Int):Int:=((n.toNat ||| m.toNat:Nat):Int)
def rg(sp:List au)(p:Int)(b:Int):Nat->Int
 | 0=>b
 | j+1=>if(nth sp j).Page=p then bor (rg sp p b j) (nth sp j).Bits else rg sp p b j
def jt(sp:List au)(ps:List Int)(b:Int):Nat->Int
 | 0=>b
 | k+1=>rg sp (nth ps k) (jt sp ps b k) sp.length
def gz(h:ab)(i:Nat):Int:=jt h.Spans (aO h (nth h.Spans i).Page) (nth h.Spans i).Bits (aO h (nth h.Spans i).Page).length
theorem JL{n m:Int}(h1:0<=n/\n<=65535)(a:0<=m/\m<=65535):0<=bor n m/\bor n m<=65535:=by
 have b:n.toNat ||| m.toNat<2 ^ 16:=Nat.or_lt_two_pow ω ω
 unfold bor;omega
theorem uC{sp:List au}(h:∀s∈sp,aX s=true){j:Nat}(b:j<sp.length):0<=(nth sp j).Bits/\(nth sp j).Bits<=65535:=by
 have a:=h _ (am b);have c:=ES (nth sp j).Class;unfold aX at a;rw[C0]at a;omega
theorem uA{sp:List au}(h:∀s∈sp,aX s=true){p b:Int}(a:0<=b/\b<=65535):∀j,j<=sp.length->0<=rg sp p b j/\rg sp p b j<=65535
 | 0,_=>a
 | j+1,d=>by
  have c:=uA h (p:=p) a j ω;simp only[rg];split
  ·exact JL c (uC h ω)
  ·exact c
theorem rx{sp:List au}(h:∀s∈sp,aX s=true){ps:List Int}{b:Int}(a:0<=b/\b<=65535):∀k,0<=jt sp ps b k/\jt sp ps b k<=65535
 | 0=>a
 | k+1=>by simp only[jt];exact uA h (rx h a k) _ (Q2 _)
theorem me{b i:Int}(a:0<=b)(c:0<=i/\i<=15):aS b i=b.toNat.testBit i.toNat:=by
 unfold aS;rw[Nat.testBit_eq_decide_div_mod_eq];refine decide_eq_decide.2 ?_;obtain⟨n,rfl⟩ : ∃n:Nat,b=n:=⟨b.toNat,ω⟩
 rw[C2];have d:((n / 2 ^ i.toNat:Nat):Int)=(n:Int) / 2 ^ i.toNat:=by simp
 omega
theorem Fg{n m i:Int}(b:0<=n)(c:0<=m)(a:0<=i/\i<=15):aS (bor n m) i=(aS n i || aS m i):=by
 rw[me (by unfold bor;omega) a,me b a,me c a];unfold bor;rw[C2,Nat.testBit_or]
theorem BC{sp:List au}(h:∀s∈sp,aX s=true){p b i:Int}(k:0<=b/\b<=65535)(l:0<=i/\i<=15):∀j,j<=sp.length->(aS (rg sp p b j) i=true↔aS b i=true\/∃q,q<j/\(nth sp q).Page=p/\aS (nth sp q).Bits i=true)
 | 0,_=>by simp[rg]
 | j+1,t=>by
  have n:=BC h (p:=p) k l j ω;have o:=uA h (p:=p) k j ω;have r:=uC h (j:=j) ω;simp only[rg];split
  ·rename_i d
   rw[Fg o.1 r.1 l,X4,n];constructor
   ·rintro((e|⟨q,f,a⟩)|e)
    ·exact .inl e
    ·exact .inr ⟨q,ω,a⟩
    ·exact .inr ⟨j,ω,d,e⟩
   ·rintro(e|⟨q,f,a,c⟩)
    ·exact .inl (.inl e)
    ·by_cases g:q=j
     ·subst g;exact .inr c
     ·exact .inl (.inr ⟨q,ω,a,c⟩)
  ·rename_i d
   rw[n];constructor
   ·rintro(e|⟨q,f,a⟩)
    ·exact .inl e
    ·exact .inr ⟨q,ω,a⟩
   ·rintro(e|⟨q,f,a,c⟩)
    ·exact .inl e
    ·by_cases g:q=j
     ·subst g;exact absurd a d
     ·exact .inr ⟨q,ω,a,c⟩
theorem yz{sp:List au}(h:∀s∈sp,aX s=true){ps:List Int}{b i:Int}(d:0<=b/\b<=65535)(f:0<=i/\i<=15):∀k,(aS (jt sp ps b k) i=true↔aS b i=true\/∃u,u<k/\∃q,q<sp.length/\(nth sp q).Page=nth ps u/\aS (nth sp q).Bits i=true)
 | 0=>by simp[jt]
 | k+1=>by
  have g:=yz h (ps:=ps) d f k;have j:=rx h (ps:=ps) d k;simp only[jt];rw[BC h j f _ (Q2 _),g];constructor
  ·rintro((e|⟨u,c,a⟩)|⟨q,c,a⟩)
   ·exact .inl e
   ·exact .inr ⟨u,ω,a⟩
   ·exact .inr ⟨k,ω,q,c,a⟩
  ·rintro(e|⟨u,c,a⟩)
   ·exact .inl (.inl e)
   ·by_cases l:u=k
    ·subst l;exact .inr a
    ·exact .inl (.inr ⟨u,ω,a⟩)
theorem AC{s:au}(a:aX s=true){c:Nat}(d:c<16):0<=((c:Nat):Int) / csz s.Class/\((c:Nat):Int) / csz s.Class<=15:=by
 have f:=aE a;have b:csz s.Class=1\/csz s.Class=2\/csz s.Class=4\/csz s.Class=8:=bO ω;rcases b with e|e|e|e<;>rw[e]<;>omega
def jw{α:Type}(p:α->Bool)(xs:List α):Nat:=(xs.findIdx? p).getD xs.length
def jg{α:Type}(p:α->Bool)(xs:List α)(y:α):List α:=xs.take (jw p xs)++y::xs.drop (jw p xs)
theorem Mh{α:Type}(p:α->Bool)(xs:List α):jw p xs<=xs.length:=by
 unfold jw;cases e:xs.findIdx? p with
 | none=>exact Q2 _
 | some i=>exact Nat.le_of_lt (I5.1 e).1
theorem jK{α:Type}(p:α->Bool)(xs:List α)(y:α):(jg p xs y).Perm (y::xs):=by
 unfold jg;refine List.perm_middle.trans ?_;rw[List.take_append_drop]
theorem dn{α:Type}{p:α->Bool}{xs:List α}{y z:α} : z∈jg p xs y↔z=y\/z∈xs:=by
 rw[(jK p xs y).mem_iff,List.mem_cons]
theorem uq{α:Type}{p:α->Bool}{xs:List α}{i:Nat}(c:i<=xs.length)(a:∀(j:Nat)(z:α),j<i->xs[j]? = some z->p z=false)(b:∀z,xs[i]? = some z->p z=true):jw p xs=i:=by
 unfold jw;by_cases e:i<xs.length
 ·rw[u5 (U1 e) (b _ (U1 e)) a];rfl
 ·rw[wg ω a];show xs.length=i;omega
theorem kL{α:Type}{f:α->Int}{xs:List α}{y:α}(h:xs.Pairwise λa b=>f a<f b)(p:∀z∈xs,f z≠f y):(jg (λz=>decide (f y<=f z)) xs y).Pairwise λa b=>f a<f b:=by
 have q:∀z∈xs.drop (jw (λz=>decide (f y<=f z)) xs),f y<f z:=λz g=>by
  obtain⟨j,k,rfl⟩:=List.mem_drop_iff_getElem.1 g;have C:=p _ (List.getElem_mem k);cases e:xs.findIdx? (λz=>decide (f y<=f z)) with
  | none=>
   have l:jw (λz=>decide (f y<=f z)) xs=xs.length:=by unfold jw;rw[e];rfl
   rw[l]at k;omega
  | some i=>
   have l:jw (λz=>decide (f y<=f z)) xs=i:=by unfold jw;rw[e];rfl
   obtain⟨r,t,-⟩:=I5.1 e;rw[C0]at t;have c:i+j<xs.length:=by rw[<-l];omega
   have n:f xs[i+j]≠f y:=p _ (List.getElem_mem c);have d:f y<f xs[i+j]:=by
    cases j with
    | zero=>simp only[Nat.add_zero]at n |-;omega
    | succ j=>
     have:=List.pairwise_iff_getElem.1 h i (i+(j+1)) r c ω;omega
   have w:xs[jw (λz=>decide (f y<=f z)) xs+j]? = xs[i+j]?:=by rw[l]
   rw[U1 ω,U1 c]at w;rw[Option.some.inj w];exact d
 have A:∀z∈xs.take (jw (λz=>decide (f y<=f z)) xs),f z<f y:=λz g=>by
  obtain⟨j,k,rfl⟩:=List.mem_take_iff_getElem.1 g;unfold jw at k;cases e:xs.findIdx? (λz=>decide (f y<=f z)) with
  | none=>
   have:=List.findIdx?_eq_none_iff.1 e _ (List.getElem_mem (show j<xs.length by omega));simp only[X3]at this;omega
  | some i=>
   obtain⟨r,t,B⟩:=I5.1 e;simp only[e,Option.getD_some]at k;have:=B j ω;simp only[C0]at this;omega
 unfold jg;refine List.pairwise_append.2 ⟨h.sublist (List.take_sublist ..),List.pairwise_cons.2 ⟨q,h.sublist (List.drop_sublist ..)⟩,λz g u o=>?_⟩;rcases List.mem_cons.1 o with rfl|o
 ·exact A z g
 ·exact Int.lt_trans (A z g) (q u o)
def gq(b i:Int):Int:=((b.toNat ||| 2 ^ i.toNat:Nat):Int)
def pQ(s:au)(i:Int):au:={s with Bits:=gq s.Bits i}
theorem wE(b i:Int)(j:Nat):(gq b i).toNat.testBit j=(b.toNat.testBit j || decide (i.toNat=j)):=by
 unfold gq;rw[C2,Nat.testBit_or,Nat.testBit_two_pow]
theorem DX{b i:Int}(g:0<=b)(e:0<=i/\i<=15)(j:Int):aS (gq b i) j=true↔aS b j=true\/j=i:=by
 rw[fS,fS,wE,X4,C0];have f:0<=gq b i:=by unfold gq;omega
 constructor
 ·rintro⟨h,c,d,a|a⟩
  ·exact .inl ⟨g,c,d,a⟩
  ·exact .inr ω
 ·rintro(⟨h,c,d,a⟩|rfl)
  ·exact⟨f,c,d,.inl a⟩
  ·exact⟨f,e.1,e.2,.inr rfl⟩
theorem fY{k:Int}(h:0<=k/\k<=3):lim k=2 ^ (slots k).toNat - 1/\0<=slots k/\slots k<=16/\slots k*csz k=16:=by
 obtain rfl|rfl|rfl|rfl:k=0\/k=1\/k=2\/k=3:=ω
 all_goals decide
theorem zj{s:au}(h:aX s=true){i:Int}(k:0<=i/\i<slots s.Class):aX (pQ s i)=true:=by
 have b:=aE h;obtain⟨c,l,o,-⟩:=fY b.2.2;unfold aX at h;rw[C0]at h;obtain⟨d,e,f,g,p,a⟩:=h;refine O0 ⟨d,e,f,g,by show 0<=gq s.Bits i;unfold gq;omega,?_⟩;show gq s.Bits i<=lim s.Class;rw[c]at a |-;have j:((2 ^ (slots s.Class).toNat:Nat):Int)=(2:Int) ^ (slots s.Class).toNat:=by norm_cast
 rw[<-j]at a |-;have:=Nat.or_lt_two_pow (x:=s.Bits.toNat) (y:=2 ^ i.toNat) (n:=(slots s.Class).toNat) ω (Nat.pow_lt_pow_right ω ω);unfold gq;omega
theorem xX{s u:au}{i:Int}(b:0<=i/\i<slots s.Class)(c:aS u.Bits i=false)(h:meshable s u=true):meshable (pQ s i) u=true:=by
 unfold meshable at h |-;simp only[I0,C0]at h |-;obtain⟨⟨d,f⟩,k,l,o⟩:=h;have p:=aE d;obtain⟨r,t,w,-⟩:=fY p.2.2;have a:=er f;refine⟨⟨zj d b,f⟩,k,l,?_⟩;refine Nat.eq_of_testBit_eq λj=>?_
 have g:=T0 (λn=>Nat.testBit n j) o;simp only[Nat.testBit_and,Nat.zero_testBit,pQ,wE]at g |-;by_cases e:i.toNat=j
 ·have:u.Bits.toNat.testBit j=false:=by
   rw[<-I4];intro q;have:=(fS u.Bits i).2 ⟨a.1,b.1,ω,by rw[e];exact q⟩;rw[this]at c;cases c
  rw[this];simp
 ·rw[Q0 e,Bool.or_false];exact g
theorem sL{s:au}(h:aX s=true){i:Int}(n:0<=i/\i<slots s.Class)(b:Int):eP (pQ s i) b↔eP s b\/b=16*s.Page+i*csz s.Class:=by
 have g:=aE h;obtain⟨o,p,k,l⟩:=fY g.2.2;have j:=bO g.2.2;unfold eP;simp only[pQ];rw[DX (er h).1 ω];constructor
 ·rintro⟨d,f,c,a|a⟩
  ·exact .inl ⟨d,f,c,a⟩
  ·right
   rcases j with e|e|e|e<;>rw[e]at c a |-<;>omega
 ·rintro(⟨d,f,c,a⟩|rfl)
  ·exact⟨d,f,c,.inl a⟩
  ·have q:slots s.Class<=16:=k
   rcases j with e|e|e|e<;>rw[e]at l |-<;>refine⟨?_,?_,?_,.inr ?_⟩<;>omega
theorem GY{sp:List au}{i:Nat}(k:Int)(a:i<sp.length):(sp.set i (pQ (nth sp i) k)).map (·.Page)=sp.map (·.Page):=by
 rw[W4];refine List.ext_getElem (by simp) λj b c=>?_
 rw[List.getElem_set];split
 ·rename_i e;subst e
  rw[List.getElem_map];show(nth sp i).Page=_;rw[bo (U1 a)]
 ·rfl
theorem jl.setS{sp:List au}{la:List a8}(p:pm sp la){i:Nat}(g:i<sp.length){k:Int}(h:0<=k/\k<slots (nth sp i).Class)(b c:Int):jl (sp.set i (pQ (nth sp i) k)) b c↔jl sp b c\/(b=16*(nth sp i).Page+k*csz (nth sp i).Class/\(c<0\/(nth sp i).Class=c)):=by
 have d:=p.sok _ (am g);constructor
 ·rintro⟨s,l,f,a⟩
  rcases eK l with rfl|⟨j,n,q,rfl⟩
  ·rcases(sL d h b).1 f with o|o
   ·exact .inl ⟨_,am g,o,a⟩
   ·exact .inr ⟨o,a⟩
  ·exact .inl ⟨_,am n,f,a⟩
 ·rintro(⟨s,l,f,a⟩|⟨f,a⟩)
  ·obtain⟨j,n,rfl⟩:=aZ l
   by_cases e:j=i
   ·subst e
    exact⟨_,iq _ g,(sL d h b).2 (.inl f),a⟩
   ·exact⟨_,iX _ n e,f,a⟩
  ·exact⟨_,iq _ g,(sL d h b).2 (.inr f),a⟩
theorem Mr{h:ab}{E:List Int}(d:bp h E){i:Nat}(l:i<h.Spans.length){k:Int}(p:0<=k/\k<=15)(b:aS (gz h i) k=false):aS (nth h.Spans i).Bits k=false/\∀u∈h.Spans,(nth (tbl h).Entries u.Page.toNat).Frame=(nth (tbl h).Entries (nth h.Spans i).Page.toNat).Frame->aS u.Bits k=false:=by
 have e:=d.L;have q:=er (e.sok _ (am l));unfold gz at b;rw[<-I4,yz e.sok q p]at b;rw[not_or]at b;have r:aS (nth h.Spans i).Bits k=false:=by simpa using b.1
 have a:∀s∈h.Spans,s.Page.toNat<dQ h/\(nth (tbl h).Entries s.Page.toNat).Mode≠0/\((s.Page.toNat:Nat):Int)=s.Page:=λs f=>by
  have K:=aE (e.sok s f);have M:=d.pg.bnd s.Page (d8 f);have n:s.Page.toNat<(tbl h).Entries.length:=ω
  have o:((s.Page.toNat:Nat):Int)=s.Page:=ω
  exact⟨n,(d.pg.own _ n).2 (by rw[o];exact d8 f),o⟩
 refine⟨r,λu c t=>?_⟩;rw[<-I4];intro w;obtain⟨y,A,B⟩:=a _ (am l);obtain⟨C,D,F⟩:=a u c;have G:u.Page∈aO h (nth h.Spans i).Page:=by
  rw[<-B,ew y A,<-F];exact d9.2 ⟨C,D,t⟩
 obtain⟨v,H,g⟩:=aZ G;obtain⟨j,J,rfl⟩:=aZ c;exact b.2 ⟨v,H,j,J,g.symm,w⟩
theorem bp.take{h:ab}{E:List Int}{i:Nat}{k sd:Int}(g:bp h E)(C:i<h.Spans.length)(D:0<=k/\k<slots (nth h.Spans i).Class)(r:aS (gz h i) k=false)(M:0<=sd/\sd<=1073741823) :
  bp {h with Seed:=sd,Spans:=h.Spans.set i (pQ (nth h.Spans i) k)} ((16*(nth h.Spans i).Page+k*csz (nth h.Spans i).Class)::E):=by
 have F:=g.L;have T:=F.sok _ (am C);have Q:=aE T;obtain⟨l1,l2,l3,l4⟩:=fY Q.2.2;have hz:=bO Q.2.2;obtain⟨u1,u2⟩:=Mr g C ⟨D.1,ω⟩ r;have n:=λb c=>jl.setS F C D b c
 have w:=GY k C;generalize ha:16*(nth h.Spans i).Page+k*csz (nth h.Spans i).Class=a at n |-;have G:¬eP (nth h.Spans i) a:=by
  rintro⟨-,-,-,h4⟩
  have:(a - 16*(nth h.Spans i).Page) / csz (nth h.Spans i).Class=k:=by
   rw[<-ha];rcases hz with e|e|e|e<;>rw[e]<;>omega
  rw[this,u1]at h4;cases h4
 have hrange:16*(nth h.Spans i).Page<=a/\a<=16*(nth h.Spans i).Page+15:=by
  rcases hz with e|e|e|e<;>rw[e]at ha l4<;>omega
 have U:¬Live h.Spans h.Larges a:=by
  rintro(⟨s,p,d,-⟩|⟨l,hl,e⟩)
  ·obtain⟨j,V,rfl⟩:=aZ p
   have:=gF (f:=(·.Page)) F.nd V C (by have a1:=d.1;have a2:=d.2.1;omega);subst this;exact G d
  ·exact(vg F hl).1 _ (am C) ω
 have W:a∉E++holders h:=λX=>U ((g.mem a).1 X)
 have q:∀s∈h.Spans.set i (pQ (nth h.Spans i) k),∃u∈h.Spans,u.Page=s.Page/\(s=u\/(u=nth h.Spans i/\s=pQ u k)):=λs p=>by
  rcases eK p with rfl|⟨j,V,hji,rfl⟩
  ·exact⟨_,am C,rfl,.inr ⟨rfl,rfl⟩⟩
  ·exact⟨_,am V,rfl,.inl rfl⟩
 generalize hsp:h.Spans.set i (pQ (nth h.Spans i) k)=sp at n w q |-;have t:pgs sp h.Larges=pgs h.Spans h.Larges:=by unfold pgs;rw[w]
 have N:∀u∈h.Spans,∃s∈sp,s.Page=u.Page:=λu r=>by
  have:u.Page∈sp.map (·.Page):=by rw[w];exact T3.2 ⟨u,r,rfl⟩
  obtain⟨s,p,e⟩:=T3.1 this;exact⟨s,p,e⟩
 exact {g with
   lay:=by
     obtain⟨l1,l2,l3⟩:=cZ g.lay;unfold bc;simp only[I0,C0];refine⟨⟨I3.2 λs p=>?_,l2⟩,by rw[t];exact l3⟩;obtain⟨u,r,-,rfl|⟨rfl,rfl⟩⟩:=q s p
     · exact F.sok _ r
     · exact zj (F.sok _ r) D
   srs:=by
     have d:(h.Spans.map (·.Page)).Pairwise (λa b=>a<b):=List.pairwise_map.2 g.srs;rw[<-w]at d;exact List.pairwise_map.1 d
   pg:=⟨g.pg.one,by rw[t];exact g.pg.bnd,by rw[t];exact g.pg.own,g.pg.fre,λs p u r O hf=>by
     obtain⟨R,A,Y,Z⟩:=q s p;obtain⟨S,B,eu,P⟩:=q u r;have H:(nth (tbl h).Entries R.Page.toNat).Frame=(nth (tbl h).Entries S.Page.toNat).Frame:=by rw[Y,eu];exact hf
     have d:=g.pg.mesh R A S B (by rw[Y,eu];exact O) H;rcases Z with rfl|⟨rfl,rfl⟩
     · rcases P with rfl|⟨rfl,rfl⟩
       · exact d
       · rw[iK]at d |-
         exact xX D (u2 _ A H) d
     · rcases P with rfl|⟨rfl,rfl⟩
       · exact xX D (u2 _ B H.symm) d
       · exact absurd (Y.symm.trans eu) O⟩
   nums:=by
     have:=g.nums;unfold cb at this |-;rw[C0]at this |-;exact⟨M.1,M.2,this.2.2⟩
   oow:=λo ho=>by
     rcases g.oow o ho with⟨s,p,d,h2⟩|d
     · obtain⟨u,r,g1,K⟩:=(n o.Addr (aK o.Size)).2 (.inl ⟨s,p,d,.inr h2⟩)
       refine .inl ⟨u,r,g1,?_⟩;rcases K with K|K
       · have:=aE (F.sok _ p);omega
       · exact K
     · exact .inr d
   hca:=λc Q k D b J=>(n b k).2 (.inl (g.hca c Q k D b J))
   hqu:=λy hy=>(n _ _).2 (.inl (g.hqu y hy))
   hfl:=λb J=>(n _ _).2 (.inl (g.hfl b J))
   hin:=λb J=>by
     rcases List.mem_cons.1 J with rfl|J
     · exact(n _ _).2 (.inr ⟨rfl,.inl (by decide)⟩)
     · exact(n _ _).2 (.inl (g.hin b J))
   nd:=by
     rw[List.cons_append];exact List.nodup_cons.2 ⟨W,g.nd⟩
   mem:=λb=>by
     show b∈a::E++holders h↔Live sp h.Larges b;rw[List.cons_append,List.mem_cons,g.mem b];unfold Live;rw[n];constructor
     · rintro(rfl|d|d)
       · exact .inl (.inr ⟨rfl,.inl (by decide)⟩)
       · exact .inl (.inl d)
       · exact .inr d
     · rintro((d|⟨d,-⟩)|d)
       · exact .inr (.inl d)
       · exact .inl d
       · exact .inr (.inr d)
   job:=λX=>by
     obtain⟨j1,⟨s,p,e1⟩,⟨u,r,e2⟩⟩:=g.job X;obtain⟨R,A,g1⟩:=N s p;obtain⟨S,B,K⟩:=N u r;exact⟨j1,⟨R,A,g1.trans e1⟩,⟨S,B,K.trans e2⟩⟩}
def qw(c:ay)(k:Nat):ay:=⟨c.Lists.set k ((nth c.Lists k).take ((nth c.Lists k).length - 1))⟩
theorem K7{l:List Int}(h:0<l.length):l=l.take (l.length - 1)++[nth l (l.length - 1)]:=by
 have a:l.drop (l.length - 1)=[nth l (l.length - 1)]:=by
  rw[iT ω,show l.length - 1+1=l.length by omega,List.drop_length]
 rw[<-a,List.take_append_drop]
theorem bp.pop{h:ab}{E:List Int}{t k:Nat}(f:bp h E)(l:t<h.Caches.length)(p:k<(nth h.Caches t).Lists.length)(u:0<(nth (nth h.Caches t).Lists k).length)(w:bm (qw (nth h.Caches t) k)=true) :
  bp {h with Caches:=h.Caches.set t (qw (nth h.Caches t) k)} (nth (nth (nth h.Caches t).Lists k) ((nth (nth h.Caches t).Lists k).length - 1)::E)/\jl h.Spans (nth (nth (nth h.Caches t).Lists k) ((nth (nth h.Caches t).Lists k).length - 1)) k:=by
 have q:=K7 u;have n:=f.hca _ (am l) k p (nth (nth (nth h.Caches t).Lists k) ((nth (nth h.Caches t).Lists k).length - 1)) (am ω);refine⟨?_,n⟩;generalize D:nth (nth (nth h.Caches t).Lists k) ((nth (nth h.Caches t).Lists k).length - 1)=a at q n |-;have r:(E++holders h).Perm (a::E++holders {h with Caches:=h.Caches.set t (qw (nth h.Caches t) k)}):=by
  refine List.perm_iff_count.2 λb=>?_
  have A:=ib (λc:ay=>c.Lists.flatten) b h.Caches t (qw (nth h.Caches t) k) l;have B:=ib (λy:List Int=>y) b (nth h.Caches t).Lists k ((nth (nth h.Caches t).Lists k).take ((nth (nth h.Caches t).Lists k).length - 1)) p;rw[<-jL,<-jL]at B;have C:=T0 (List.count b) q;simp only[V4,List.count_singleton]at C;simp only[qw]at A;simp only[holders,bQ,qw,V4,List.cons_append,List.count_cons];omega
 exact {f with
   nc:=by show(h.Caches.set ..).length=_;rw[C1];exact f.nc
   cach:=λc d=>by
     rcases Z4 d with d|rfl
     · exact f.cach c d
     · exact w
   onu:=by show ∀o∈h.Objs,1<=o.Id/\o.Id<=h.Next - 1/\0<=o.Thread/\o.Thread<=(h.Caches.set t _).length - 1;rw[C1];exact f.onu
   hca:=λc d j i b g=>by
     rcases Z4 d with d|rfl
     · exact f.hca c d j i b g
     · simp only[qw,C1]at i
       simp only[qw,cu]at g;by_cases e:k=j
       · subst e
         rw[C8 ⟨rfl,i⟩]at g;exact f.hca _ (am l) _ i b (List.mem_of_mem_take g)
       · rw[C7 λy=>e y.1]at g
         exact f.hca _ (am l) _ i b g
   hin:=λb g=>by
     rcases List.mem_cons.1 g with rfl|g
     · exact n.any
     · exact f.hin b g
   nd:=r.nodup_iff.1 f.nd
   mem:=λb=>by rw[<-r.mem_iff];exact f.mem b}
def KX(a:Int)(o:bB):Bool:=decide (a<=o.Addr)
def addO(h:ab)(a size t:Int):ab:={h with Objs:=jg (KX a) h.Objs ⟨h.Next,a,size,t⟩,Next:=h.Next+1}
theorem yL{h:ab}(a:cb h=true)(b:h.Next<1000000):decide (0<=h.Seed/\h.Seed<=1073741823/\0<=h.Clock/\h.Clock<=1000000/\0<=h.Limit/\h.Limit<=1000/\1<=h.Next+1/\h.Next+1<=1000000)=true:=by
 unfold cb at a;rw[C0]at a |-;omega
theorem bp.addO{h:ab}{E:List Int}{a size t:Int}(c:bp h (a::E))(d:Jx h.Spans h.Larges ⟨h.Next,a,size,t⟩)(p:h.Next<1000000)(q:0<=t/\t<=h.Caches.length - 1):bp (addO h a size t) E:=by
 have i:=jK (KX a) h.Objs ⟨h.Next,a,size,t⟩;have n:(a::E++holders h).Perm (E++holders (Ab.addO h a size t)):=by
  have r:=i.map (·.Addr);refine List.perm_iff_count.2 λb=>?_
  have u:=r.count_eq b;simp only[U4,List.count_cons]at u;simp only[holders,bQ,Ab.addO,V4,List.cons_append,List.count_cons];omega
 have j:=c.nd;rw[List.cons_append]at j;obtain⟨k,-⟩:=List.nodup_cons.1 j;have l:∀o∈h.Objs,o.Addr≠a:=λo d e=>k (O2.2 (.inr (by unfold holders;simp only[O2];exact .inl (.inl (.inl (T3.2 ⟨o,d,e⟩))))))
 exact {c with
   nums:=yL c.nums p
   osr:=kL (f:=λo:bB=>o.Addr) (y:=⟨h.Next,a,size,t⟩) c.osr l
   onu:=λo d=>by
     rcases dn.1 d with rfl|d
     · have:=c.nums
       unfold cb at this;rw[C0]at this;exact⟨by show 1<=h.Next;omega,by show h.Next<=h.Next+1 - 1;omega,q⟩
     · have:=c.onu o d
       exact⟨this.1,by show o.Id<=h.Next+1 - 1;omega,this.2.2⟩
   oid:=by
     show((jg (KX a) h.Objs ⟨h.Next,a,size,t⟩).map (·.Id)).Nodup;rw[(i.map _).nodup_iff,U4];refine List.nodup_cons.2 ⟨λw=>?_,c.oid⟩;obtain⟨o,d,e⟩:=T3.1 w;have:=(c.onu o d).2.1;simp only at e;omega
   oow:=λo g=>by
     rcases dn.1 g with rfl|g
     · exact d
     · exact c.oow o g
   hin:=λb A=>c.hin b (C4 _ A)
   nd:=n.nodup_iff.1 c.nd
   mem:=λb=>by rw[<-n.mem_iff];exact c.mem b}
end Go.Proofs.YtembpgjjnioagaaGreat.Ab
