/- Pages mapped for new spans and large objects: a heap stays whole. No condition. -/
import Derived.Test.YtembpgjjnioagaaGreatBd
import Derived.Test.YtembpgjjnioagaaGreatBf
import Derived.Test.YtembpgjjnioagaaGreatBe
set_option linter.unusedVariables false
set_option linter.unusedSimpArgs false
set_option linter.constructorNameAsVariable false
namespace Go.Proofs.YtembpgjjnioagaaGreat.Ab
def i6(xs:List aA)(n:Int):Nat->Int
 | 0=>-1
 | i+1=>if n<=(nth xs i).Len/\(i6 xs n i<0\/(nth xs i).Len<(nth xs (i6 xs n i).toNat).Len) then(i:Nat) else i6 xs n i
def gx(xs:List aA)(n:Int):Int:=i6 xs n xs.length
def a7(xs:List aA)(n:Int):List aA × Int × Bool:=
 if gx xs n<0 then(xs,-1,false)
 else if(nth xs (gx xs n).toNat).Len=n then(dele xs (gx xs n).toNat,(nth xs (gx xs n).toNat).At,true)
 else(xs.set (gx xs n).toNat ⟨(nth xs (gx xs n).toNat).At+n,(nth xs (gx xs n).toNat).Len - n⟩,(nth xs (gx xs n).toNat).At,true)
theorem wb(xs:List aA)(n:Int):∀i,i<=xs.length->i6 xs n i = -1\/(0<=i6 xs n i/\i6 xs n i<i/\n<=(nth xs (i6 xs n i).toNat).Len)
 | 0,_=>.inl rfl
 | i+1,b=>by
  have a:=wb xs n i ω;unfold i6;split
  ·rename_i h;right;rw[C2];exact⟨ω,ω,h.1⟩
  ·rcases a with h|h
   ·exact .inl h
   ·exact .inr ⟨h.1,ω,h.2.2⟩
theorem va{xs:List aA}(h:nO xs){i j:Nat}(a:i<j)(b:j<xs.length):(nth xs i).At+(nth xs i).Len<(nth xs j).At:=by
 have:=List.pairwise_iff_getElem.1 h.1 i j ω b a
 rwa [<-bo (U1 (show i<xs.length by omega)),<-bo (U1 b)]at this
theorem wj{xs:List aA}{p:Int} : RH xs p↔∃j,j<xs.length/\(nth xs j).At<=p/\p<(nth xs j).At+(nth xs j).Len:=by
 unfold RH;constructor
 ·rintro⟨r,b,h⟩
  obtain⟨j,a,rfl⟩:=aZ b;exact⟨j,a,h⟩
 ·rintro⟨j,a,h⟩
  exact⟨_,am a,h⟩
theorem mz{pages:Int}{xs:List aA}{n:Int}(h:bv pages xs=true)(T:1<=n)(t:(a7 xs n).2.2=true) :
  bv pages (a7 xs n).1=true/\0<=(a7 xs n).2.1/\(a7 xs n).2.1+n<=pages/\(∀p,RH (a7 xs n).1 p↔RH xs p/\¬((a7 xs n).2.1<=p/\p<(a7 xs n).2.1+n))/\∀p,(a7 xs n).2.1<=p->p<(a7 xs n).2.1+n->RH xs p:=by
 obtain⟨o,u,J⟩:=fj.1 h;have K:=wb xs n xs.length (Q2 _);unfold a7 at t |-;change gx xs n = -1\/_ at K;split at t
 ·cases t
 rename_i w;rw[C7 w];obtain⟨O,P,L⟩:=K.resolve_left ω;change 0<=gx xs n at O;change gx xs n<xs.length at P;change n<=(nth xs (gx xs n).toNat).Len at L;generalize Q:(gx xs n).toNat=b at L |-;have g:b<xs.length:=ω
 have M:=u _ (am g);have q:∀j,j<xs.length->j≠b->(nth xs j).At+(nth xs j).Len<(nth xs b).At\/(nth xs b).At+(nth xs b).Len<(nth xs j).At:=λj a k=>by
  rcases Nat.lt_or_gt_of_ne k with A|B
  ·exact .inl (va o A g)
  ·exact .inr (va o B a)
 split
 ·rename_i R
  have C:(dele xs b).Sublist xs:=fw ..;refine⟨fj.2 ⟨⟨o.1.sublist C,λy l=>o.2 y (C.subset l)⟩,λy l=>u y (C.subset l),J⟩,M.1,by show(nth xs b).At+n<=pages;omega,λp=>?_,λp D E=>wj.2 ⟨b,g,D,by show p<_;simp only at E;omega⟩⟩;simp only;rw[wj (xs:=xs)];constructor
  ·rintro⟨r,F,f,d⟩
   obtain⟨j,a,k,rfl⟩:=eg.1 F;refine⟨⟨j,a,f,d⟩,λe=>?_⟩;have:=q j a k;omega
  ·rintro⟨⟨j,a,f,d⟩,G⟩
   exact⟨_,eg.2 ⟨j,a,λe=>by subst e;omega,rfl⟩,f,d⟩
 ·rename_i R
  have c:∀j,nth (xs.set b ⟨(nth xs b).At+n,(nth xs b).Len - n⟩) j=if j=b then⟨(nth xs b).At+n,(nth xs b).Len - n⟩ else nth xs j:=λj=>by
   rw[cu];by_cases e:j=b
   ·rw[C8 ⟨e.symm,ω⟩,C8 e]
   ·rw[C7 λz=>e z.1.symm,C7 e]
  refine⟨fj.2 ⟨⟨?_,λy l=>?_⟩,λy l=>?_,J⟩,M.1,by show(nth xs b).At+n<=pages;omega,λp=>?_,λp D E=>wj.2 ⟨b,g,D,by simp only at E;omega⟩⟩
  ·rw[List.pairwise_iff_getElem]
   intro i j N a H;rw[<-bo (U1 N),<-bo (U1 a),c,c];simp only[C1]at N a;have S:=va o H a;split
   ·rename_i e;subst e
    rw[C7 ω];simp only;omega
   ·split
    ·rename_i e;subst e
     simp only;omega
    ·exact S
  ·rcases eK l with rfl|⟨j,a,-,rfl⟩
   ·simp only;omega
   ·exact o.2 _ (am a)
  ·rcases eK l with rfl|⟨j,a,-,rfl⟩
   ·simp only;omega
   ·exact u _ (am a)
  ·simp only
   rw[wj,wj,C1];constructor
   ·rintro⟨j,a,f,d⟩
    rw[c]at f d;split at f
    ·rename_i e;subst e
     rw[C8 rfl]at d;simp only at f d;exact⟨⟨j,a,ω,ω⟩,ω⟩
    ·rename_i e
     rw[C7 e]at d;have:=q j a e;exact⟨⟨j,a,f,d⟩,ω⟩
   ·rintro⟨⟨j,a,f,d⟩,G⟩
    refine⟨j,a,?_⟩;rw[c];split
    ·rename_i e;subst e
     simp only;omega
    ·exact⟨f,d⟩
def rr(k:af):Int:=cy (λu=>!u) k.Machine.Frames.Used
def pI(k:af)(p:Int)(f:Nat):af:={k with Machine:=⟨⟨k.Machine.Frames.Cells,k.Machine.Frames.Used.set f true⟩,⟨k.Machine.Table.Entries.set p.toNat ⟨2,(f:Nat)⟩⟩⟩}
def ge(k:af)(p:Int):af × Bool:=if refd k=true\/rr k<0 then(dv k,false) else(pI (dv k) p (rr k).toNat,true)
theorem AS{k:af}(h:¬rr k<0):(rr k).toNat<k.Machine.Frames.Used.length/\nth k.Machine.Frames.Used (rr k).toNat=false:=by
 unfold rr at h |-;rcases n6 (λu=>!u) k.Machine.Frames.Used with e|⟨n,a,e,b⟩
 ·omega
 ·rw[e,C2]
  exact⟨a,by simpa using b⟩
theorem yj{k:af}(h:aB k=true){f:Nat}(b:f<k.Machine.Frames.Used.length)(c:nth k.Machine.Frames.Used f=false)(q:Nat)(d:q<k.Machine.Table.Entries.length)(g:(nth k.Machine.Table.Entries q).Mode≠0):(nth k.Machine.Table.Entries q).Frame≠(f:Nat):=by
 obtain⟨j,l,n,i,o⟩:=aF.1 h;intro e;have a:=i f b;rw[c]at a;have:=of_decide_eq_false a.symm;exact this (ek.2 ⟨q,d,g,e⟩)
theorem M6{k:af}{p:Int}{f:Nat}(h:aB k=true)(L:0<=p/\p<k.Machine.Table.Entries.length)(n:(nth k.Machine.Table.Entries p.toNat).Mode=0)(o:f<k.Machine.Frames.Used.length)(r:nth k.Machine.Frames.Used f=false):aB (pI k p f)=true:=by
 have t:=yj h o r;obtain⟨u,w,y,A,B⟩:=aF.1 h;obtain⟨C,D,E,F⟩:=bh.1 w;obtain⟨G,H,J⟩:=bw.1 y;have a:∀q,nth (k.Machine.Table.Entries.set p.toNat ⟨2,(f:Nat)⟩) q=if p.toNat=q then⟨2,(f:Nat)⟩ else nth k.Machine.Table.Entries q:=λq=>by
  rw[cu];by_cases i:p.toNat=q
  ·rw[C8 ⟨i,ω⟩,C8 i]
  ·rw[C7 (λe=>i e.1),C7 i]
 refine aF.2 ⟨u,bh.2 ⟨C,D,by simp only[pI,C1];exact E,λj b=>?_⟩,bw.2 ⟨λj b=>?_,?_,?_⟩,λj b=>?_,B⟩
 ·replace b:j<k.Machine.Frames.Cells.length:=b
  show gP (nth k.Machine.Frames.Cells j) (nth (k.Machine.Frames.Used.set f true) j)=true;have d:=F j b;rw[cu];split
  ·unfold gP at d |-
   simp only[I0,C0,I3]at d |-;refine⟨d.1,λv K=>?_⟩;have:=d.2 v K;unfold i9 at this |-;simp only[I0]at this;rw[this.1];rfl
  ·exact d
 ·simp only[pI,C1]at b |-
  rw[a];split
  ·unfold jT;rw[C0];simp only;omega
  ·exact G j b
 ·simp only[pI,C1];exact H
 ·simp only[pI,C1];exact J
 ·simp only[pI,C1]at b
  show nth (k.Machine.Frames.Used.set f true) j=_;rw[cu];by_cases e:f=j
  ·subst e
   rw[C8 ⟨rfl,b⟩];refine(O0 (ek.2 ⟨p.toNat,?_,?_,?_⟩)).symm
   ·simp only[pI,C1];omega
   ·simp only[pI,a,C8];decide
   ·simp only[pI,a,C8]
  ·rw[C7 λz=>e z.1,A j b]
   refine decide_eq_decide.2 ?_;rw[ek,ek];simp only[pI,C1,a];constructor
   ·rintro⟨q,l,g,c⟩
    refine⟨q,l,?_⟩;rw[C7 λz=>g (by rw[<-z];exact n)];exact⟨g,c⟩
   ·rintro⟨q,l,g,c⟩
    by_cases z:p.toNat=q
    ·rw[C8 z]at c
     simp only at c;omega
    ·rw[C7 z]at g c
     exact⟨q,l,g,c⟩
structure Au(k:af)(p:Int)(r:af × Bool):Prop where
 ker:aB r.1=true
 len:r.1.Machine.Table.Entries.length=k.Machine.Table.Entries.length
 calls:r.1.Calls=k.Calls+1
 ref:r.1.Refuse=k.Refuse
 cells:r.1.Machine.Frames.Cells=k.Machine.Frames.Cells
 no:r.2=false->r.1=dv k
 yes:r.2=true->∃f:Nat,f<k.Machine.Frames.Used.length/\nth k.Machine.Frames.Used f=false/\(∀q:Nat,nth r.1.Machine.Table.Entries q=if(q:Int)=p then⟨2,(f:Nat)⟩ else nth k.Machine.Table.Entries q)/\∀q,q<k.Machine.Table.Entries.length->(nth k.Machine.Table.Entries q).Mode≠0->(nth k.Machine.Table.Entries q).Frame≠(f:Nat)
theorem Au.of{k:af}{p:Int}(h:aB k=true)(c:k.Calls≠100000)(f:0<=p/\p<k.Machine.Table.Entries.length)(g:(nth k.Machine.Table.Entries p.toNat).Mode=0):Au k p (ge k p):=by
 unfold ge;split
 ·exact⟨lA h c,rfl,rfl,rfl,rfl,λ_=>rfl,λe=>by cases e⟩
 ·rename_i d
  rw[not_or]at d;obtain⟨a,b⟩:=AS d.2;refine⟨M6 (lA h c) f g a b,by simp[pI,dv],rfl,rfl,rfl,λe=>(by cases e),λ_=>⟨_,a,b,λq=>?_,λq=>yj h a b q⟩⟩;simp only[pI,dv,cu];by_cases e:(q:Int)=p
  ·rw[C8 ⟨ω,ω⟩,C8 e]
  ·rw[C7 λz=>e ω,C7 e]
def cK(k:af)(p:Int):Nat->af × Nat
 | 0=>(k,0)
 | i+1=>if(cK k p i).2=i then((ge (cK k p i).1 (p+(i:Nat))).1,if(ge (cK k p i).1 (p+(i:Nat))).2=true then i+1 else i) else cK k p i
structure ng(k:af)(p:Int)(i:Nat)(r:af × Nat):Prop where
 ker:aB r.1=true
 len:r.1.Machine.Table.Entries.length=k.Machine.Table.Entries.length
 calls:k.Calls<=r.1.Calls/\r.1.Calls<=k.Calls+i
 ref:r.1.Refuse=k.Refuse
 cells:r.1.Machine.Frames.Cells=k.Machine.Frames.Cells
 le:r.2<=i
 out:∀q:Nat,¬(p<=q/\(q:Int)<p+r.2)->nth r.1.Machine.Table.Entries q=nth k.Machine.Table.Entries q
 new:∀q:Nat,p<=q->(q:Int)<p+r.2->(nth r.1.Machine.Table.Entries q).Mode=2/\∀u:Nat,u<k.Machine.Table.Entries.length->(nth r.1.Machine.Table.Entries u).Mode≠0->(nth r.1.Machine.Table.Entries u).Frame=(nth r.1.Machine.Table.Entries q).Frame->u=q
theorem ng.of{k:af}{p:Int}{n:Nat}(h:aB k=true)(G:k.Calls+n<=100000)(H:0<=p/\p+n<=k.Machine.Table.Entries.length)(C:∀q:Nat,p<=q->(q:Int)<p+n->(nth k.Machine.Table.Entries q).Mode=0):∀i,i<=n->ng k p i (cK k p i)
 | 0,_=>⟨h,rfl,⟨t4 _,by show k.Calls<=k.Calls+((0:Nat):Int);omega⟩,rfl,rfl,Q2 _,λ_ _=>rfl,λq o d=>by simp only[cK]at d;omega⟩
 | i+1,L=>by
  have a:=ng.of h G H C i ω;unfold cK;split
  case isFalse=>exact⟨a.ker,a.len,⟨a.calls.1,by have:=a.calls.2;omega⟩,a.ref,a.cells,by have:=a.le;omega,a.out,a.new⟩
  rename_i t;generalize cK k p i=r at a t |-;have J:=a.calls;have y:(nth r.1.Machine.Table.Entries (p+(i:Nat)).toNat).Mode=0:=by
   rw[a.out _ ω];exact C _ ω ω
  have s:=Au.of (p:=p+(i:Nat)) a.ker ω ⟨ω,by rw[a.len];omega⟩ y;generalize ge r.1 (p+(i:Nat))=w at s |-;refine⟨s.ker,s.len.trans a.len,⟨by simp only[s.calls];omega,by simp only[s.calls];omega⟩,s.ref.trans a.ref,s.cells.trans a.cells,by simp only;split<;>omega,λq j=>?_,λq o d=>?_⟩
  ·simp only at j |-
   cases e:w.2 with
   | false=>
    rw[s.no e];rw[e]at j;exact a.out q (by rw[t];simpa using j)
   | true=>
    obtain⟨f,-,-,g,-⟩:=s.yes e;rw[e,C8 rfl]at j;rw[g,C7 ω];exact a.out q ω
  ·simp only at d |-
   cases e:w.2 with
   | false=>
    rw[s.no e];rw[e]at d;exact a.new q o (by rw[t];simpa using d)
   | true=>
    obtain⟨f,-,-,g,D⟩:=s.yes e;rw[e,C8 rfl]at d;have A:q<k.Machine.Table.Entries.length:=ω
    rw[g];by_cases E:(q:Int)=p+(i:Nat)
    ·rw[C8 E]
     refine⟨rfl,λu B c b=>?_⟩;rw[g]at c b;by_cases l:(u:Int)=p+(i:Nat)
     ·omega
     ·rw[C7 l]at c b
      exact absurd b (D u (by rw[a.len];exact B) c)
    ·rw[C7 E]
     obtain⟨F,K⟩:=a.new q o ω;refine⟨F,λu B c b=>?_⟩;rw[g]at c b;by_cases l:(u:Int)=p+(i:Nat)
     ·rw[C8 l]at b
      exact absurd b.symm (D q (by rw[a.len];exact A) (by rw[F];decide))
     ·rw[C7 l]at c b
      exact K u B c b
theorem ng.undo{k:af}{p:Int}{i:Nat}{r:af × Nat}(s:ng k p i r)(h:aB k=true)(d:0<=p/\p+i<=k.Machine.Table.Entries.length)(e:∀q:Nat,p<=q->(q:Int)<p+i->(nth k.Machine.Table.Entries q).Mode=0):aB (dR r.1 p r.2)=true/\tEq k.Machine.Table (dR r.1 p r.2).Machine.Table:=by
 have f:=s.le;have g:=lE s.ker d.1 r.2 (by rw[s.len];omega);refine⟨kq s.ker p r.2,((iv r.1 p r.2).1).trans s.len,λq=>?_⟩;rw[g];split
 ·rename_i a
  have c:=e q a.1 ω;obtain⟨-,-,j,-⟩:=aF.1 h;have b:=(bw.1 j).1 q ω;unfold jT at b;rw[C0]at b;exact⟨⟨λz=>absurd rfl z,λz=>absurd c z⟩,(b.2.2.1 c).symm⟩
 ·rename_i a
  rw[s.out q a];exact⟨Iff.rfl,rfl⟩
theorem Pg.add{t h:aH}{O r:List aA}{sp b:List au}{la d:List a8}{p:Int}{n:Nat}(i:Pg t O sp la)(E:h.Entries.length=t.Entries.length)(S:p+n<=t.Entries.length)(hp:0<=p)(j:∀q:Nat,¬(p<=q/\(q:Int)<p+n)->nth h.Entries q=nth t.Entries q)(a:∀q:Nat,p<=q->(q:Int)<p+n->(nth h.Entries q).Mode=2/\∀u:Nat,u<t.Entries.length->(nth h.Entries u).Mode≠0->(nth h.Entries u).Frame=(nth h.Entries q).Frame->u=q)(J:∀q,RH r q↔RH O q/\¬(p<=q/\q<p+n))(F:∀q,q∈pgs b d↔q∈pgs sp la\/(p<=q/\q<p+n))(w:∀s∈b,0<=s.Page/\(s∈sp\/(p<=s.Page/\s.Page<p+n)))(K:∀l∈d,l∈la\/∀q∈lpgs l l.Pages.toNat,p<=q/\q<p+n):Pg h r b d:=by
 have f:∀q:Nat,q<t.Entries.length->((nth h.Entries q).Mode≠0↔(q:Int)∈pgs b d):=λq c=>by
  rw[F];by_cases e:p<=q/\(q:Int)<p+n
  ·have:=(a q e.1 e.2).1
   exact⟨λ_=>.inr e,λ_=>by rw[this];decide⟩
  ·rw[j q e,i.own q c]
   exact⟨.inl,λz=>z.resolve_right e⟩
 refine⟨λl A q c u k L G=>?_,λq c=>?_,λq c=>f q (by rw[<-E];exact c),λq c=>?_,λs P u k M H=>?_⟩
 ·rw[E]at k
  have B:=fm (sp:=b) A c;have C:q<t.Entries.length:=by
   rcases(F _).1 B with g|g
   ·have:=i.bnd _ g;omega
   ·omega
  by_cases e:p<=q/\(q:Int)<p+n
  ·exact(a q e.1 e.2).2 u k L G
  ·have N:=(K l A).resolve_right λg=>e (g _ c)
   by_cases o:p<=u/\(u:Int)<p+n
   ·exact((a u o.1 o.2).2 q C ((f q C).2 B) G.symm).symm
   ·rw[j q e,j u o]at G
    rw[j u o]at L;exact i.one l N q c u k L G
 ·rw[E]
  rcases(F _).1 c with g|g
  ·exact i.bnd _ g
  ·omega
 ·rw[E]at c
  rw[J];by_cases e:p<=q/\(q:Int)<p+n
  ·have:=(a q e.1 e.2).1
   exact⟨λ_ z=>z.2 e,λ_=>by rw[this];decide⟩
  ·rw[j q e,i.fre q c]
   exact⟨λz y=>z y.1,λz y=>z ⟨y,e⟩⟩
 ·obtain⟨T,U⟩:=w s P
  obtain⟨V,W⟩:=w u k;have D:∀y∈b,0<=y.Page->y.Page.toNat<t.Entries.length/\((y.Page.toNat:Nat):Int)=y.Page/\(nth h.Entries y.Page.toNat).Mode≠0:=λy X Y=>by
   have g:=d8 (la:=d) X;have Q:y.Page.toNat<t.Entries.length:=by
    rcases(F _).1 g with R|R
    ·have:=i.bnd _ R;omega
    ·omega
   exact⟨Q,ω,(f _ Q).2 (by rw[show((y.Page.toNat:Nat):Int)=y.Page by omega];exact g)⟩
  obtain⟨Z,sc,sd⟩:=D s P T;obtain⟨ub,uc,ud⟩:=D u k V;by_cases es:p<=s.Page/\s.Page<p+n
  ·have:=(a s.Page.toNat ω ω).2 _ ub ud H.symm
   omega
  ·by_cases o:p<=u.Page/\u.Page<p+n
   ·have:=(a u.Page.toNat ω ω).2 _ Z sd H
    omega
   ·rw[j _ ω,j _ ω]at H
    exact i.mesh s (U.resolve_right es) u (W.resolve_right o) M H
theorem Bw{sp a:List au}{la b:List a8}(c:a.Perm sp)(d:b.Perm la):(pgs a b).Perm (pgs sp la):=by
 unfold pgs;exact(c.map _).append (d.flatMap_right _)
def Hy(p:Int)(s:au):Bool:=decide (p<=s.Page)
def MD(p:Int)(l:a8):Bool:=decide (p<=l.Page)
def addS(h:ab)(k:af)(a:List aA)(p c:Int):ab:={h with Kernel:=k,Free:=a,Spans:=jg (Hy p) h.Spans ⟨p,c,0⟩}
theorem kH{h:ab}{E:List Int}(a:bp h E){n:Int}(j:1<=n)(k:(a7 h.Free n).2.2=true):0<=(a7 h.Free n).2.1/\(a7 h.Free n).2.1+n<=(tbl h).Entries.length/\(∀q:Nat,(a7 h.Free n).2.1<=q->(q:Int)<(a7 h.Free n).2.1+n->(nth (tbl h).Entries q).Mode=0)/\∀q:Int,(a7 h.Free n).2.1<=q->q<(a7 h.Free n).2.1+n->q∉pgs h.Spans h.Larges:=by
 obtain⟨r,l,f,t,o⟩:=mz a.rng j k;have g:∀q:Nat,(a7 h.Free n).2.1<=q->(q:Int)<(a7 h.Free n).2.1+n->(nth (tbl h).Entries q).Mode=0:=λq b c=>by
  have d:q<(tbl h).Entries.length:=by
   have:(a7 h.Free n).2.1+n<=((tbl h).Entries.length:Nat):=f;omega
  by_cases e:(nth (tbl h).Entries q).Mode=0
  ·exact e
  ·exact absurd (o q b c) ((a.pg.fre q d).1 e)
 refine⟨l,f,g,λq b c i=>?_⟩;have u:=a.pg.bnd q i;obtain⟨m,rfl⟩:=I2 (show 0<=q by omega);have p:=(a.pg.own m ω).2 i;exact p (g m b c)
theorem bp.addS{h:ab}{E:List Int}{c:Int}(a:bp h E)(H:0<=c/\c<=3)(F:(a7 h.Free 1).2.2=true){k:af}(s:Au h.Kernel (a7 h.Free 1).2.1 (k,true)):bp (addS h k (a7 h.Free 1).1 (a7 h.Free 1).2.1 c) E:=by
 obtain⟨U,G,r3,J,r5⟩:=mz a.rng (t4 _) F;obtain⟨-,V,u3,W⟩:=kH a (t4 _) F;generalize (a7 h.Free 1).2.1=p at G r3 J r5 V u3 W s |-;generalize (a7 h.Free 1).1=fr at U J |-;obtain⟨f,f1,f2,K,f4⟩:=s.yes rfl;have M:=(bw.1 (aF.1 a.ker).2.2.1).2.2;change (tbl h).Entries.length<=32 at M;have X:=a.L;have N:=jK (Hy p) h.Spans ⟨p,c,0⟩;have O:=Bw N (List.Perm.refl h.Larges);have w:(pgs (jg (Hy p) h.Spans ⟨p,c,0⟩) h.Larges).Perm (p::pgs h.Spans h.Larges):=O;have B:p∉pgs h.Spans h.Larges:=W p (t4 _) ω;have P:∀z∈h.Spans,z.Page≠p:=λz g e=>B (by rw[<-e];exact d8 g)
 have i:∀b d,jl (jg (Hy p) h.Spans ⟨p,c,0⟩) b d↔jl h.Spans b d:=λb d=>by
  constructor
  ·rintro⟨s,C,A,Q⟩
   rcases dn.1 C with rfl|C
   ·exact absurd A (zV rfl b)
   ·exact⟨s,C,A,Q⟩
  ·rintro⟨s,C,A⟩
   exact⟨s,dn.2 (.inr C),A⟩
 exact {a with
   ker:=s.ker
   rng:=by show bv ((k.Machine.Table.Entries.length:Nat):Int) fr=true;rw[s.len];exact U
   lay:=by
     obtain⟨l1,l2,l3⟩:=cZ a.lay;unfold bc;simp only[I0,C0];refine⟨⟨I3.2 λz g=>?_,l2⟩,w.nodup_iff.2 (List.nodup_cons.2 ⟨B,l3⟩)⟩;rcases dn.1 g with rfl|g
     · have R:0<=lim c:=by
         have:=(fY H).1;obtain rfl|rfl|rfl|rfl:c=0\/c=1\/c=2\/c=3:=ω
         all_goals decide
       exact O0 ⟨G,by show p<=31;omega,H.1,H.2,t4 _,R⟩
     · exact X.sok z g
   srs:=kL (f:=λz:au=>z.Page) (y:=⟨p,c,0⟩) a.srs P
   pg:=by
     refine a.pg.add (p:=p) (n:=1) s.len (by exact V) G (λq Y=>?_) (λq q1 q2=>?_) (λq=>J q) (λq=>?_) (λz g=>?_) (λl hl=>.inl hl)
     · exact(K q).trans (C7 ω)
     · have Y:(q:Int)=p:=ω
       have Z:nth k.Machine.Table.Entries q = ⟨2,(f:Nat)⟩:=(K q).trans (C8 Y);refine⟨T0 bg.Mode Z,λu S t r=>?_⟩;have fu:nth k.Machine.Table.Entries u=if(u:Int)=p then⟨2,(f:Nat)⟩ else nth h.Kernel.Machine.Table.Entries u:=K u
       change (nth k.Machine.Table.Entries u).Mode≠0 at t;change (nth k.Machine.Table.Entries u).Frame=(nth k.Machine.Table.Entries q).Frame at r;rw[fu]at t r;rw[Z]at r;by_cases eu:(u:Int)=p
       · omega
       · rw[C7 eu]at t r
         exact absurd r (f4 u S t)
     · show q∈pgs (jg (Hy p) h.Spans ⟨p,c,0⟩) h.Larges↔_
       rw[w.mem_iff,List.mem_cons];constructor
       · rintro(e|e)
         · exact .inr ⟨ω,ω⟩
         · exact .inl e
       · rintro(e|e)
         · exact .inr e
         · exact .inl ω
     · rcases dn.1 g with rfl|g
       · exact⟨G,.inr ⟨t4 _,by show p<p+((1:Nat):Int);omega⟩⟩
       · exact⟨(aE (X.sok z g)).1,.inl g⟩
   oow:=λo F=>by
     rcases a.oow o F with⟨z,g,A,Q⟩|A
     · exact .inl ⟨z,dn.2 (.inr g),A,Q⟩
     · exact .inr A
   hca:=λd hd j hj b D=>(i b j).2 (a.hca d hd j hj b D)
   hqu:=λy T=>(i _ _).2 (a.hqu y T)
   hfl:=λb D=>(i _ _).2 (a.hfl b D)
   hin:=λb D=>(i _ _).2 (a.hin b D)
   mem:=λb=>(a.mem b).trans (by
     show Live h.Spans h.Larges b↔Live (jg (Hy p) h.Spans ⟨p,c,0⟩) h.Larges b;unfold Live;rw[i])
   job:=λhm=>by
     obtain⟨j1,⟨y,T,e1⟩,⟨u,S,e2⟩⟩:=a.job hm;exact⟨j1,⟨y,dn.2 (.inr T),e1⟩,⟨u,dn.2 (.inr S),e2⟩⟩}
def addL(h:ab)(k:af)(a:List aA)(p n size t:Int):ab:={h with Kernel:=k,Free:=a,Larges:=jg (MD p) h.Larges ⟨p,n,size⟩,Objs:=jg (KX (16*p)) h.Objs ⟨h.Next,16*p,size,t⟩,Next:=h.Next+1}
theorem bp.addL{h:ab}{E:List Int}{size t:Int}{n:Nat}(a:bp h E)(g:9<=size/\size<=1000)(J:(n:Int)=(size+15) / 16)(i:(a7 h.Free n).2.2=true){k:af}(s:ng h.Kernel (a7 h.Free n).2.1 n (k,n))(hn:h.Next<1000000)(ht:0<=t/\t<=h.Caches.length - 1) :
  bp (addL h k (a7 h.Free n).1 (a7 h.Free n).2.1 n size t) E:=by
 have B:(1:Int)<=n:=ω
 obtain⟨V,K,r3,M,r5⟩:=mz a.rng B i;obtain⟨-,W,u3,H⟩:=kH a B i;generalize (a7 h.Free n).2.1=p at K r3 M r5 W u3 H s |-;generalize (a7 h.Free n).1=fr at V M |-;have N:=(bw.1 (aF.1 a.ker).2.2.1).2.2;change (tbl h).Entries.length<=32 at N;have O:=a.L;have P:=jK (MD p) h.Larges ⟨p,n,size⟩;have C:=jK (KX (16*p)) h.Objs ⟨h.Next,16*p,size,t⟩;have Q:lpgs ⟨p,n,size⟩ ((n:Nat):Int).toNat=lpgs ⟨p,n,size⟩ n:=by rw[C2]
 have D:(pgs h.Spans (jg (MD p) h.Larges ⟨p,n,size⟩)).Perm (lpgs ⟨p,n,size⟩ n++pgs h.Spans h.Larges):=by
  refine(Bw (List.Perm.refl h.Spans) P).trans ?_;unfold pgs;rw[v5];simp only[Q];rw[<-Q4,<-Q4];exact List.perm_append_comm.append_right _
 have u:∀q,q∈lpgs ⟨p,n,size⟩ n↔p<=q/\q<p+n:=λq=>by
  rw[di];constructor
  ·rintro⟨j,hj,rfl⟩;exact⟨by show p<=p+(j:Int);omega,by show p+(j:Int)<_;omega⟩
  ·rintro⟨X,Y⟩;exact⟨(q - p).toNat,ω,by show q=p+_;omega⟩
 have R:(lpgs ⟨p,n,size⟩ n).Nodup:=by
  unfold lpgs List.Nodup;rw[List.pairwise_map];exact List.nodup_range.imp λr e=>r (by simp only at e;omega)
 have r:∀z∈h.Larges,z.Page≠p:=λz g e=>H p (t4 _) ω (by rw[<-e];exact fm g (di.2 ⟨0,by have:=aR (O.lok z g);omega,ω⟩))
 have S:¬Live h.Spans h.Larges (16*p):=by
  rintro(⟨z,g,d,-⟩|⟨l,c,e⟩)
  ·exact H p (t4 _) ω (by rw[show p=z.Page by have a1:=d.1;have a2:=d.2.1;omega];exact d8 g)
  ·exact r l c ω
 have F:(16*p)∉E++holders h:=λT=>S ((a.mem _).1 T)
 have U:∀o∈h.Objs,o.Addr≠16*p:=λo i e=>F (O2.2 (.inr (by unfold holders;simp only[O2];exact .inl (.inl (.inl (T3.2 ⟨o,i,e⟩))))))
 have Z:(E++holders (Ab.addL h k fr p n size t)).Perm ((16*p)::(E++holders h)):=by
  have h0:=C.map (·.Addr);refine List.perm_iff_count.2 λb=>?_
  have d:=h0.count_eq b;simp only[U4,List.count_cons]at d;simp only[holders,bQ,Ab.addL,V4,List.count_cons];omega
 exact {a with
   ker:=s.ker
   rng:=by show bv ((k.Machine.Table.Entries.length:Nat):Int) fr=true;rw[s.len];exact V
   lay:=by
     obtain⟨l1,l2,l3⟩:=cZ a.lay;unfold bc;simp only[I0,C0];refine⟨⟨l1,I3.2 λz w=>?_⟩,D.nodup_iff.2 (List.nodup_append.2 ⟨R,l3,λq G b hb e=>?_⟩)⟩
     · rcases dn.1 w with rfl|w
       · exact O0 ⟨g.1,g.2,J,K,by show p<=32 - (n:Int);omega⟩
       · exact O.lok z w
     · subst e
       have:=(u q).1 G;exact H q this.1 this.2 hb
   srl:=kL (f:=λz:a8=>z.Page) (y:=⟨p,n,size⟩) a.srl r
   pg:=by
     refine a.pg.add (p:=p) (n:=n) s.len (by exact W) K (λq G=>s.out q G) (λq X Y=>s.new q X Y) (λq=>M q) (λq=>?_) (λz g=>⟨(aE (O.sok z g)).1,.inl g⟩) (λl c=>?_)
     · show q∈pgs h.Spans (jg (MD p) h.Larges ⟨p,n,size⟩)↔_
       rw[D.mem_iff,O2,u];exact Or.comm
     · rcases dn.1 c with rfl|c
       · exact .inr λq G=>(u q).1 (by simpa using G)
       · exact .inl c
   nums:=yL a.nums hn
   osr:=kL (f:=λo:bB=>o.Addr) (y:=⟨h.Next,16*p,size,t⟩) a.osr U
   onu:=λo i=>by
     rcases dn.1 i with rfl|i
     · have:=a.nums
       unfold cb at this;rw[C0]at this;exact⟨by show 1<=h.Next;omega,by show h.Next<=h.Next+1 - 1;omega,ht⟩
     · have:=a.onu o i
       exact⟨this.1,by show o.Id<=h.Next+1 - 1;omega,this.2.2⟩
   oid:=by
     show((jg (KX (16*p)) h.Objs ⟨h.Next,16*p,size,t⟩).map (·.Id)).Nodup;rw[(C.map _).nodup_iff,U4];refine List.nodup_cons.2 ⟨λT=>?_,a.oid⟩;obtain⟨o,i,e⟩:=T3.1 T;have:=(a.onu o i).2.1;simp only at e;omega
   oow:=λo A=>by
     rcases dn.1 A with rfl|A
     · exact .inr ⟨_,dn.2 (.inl rfl),rfl,rfl⟩
     · rcases a.oow o A with d|⟨l,c,d⟩
       · exact .inl d
       · exact .inr ⟨l,dn.2 (.inr c),d⟩
   nd:=Z.nodup_iff.2 (List.nodup_cons.2 ⟨F,a.nd⟩)
   mem:=λb=>by
     rw[Z.mem_iff,List.mem_cons,a.mem b];show _↔Live h.Spans (jg (MD p) h.Larges ⟨p,n,size⟩) b;unfold Live;constructor
     · rintro(rfl|d|⟨l,c,e⟩)
       · exact .inr ⟨_,dn.2 (.inl rfl),rfl⟩
       · exact .inl d
       · exact .inr ⟨l,dn.2 (.inr c),e⟩
     · rintro(d|⟨l,c,e⟩)
       · exact .inr (.inl d)
       · rcases dn.1 c with rfl|c
         · exact .inl e
         · exact .inr (.inr ⟨l,c,e⟩)}
structure JK(h h':ab):Prop where
 job:h'.Job=h.Job
 msh:h'.Meshing=h.Meshing
 sp:∀s∈h.Spans,gt h s.Page=true->∃s'∈h'.Spans,s'.Page=s.Page/\∀u,meshable s u=true->meshable s' u=true
 ent:∀q:Nat,(nth (tbl h').Entries q).Mode≠0->((nth (tbl h).Entries q).Mode≠0/\(nth (tbl h').Entries q).Frame=(nth (tbl h).Entries q).Frame)\/∀u:Nat,(nth (tbl h').Entries u).Mode≠0->(nth (tbl h').Entries u).Frame=(nth (tbl h').Entries q).Frame->u=q
theorem JK.refl(h:ab):JK h h:=⟨rfl,rfl,λs a _=>⟨s,a,rfl,λ_ z=>z⟩,λ_ b=>.inl ⟨b,rfl⟩⟩
theorem JK.pg{h h':ab}(k:JK h h')(p:Int):gt h' p=gt h p:=by unfold gt;rw[k.job,k.msh]
theorem JK.trans{h h1 g:ab}(a:JK h h1)(b:JK h1 g):JK h g:=by
 refine⟨b.job.trans a.job,b.msh.trans a.msh,λs o i=>?_,λq j=>?_⟩
 ·obtain⟨p,r,k,t⟩:=a.sp s o i
  obtain⟨w,y,A,B⟩:=b.sp p r (by rw[a.pg,k];exact i);exact⟨w,y,A.trans k,λu c=>B u (t u c)⟩
 ·rcases b.ent q j with⟨d,l⟩|d
  ·rcases a.ent q d with⟨e,C⟩|e
   ·exact .inl ⟨e,l.trans C⟩
   ·refine .inr λu c n=>?_
    rcases b.ent u c with⟨f,D⟩|f
    ·exact e u f (by rw[<-D,<-l];exact n)
    ·exact(f q j n.symm).symm
  ·exact .inr d
theorem nY.keep{h h':ab}{p:Int}(f:0<=p)(d:(nth (tbl h').Entries p.toNat).Mode≠0)(g:nY (tbl h) p)(k:JK h h'):nY (tbl h') p:=λq e c=>by
 rcases k.ent p.toNat d with⟨n,i⟩|a
 ·rcases k.ent q e with⟨j,l⟩|b
  ·exact g q j (by rw[<-l,c,i])
  ·have:=b p.toNat d c.symm;omega
 ·have:=a q e c;omega
theorem bp.mapped{h:ab}{E:List Int}(a:bp h E){s:au}(b:s∈h.Spans):0<=s.Page/\s.Page<(tbl h).Entries.length/\(nth (tbl h).Entries s.Page.toNat).Mode≠0:=by
 have c:=(aE (a.L.sok s b)).1;have d:=a.pg.bnd _ (d8 (la:=h.Larges) b);refine⟨c,d,(a.pg.own s.Page.toNat ω).2 ?_⟩;rw[show((s.Page.toNat:Nat):Int)=s.Page by omega];exact d8 b
theorem JI.keep{h h':ab}{E:List Int}(l:JI h)(p:bp h' E)(k:JK h h'):JI h':=by
 have d:h.Meshing=true->∃a∈h'.Spans,∃b∈h'.Spans,a.Page=h.Job.Plan.Keep/\b.Page=h.Job.Plan.Move/\meshable a b=true:=λc=>by
  obtain⟨a,n,b,o,f,g,e⟩:=l.sp c;obtain⟨q,t,u,w⟩:=k.sp a n (by unfold gt;rw[c,f];simp);obtain⟨y,A,B,C⟩:=k.sp b o (by unfold gt;rw[c,g];simp);refine⟨q,t,y,A,u.trans f,B.trans g,?_⟩;have r:=w b e;rw[iK]at r |-;exact C q r
 refine⟨λc=>?_,λc=>?_,λc=>?_,λc=>?_⟩
 ·rw[k.msh]at c;rw[k.job];exact l.ph c
 ·rw[k.msh]at c;rw[k.job];exact d c
 ·rw[k.msh]at c
  obtain⟨a,n,b,o,f,g,e⟩:=d c;obtain⟨i,D,j⟩:=p.mapped n;rw[k.job];rw[f]at i j;exact(l.sk c).keep i j k
 ·rw[k.msh]at c
  obtain⟨a,n,b,o,f,g,e⟩:=d c;obtain⟨i,D,j⟩:=p.mapped o;rw[k.job];rw[g]at i j;exact(l.sm c).keep i j k
theorem JK.less{h h':ab}(h1:h'.Job=h.Job)(c:h'.Meshing=h.Meshing)(d:h'.Spans=h.Spans)(b:∀q:Nat,(nth (tbl h').Entries q).Mode≠0->nth (tbl h').Entries q=nth (tbl h).Entries q):JK h h':=
 ⟨h1,c,λs e _=>⟨s,by rw[d];exact e,rfl,λ_ z=>z⟩,λq a=>.inl ⟨by rw[<-b q a];exact a,by rw[b q a]⟩⟩
theorem JK.eq{h h':ab}(h1:h'.Job=h.Job)(a:h'.Meshing=h.Meshing)(b:h'.Spans=h.Spans)(c:tbl h'=tbl h):JK h h':=.less h1 a b λq _=>by rw[c]
theorem JK.clrS{h:ab}{E:List Int}{a:Int}{i:Nat}(f:bp h E)(c:i<h.Spans.length)(d:eP (nth h.Spans i) a):JK h (clrS h i a):=by
 refine⟨rfl,rfl,λs g _=>?_,λq k=>.inl ⟨k,rfl⟩⟩;obtain⟨j,l,rfl⟩:=aZ g;by_cases e:j=i
 ·subst e
  have b:=f.L.sok _ (am c);exact⟨_,iq _ c,rfl,λu n=>rF b (sG b ⟨d.1,d.2.1⟩) n⟩
 ·exact⟨_,iX _ l e,rfl,λ_ z=>z⟩
theorem JK.giveP{h:ab}{E:List Int}{i:Nat}(d:bp h E)(f:i<h.Spans.length)(c:gt h (nth h.Spans i).Page=false):JK h (giveP h i):=by
 obtain⟨g,k,-⟩:=d.mapped (am f);refine⟨rfl,rfl,λs l a=>?_,λq b=>.inl ?_⟩
 ·obtain⟨j,n,rfl⟩:=aZ l
  exact⟨_,eg.2 ⟨j,n,λe=>(by subst e;rw[c]at a;cases a),rfl⟩,rfl,λ_ z=>z⟩
 ·have o:=uN d.ker (p:=(nth h.Spans i).Page) ⟨g,k⟩ q
  change (nth (dM h.Kernel (nth h.Spans i).Page).Machine.Table.Entries q).Mode≠0 at b;show(nth h.Kernel.Machine.Table.Entries q).Mode≠0/\(nth (dM h.Kernel (nth h.Spans i).Page).Machine.Table.Entries q).Frame=(nth h.Kernel.Machine.Table.Entries q).Frame;rw[o]at b |-;split at b
  ·exact absurd rfl b
  ·rename_i e
   rw[C7 e];exact⟨b,rfl⟩
theorem JK.freeS{h:ab}{E:List Int}{a:Int}{i:Nat}(c:bp h (a::E))(b:i<h.Spans.length)(d:eP (nth h.Spans i) a):JK h (freeS h i a):=by
 have g:=c.give b d;have f:=JK.clrS c b d;unfold Ab.freeS;split
 ·rename_i e
  have j:nth (Ab.clrS h i a).Spans i=mt (nth h.Spans i) (dX (nth h.Spans i) a):=by unfold Ab.clrS;simp only[cu,true_and];rw[C8 b]
  exact f.trans (JK.giveP (h:=Ab.clrS h i a) g (by unfold Ab.clrS;simp only[C1];exact b) (by rw[j];exact e.2))
 ·exact f
theorem JK.freeA{h:ab}{E:List Int}{a:Int}(b:bp h (a::E)):JK h (freeA h a):=by
 obtain⟨c,d,-⟩:=b.at (b.hin a (O1 ..));exact JK.freeS b c d
theorem JK.recyc{h:ab}{E:List Int}{a:Int}{t:Nat}(b:bp h (a::E)):JK h (recyc t h a):=by
 unfold Ab.recyc;split
 ·exact JK.eq rfl rfl rfl rfl
 ·exact JK.freeA b
theorem JK.recycs{t:Nat}{E:List Int} : ∀{az:List Int}{h:ab},bp h (az++E)->t<h.Caches.length->JK h (recycs t h az)
 | [],h,_,_=>JK.refl h
 | a::az,h,b,c=>(JK.recyc (t:=t) b).trans (JK.recycs (az:=az) (h:=Ab.recyc t h a) (b.recyc c) (by rw[(pM t h a).1];exact c))
theorem JK.freeAs{E:List Int} : ∀{az:List Int}{h:ab},bp h (az++E)->JK h (freeAs h az)
 | [],h,_=>JK.refl h
 | a::az,h,b=>(JK.freeA b).trans (JK.freeAs (az:=az) (h:=Ab.freeA h a) b.freeA)
theorem JK.flushN{t:Nat}{h:ab}(c:bp h [])(d:t<h.Caches.length):∀{k:Nat},k<=4->JK h (flushN t h k).1
 | 0,_=>JK.refl h
 | k+1,e=>by
  obtain⟨h1,f,-⟩:=jX c d (k:=k) ω;have a:t<(Ab.flushN t h k).1.Caches.length:=ω
  have b:k<(nth (Ab.flushN t h k).1.Caches t).Lists.length:=by rw[(ep (h1.cach _ (am a))).1];omega
  exact JK.trans (h1:=Ab.spilt (Ab.flushN t h k).1 t k) ((JK.flushN c d (k:=k) ω).trans (JK.eq rfl rfl rfl rfl)) (JK.freeAs (h1.spilt a b))
theorem Ac{h:ab}{E:List Int}(a:bp h E){k:Nat}(b:k<h.Larges.length):0<=(nth h.Larges k).Page/\(nth h.Larges k).Page+((nth h.Larges k).Pages.toNat:Nat)<=(tbl h).Entries.length:=by
 have c:=aR (a.L.lok _ (am b));have d:=a.pg.bnd _ (fm (sp:=h.Spans) (am b) (di.2 ⟨(nth h.Larges k).Pages.toNat - 1,ω,rfl⟩));exact⟨ω,ω⟩
theorem JK.freeL{h:ab}{E:List Int}{i k:Nat}(b:bp h E)(c:k<h.Larges.length):JK h (freeL h i k):=by
 obtain⟨d,f⟩:=Ac b c;refine JK.less rfl rfl rfl λq a=>?_
 have g:=lE b.ker d (nth h.Larges k).Pages.toNat f q;change (nth (dR h.Kernel (nth h.Larges k).Page (nth h.Larges k).Pages.toNat).Machine.Table.Entries q).Mode≠0 at a;show nth (dR h.Kernel (nth h.Larges k).Page (nth h.Larges k).Pages.toNat).Machine.Table.Entries q=nth h.Kernel.Machine.Table.Entries q;rw[g]at a |-;split at a
 ·exact absurd rfl a
 ·rename_i e;rw[C7 e]
theorem JK.freeOb{h:ab}{t i:Nat}(a:bp h [])(c:i<h.Objs.length)(d:t<h.Caches.length):JK h (freeOb h t i).1:=by
 unfold Ab.freeOb;split
 ·rename_i b
  obtain⟨l,e,h1,-⟩:=(eO a (am c)).1 b;exact JK.freeL a (zD e h1).1
 ·rename_i b
  split
  ·exact JK.refl h
  ·have h1:=a.inQuar c b
   exact JK.trans (h1:=Ab.inQuar h i) (JK.eq rfl rfl rfl rfl) (JK.recycs (E:=[]) (by rw[List.append_nil];exact h1) d)
theorem JK.take{h:ab}{i:Nat}{k sd:Int}(b:gt h (nth h.Spans i).Page=false):JK h {h with Seed:=sd,Spans:=h.Spans.set i (pQ (nth h.Spans i) k)}:=by
 refine⟨rfl,rfl,λs c a=>?_,λq d=>.inl ⟨d,rfl⟩⟩;obtain⟨j,f,rfl⟩:=aZ c;exact⟨_,iX _ f λe=>(by subst e;rw[b]at a;cases a),rfl,λ_ z=>z⟩
theorem yP{t:aH}{q:Nat}(h:(nth t.Entries q).Mode≠0):q<t.Entries.length:=by
 by_cases e:q<t.Entries.length
 ·exact e
 ·exfalso
  apply h;unfold nth;rw[Z1,W1 ω]
  rfl
theorem JK.addS{h:ab}{k:af}{l:List aA}{p c:Int}(s:Au h.Kernel p (k,true)):JK h (addS h k l p c):=by
 obtain⟨f,t,w,d,n⟩:=s.yes rfl;have b:k.Machine.Table.Entries.length=h.Kernel.Machine.Table.Entries.length:=s.len;refine⟨rfl,rfl,λz o _=>⟨z,dn.2 (.inr o),rfl,λ_ y=>y⟩,λq g=>?_⟩;change (nth k.Machine.Table.Entries q).Mode≠0 at g;show((nth h.Kernel.Machine.Table.Entries q).Mode≠0/\(nth k.Machine.Table.Entries q).Frame=(nth h.Kernel.Machine.Table.Entries q).Frame)\/∀u:Nat,(nth k.Machine.Table.Entries u).Mode≠0->(nth k.Machine.Table.Entries u).Frame=(nth k.Machine.Table.Entries q).Frame->u=q
 by_cases e:(q:Int)=p
 ·refine .inr λu i a=>?_
  have j:=yP i;have f3u:=d u;have f3q:=d q;simp only at f3u f3q;rw[C8 e]at f3q;rw[f3q]at a;by_cases r:(u:Int)=p
  ·omega
  ·rw[C7 r]at f3u
   rw[f3u]at i a;exact absurd a (n u (by rw[<-b];exact j) i)
 ·have f3q:=d q
  simp only at f3q;rw[C7 e]at f3q;rw[f3q]at g |-;exact .inl ⟨g,rfl⟩
theorem JK.addL{h:ab}{k:af}{g:List aA}{p size t:Int}{n:Nat}(s:ng h.Kernel p n (k,n)):JK h (addL h k g p n size t):=by
 have a:k.Machine.Table.Entries.length=h.Kernel.Machine.Table.Entries.length:=s.len;refine⟨rfl,rfl,λz i _=>⟨z,i,rfl,λ_ y=>y⟩,λq b=>?_⟩;change (nth k.Machine.Table.Entries q).Mode≠0 at b;show((nth h.Kernel.Machine.Table.Entries q).Mode≠0/\(nth k.Machine.Table.Entries q).Frame=(nth h.Kernel.Machine.Table.Entries q).Frame)\/∀u:Nat,(nth k.Machine.Table.Entries u).Mode≠0->(nth k.Machine.Table.Entries u).Frame=(nth k.Machine.Table.Entries q).Frame->u=q
 by_cases e:p<=q/\(q:Int)<p+n
 ·exact .inr λu d c=>(s.new q e.1 e.2).2 u (by rw[<-a];exact yP d) d c
 ·have f:=s.out q e
  simp only at f;rw[f]at b |-;exact .inl ⟨b,rfl⟩
theorem rX(h:ab):∀{n:Nat},n<=h.Spans.length->∀s∈kB h n,(aO h s.Page).length=1
 | 0,_,s,a=>by cases a
 | n+1,b,s,a=>by
  unfold kB at a;split at a
  ·rename_i e
   rcases O2.1 a with a|a
   ·exact rX h ω s a
   ·unfold yN at e
    simp only[I0,C0]at e;rw[Z0.1 a];exact e.2
  ·exact rX h ω s a
theorem bp.sole{h:ab}{E:List Int}(e:bp h E){s:au}(f:s∈h.Spans)(h1:(aO h s.Page).length=1):nY (tbl h) s.Page:=λq a g=>by
 obtain⟨k,l,b⟩:=e.mapped f;have i:s.Page=((s.Page.toNat:Nat):Int):=ω
 rw[i,ew (by show s.Page.toNat<(tbl h).Entries.length;omega) b]at h1;obtain⟨z,j⟩:=List.length_eq_one_iff.1 h1;have c:(s.Page.toNat:Int)∈pagesOn (tbl h) (nth (tbl h).Entries s.Page.toNat).Frame:=d9.2 ⟨ω,b,rfl⟩;have d:(q:Int)∈pagesOn (tbl h) (nth (tbl h).Entries s.Page.toNat).Frame:=d9.2 ⟨yP a,a,g⟩;rw[j]at c d;simp only[Z0]at c d;omega
theorem Ej{h:ab}(l:bp h [])(n:h.Meshing=false):bp (started h).1 []/\JI (started h).1:=by
 have G:=l.nums;unfold cb at G;rw[C0]at G;have M:=(ly (bM h).length (show 0<=h.Seed/\h.Seed<=1073741823 by omega) ((bM h).length - 1)).2;have o:=pZ (bM h) (show 0<=h.Seed/\h.Seed<=1073741823 by omega);have c:cb {h with Seed:=(shuf (bM h).length h.Seed).2} = true:=by
  unfold cb;rw[C0];unfold shuf;simp only;omega
 cases p:mE (bM h) h.Seed with
 | nil=>
  have f:Ab.started h=({h with Seed:=(shuf (bM h).length h.Seed).2},false):=by unfold Ab.started;rw[p]
  rw[f];exact⟨{l with nums:=c},⟨λe=>by simp[n]at e,λe=>by simp[n]at e,λe=>by simp[n]at e,λe=>by simp[n]at e⟩⟩
 | cons q R=>
  obtain⟨S,T,g⟩:=o q (by rw[p];exact O1 ..);have f:Ab.started h=({h with Seed:=(shuf (bM h).length h.Seed).2,Meshing:=true,Job:=vi (dH (nth (bM h) q.A.toNat) (nth (bM h) q.B.toNat))},true):=by unfold Ab.started;rw[p]
  rw[f];have d:∀s∈bM h,s∈h.Spans/\nY (tbl h) s.Page:=λs N=>by
   have H:=List.mem_of_mem_take N;have J:=oz h (Q2 _) s H;exact⟨J,l.sole J (rX h (Q2 _) s H)⟩
  have j:=d _ (am (xs:=bM h) (i:=q.A.toNat) ω);have k:=d _ (am (xs:=bM h) (i:=q.B.toNat) ω);generalize nth (bM h) q.A.toNat=a at g j |-;generalize nth (bM h) q.B.toNat=b at g k |-;obtain⟨O,U,V⟩:=rL g;have r:(dH a b).Keep=a.Page/\(dH a b).Move=b.Page\/(dH a b).Keep=b.Page/\(dH a b).Move=a.Page:=by
   unfold dH;split
   ·exact .inr ⟨rfl,rfl⟩
   ·exact .inl ⟨rfl,rfl⟩
  have t:jf (vi (dH a b))=true:=fx.2 ⟨O,by show(0:Int)<=0;omega,by show(0:Int)<=5;omega,by show(0:Int)<=0;omega,by show(0:Int)<=(((dH a b).Cells.length:Nat):Int);omega⟩;have u:∃x∈h.Spans,∃y∈h.Spans,x.Page=(dH a b).Keep/\y.Page=(dH a b).Move/\meshable x y=true/\nY (tbl h) x.Page/\nY (tbl h) y.Page:=by
   rcases r with⟨w,C⟩|⟨w,C⟩
   ·exact⟨a,j.1,b,k.1,w.symm,C.symm,g,j.2,k.2⟩
   ·exact⟨b,k.1,a,j.1,w.symm,C.symm,by rw[iK];exact g,k.2,j.2⟩
  obtain⟨x,K,y,L,D,E,F,P,Q⟩:=u;exact⟨{l with nums:=c,job:=λ_=>⟨t,⟨x,K,D⟩,⟨y,L,E⟩⟩,noj:=λe=>by cases e},⟨λ_=>⟨by show(0:Int)<=0;omega,by show(0:Int)<=3;omega⟩,λ_=>⟨x,K,y,L,D,E,F⟩,λ_=>by show nY (tbl h) (dH a b).Keep;rw[<-D];exact P,λ_=>by show nY (tbl h) (dH a b).Move;rw[<-E];exact Q⟩⟩
def f9(m:aJ)(f:Nat):aJ:=⟨m.Buffers.set f ((nth m.Buffers f).drop 1),m.Inbox.set (nth (nth m.Buffers f) 0).To.toNat (nth m.Inbox (nth (nth m.Buffers f) 0).To.toNat++[(nth (nth m.Buffers f) 0).Addr])⟩
def ko(m:aJ)(t:Nat):aJ:=⟨m.Buffers,m.Inbox.set t []⟩
def gy(m:aJ)(f:Nat)(p:dd):aJ:=⟨m.Buffers.set f (nth m.Buffers f++[p]),m.Inbox⟩
theorem dG{m:aJ} : bz m=true↔(1<=m.Buffers.length/\m.Buffers.length<=4/\m.Inbox.length=m.Buffers.length)/\(∀i,i<m.Buffers.length->(∀p∈nth m.Buffers i,0<=p.To/\p.To<=(m.Buffers.length:Int) - 1/\0<=p.Addr)/\∀a∈nth m.Inbox i,0<=a)/\br m m.Buffers.length<=30:=by
 unfold bz;simp only[I0,C0,cn,gl,I3,mb,LT];exact and_assoc
theorem nj(m:aJ)(f t:Nat)(x:List dd)(y:List Int)(g:f<m.Buffers.length)(h:t<m.Inbox.length):∀n:Nat,br ⟨m.Buffers.set f x,m.Inbox.set t y⟩ n=br m n+(if f<n then(x.length:Int) - ((nth m.Buffers f).length:Nat) else 0)+(if t<n then(y.length:Int) - ((nth m.Inbox t).length:Nat) else 0)
 | 0=>by simp[br]
 | n+1=>by
  have i:=nj m f t x y g h n;have j:(nth (m.Buffers.set f x) n).length=if f=n then x.length else(nth m.Buffers n).length:=by
   rw[cu];by_cases e:f=n
   ·rw[C8 ⟨e,ω⟩,C8 e]
   ·rw[C7 λz=>e z.1,C7 e]
  have k:(nth (m.Inbox.set t y) n).length=if t=n then y.length else(nth m.Inbox n).length:=by
   rw[cu];by_cases e:t=n
   ·rw[C8 ⟨e,ω⟩,C8 e]
   ·rw[C7 λz=>e z.1,C7 e]
  simp only[br,i,j,k];by_cases d:f=n
  ·subst d
   by_cases b:t=f
   ·subst b
    simp only[if_true,Nat.lt_irrefl,if_false,Nat.lt_succ_self];omega
   ·simp only[if_true,Nat.lt_irrefl,if_false,Nat.lt_succ_self,C7 b]
    by_cases a:t<f
    ·rw[C8 a,C8 (show t<f+1 by omega)];omega
    ·rw[C7 a,C7 (show ¬t<f+1 by omega)];omega
  ·by_cases b:t=n
   ·subst b
    simp only[if_true,Nat.lt_irrefl,if_false,Nat.lt_succ_self,C7 d];by_cases a:f<t
    ·rw[C8 a,C8 (show f<t+1 by omega)];omega
    ·rw[C7 a,C7 (show ¬f<t+1 by omega)];omega
   ·simp only[C7 d,C7 b]
    by_cases a:f<n
    ·rw[C8 a,C8 (show f<n+1 by omega)]
     by_cases c:t<n
     ·rw[C8 c,C8 (show t<n+1 by omega)];omega
     ·rw[C7 c,C7 (show ¬t<n+1 by omega)];omega
    ·rw[C7 a,C7 (show ¬f<n+1 by omega)]
     by_cases c:t<n
     ·rw[C8 c,C8 (show t<n+1 by omega)];omega
     ·rw[C7 c,C7 (show ¬t<n+1 by omega)];omega
theorem Le{α:Type}[Inhabited α]{xs:List α}{i:Nat}(h:i<xs.length):xs.set i (nth xs i)=xs:=by
 rw[<-V1.1 (ah h) |>.2];exact List.set_getElem_self h
theorem BE{m:aJ}(h:bz m=true){f:Nat}(d:f<m.Buffers.length)(n:0<(nth m.Buffers f).length):bz (f9 m f)=true:=by
 obtain⟨⟨o,q,r⟩,g,y⟩:=dG.1 h;obtain⟨t,A⟩:=g f d;have c:=t _ (am n);have u:(nth (nth m.Buffers f) 0).To.toNat<m.Inbox.length:=ω
 refine dG.2 ⟨⟨?_,?_,?_⟩,λi j=>?_,?_⟩
 ·simp only[f9,C1];exact o
 ·simp only[f9,C1];exact q
 ·simp only[f9,C1];exact r
 ·simp only[f9,C1]at j |-
  obtain⟨k,l⟩:=g i j;simp only[cu];refine⟨λp c=>?_,λa b=>?_⟩
  ·split at c
   ·rename_i e;rw[<-e.1]at k
    refine(g f d).1 p (List.mem_of_mem_drop c)
   ·exact k p c
  ·split at b
   ·rename_i e
    rcases O2.1 b with b|b
    ·rw[e.1]at b;exact l a b
    ·rw[Z0.1 b];exact c.2.2
   ·exact l a b
 ·have w:=nj m f (nth (nth m.Buffers f) 0).To.toNat ((nth m.Buffers f).drop 1) (nth m.Inbox (nth (nth m.Buffers f) 0).To.toNat++[(nth (nth m.Buffers f) 0).Addr]) d u m.Buffers.length
  simp only[f9,C1];rw[w,C8 d,C8 ω,W2,U2,List.length_singleton];omega
theorem LI{m:aJ}(h:bz m=true){t:Nat}(d:t<m.Inbox.length):bz (ko m t)=true:=by
 obtain⟨⟨e,f,g⟩,j,o⟩:=dG.1 h;refine dG.2 ⟨⟨e,f,?_⟩,λi k=>?_,?_⟩
 ·simp only[ko,C1];exact g
 ·obtain⟨l,n⟩:=j i k
  simp only[ko,cu];refine⟨l,λa b=>?_⟩;split at b
  ·cases b
  ·exact n a b
 ·have c:=nj m t t (nth m.Buffers t) [] ω d m.Buffers.length
  rw[Le ω]at c;show br ⟨m.Buffers,m.Inbox.set t []⟩ m.Buffers.length<=30;rw[c,C8 ω,C8 ω,List.length_nil];omega
theorem jI{m:aJ}(h:bz m=true)(b:Int):(aC m).count b=(m.Buffers.flatMap λl=>l.map (·.Addr)).count b+(m.Inbox.flatMap λx=>x).count b:=by
 unfold aC;rw[C8 h,V4,jL]
theorem bp.mailed{h:ab}{E c:List Int}{m:aJ}(d:bp h E)(i:bz m=true)(j:m.Buffers.length=h.Mail.Buffers.length)(k:∀b,c.count b+(aC m).count b=E.count b+(aC h.Mail).count b)(f:∀a,a∈c\/a∈aC m->jl h.Spans a (-1)):bp {h with Mail:=m} c:=by
 have g:(E++holders h).Perm (c++holders {h with Mail:=m}):=by
  refine List.perm_iff_count.2 λb=>?_
  have l:=k b;simp only[holders,bQ,V4];omega
 exact {d with
   mail:=i
   nc:=d.nc.trans j.symm
   hfl:=λa e=>f a (.inr e)
   hin:=λa e=>f a (.inl e)
   nd:=g.nodup_iff.1 d.nd
   mem:=λb=>by rw[<-g.mem_iff];exact d.mem b}
theorem ET{h:ab}{E d:List Int}{m:aJ}(f:bp h E)(g:∀b,d.count b+(aC m).count b=E.count b+(aC h.Mail).count b):∀a,a∈d\/a∈aC m->jl h.Spans a (-1):=λa c=>by
 have i:=g a;have j:0<d.count a+(aC m).count a:=by
  rcases c with c|c
  ·have:=List.count_pos_iff.2 c;omega
  ·have:=List.count_pos_iff.2 c;omega
 by_cases e:0<E.count a
 ·exact f.hin a (List.count_pos_iff.1 e)
 ·exact f.hfl a (List.count_pos_iff.1 ω)
theorem bp.deliv{h:ab}{E:List Int}{f:Nat}(a:bp h E)(e:f<h.Mail.Buffers.length)(d:0<(nth h.Mail.Buffers f).length):bp {h with Mail:=f9 h.Mail f} E:=by
 have c:=BE a.mail e d;obtain⟨⟨q,r,t⟩,j,u⟩:=dG.1 a.mail;have k:=(j f e).1 _ (am d);have g:∀b,E.count b+(aC (f9 h.Mail f)).count b=E.count b+(aC h.Mail).count b:=λb=>by
  rw[jI c,jI a.mail];have i:=ib (λl:List dd=>l.map (·.Addr)) b h.Mail.Buffers f ((nth h.Mail.Buffers f).drop 1) e;have n:=ib (λx:List Int=>x) b h.Mail.Inbox (nth (nth h.Mail.Buffers f) 0).To.toNat (nth h.Mail.Inbox (nth (nth h.Mail.Buffers f) 0).To.toNat++[(nth (nth h.Mail.Buffers f) 0).Addr]) ω;have o:(nth h.Mail.Buffers f).map (·.Addr)=(nth (nth h.Mail.Buffers f) 0).Addr::((nth h.Mail.Buffers f).drop 1).map (·.Addr):=by
   generalize nth h.Mail.Buffers f=l at d
   match l,d with
   | p::l,_=>rfl
  simp only[f9];rw[o]at i;simp only[List.count_cons]at i;simp only[V4,List.count_singleton]at n;omega
 exact a.mailed c (by simp[f9]) g (ET a g)
theorem bp.coll{h:ab}{E:List Int}{t:Nat}(c:bp h E)(d:t<h.Mail.Inbox.length):bp {h with Mail:=ko h.Mail t} (nth h.Mail.Inbox t++E):=by
 have a:=LI c.mail d;have e:∀b,(nth h.Mail.Inbox t++E).count b+(aC (ko h.Mail t)).count b=E.count b+(aC h.Mail).count b:=λb=>by
  rw[jI a,jI c.mail];have f:=ib (λx:List Int=>x) b h.Mail.Inbox t [] d;simp only[List.count_nil]at f;simp only[ko,V4];omega
 exact c.mailed a rfl e (ET c e)
theorem bp.send{h:ab}{E:List Int}{f:Nat}{p:dd}(c:bp h (p.Addr::E))(e:f<h.Mail.Buffers.length)(a:bz (gy h.Mail f p)=true):bp {h with Mail:=gy h.Mail f p} E:=by
 have d:∀b,E.count b+(aC (gy h.Mail f p)).count b=(p.Addr::E).count b+(aC h.Mail).count b:=λb=>by
  rw[jI a,jI c.mail];have g:=ib (λl:List dd=>l.map (·.Addr)) b h.Mail.Buffers f (nth h.Mail.Buffers f++[p]) e;simp only[R4,U4,List.map_nil,V4,List.count_singleton]at g;simp only[gy,List.count_cons];omega
 exact c.mailed a (by simp[gy]) d (ET c d)
def qS(now:Int):List aL->Nat
 | []=>0
 | x::xs=>if x.Since<now - 100 then qS now xs+1 else 0
def aged(h:ab)(n:Int):ab:={h with Clock:=h.Clock+n,Quar:=⟨h.Quar.Room,h.Quar.Lst.drop (qS (h.Clock+n) h.Quar.Lst)⟩}
def lY(h:ab)(n:Int):List Int:=(h.Quar.Lst.take (qS (h.Clock+n) h.Quar.Lst)).map (·.Addr)
def tick(h:ab)(n:Int):ab:=freeAs (aged h n) (lY h n)
theorem nU(x:aL)(xs:List aL):∀n,quarCells (x::xs) (n+1)=csz x.Class+quarCells xs n
 | 0=>by simp only[quarCells];show 0+csz x.Class=csz x.Class+0;omega
 | n+1=>by
  rw[ic,nU x xs n,ic];show csz x.Class+quarCells xs n+csz (nth xs n).Class=_;omega
theorem N5(k:Int):0<=csz k:=by
 unfold csz;split
 ·exact Int.le_of_lt (Int.pow_pos (by decide))
 ·decide
theorem Ft:∀(l:List aL)(k:Nat),qc (l.drop k)<=qc l
 | [],k=>by simp
 | x::xs,0=>t4 _
 | x::xs,k+1=>by
  have a:=Ft xs k;have b:=N5 x.Class;have c:qc (x::xs)=csz x.Class+qc xs:=nU x xs xs.length;show qc (xs.drop k)<=qc (x::xs);omega
theorem bp.aged{h:ab}{E:List Int}{n:Int}(a:bp h E)(t:0<=n)(u:h.Clock+n<=1000000):bp (aged h n) (lY h n++E):=by
 obtain⟨i,j,k,o,p,q⟩:=jc.1 a.quar;have c:=a.nums;unfold cb at c;rw[C0]at c;have e:=List.drop_sublist (qS (h.Clock+n) h.Quar.Lst) h.Quar.Lst;have g:(E++holders h).Perm ((lY h n++E)++holders (Ab.aged h n)):=by
  refine List.perm_iff_count.2 λb=>?_
  have r:=T0 (λl:List aL=>(l.map (·.Addr)).count b) (List.take_append_drop (qS (h.Clock+n) h.Quar.Lst) h.Quar.Lst);simp only[R4,V4]at r;simp only[holders,bQ,Ab.aged,lY,V4];omega
 exact {a with
   nums:=by unfold cb;rw[C0];simp only[Ab.aged];omega
   quar:=jc.2 ⟨λy d=>i y (e.subset d),j.sublist e,k.sublist (e.map _),o,p,Int.le_trans (Ft _ _) q⟩
   snc:=λy d=>by
     have:=a.snc y (e.subset d);show y.Since<=h.Clock+n;omega
   hqu:=λy d=>a.hqu y (e.subset d)
   hin:=λb f=>by
     rcases O2.1 f with f|f
     · obtain⟨y,d,rfl⟩:=T3.1 f
       exact(a.hqu y (List.mem_of_mem_take d)).any
     · exact a.hin b f
   nd:=g.nodup_iff.1 a.nd
   mem:=λb=>by rw[<-g.mem_iff];exact a.mem b}
theorem bp.tick{h:ab}{n:Int}(a:bp h [])(b:0<=n)(c:h.Clock+n<=1000000):bp (tick h n) []/\JK h (tick h n):=by
 have h1:=a.aged b c;exact⟨bp.freeAs h1,JK.trans (h1:=Ab.aged h n) (JK.eq rfl rfl rfl rfl) (JK.freeAs h1)⟩
def collect(h:ab)(t:Nat):ab:=recycs t {h with Mail:=ko h.Mail t} (nth h.Mail.Inbox t)
theorem bp.collect{h:ab}{t:Nat}(a:bp h [])(b:t<h.Caches.length):bp (collect h t) []/\JK h (collect h t):=by
 have h1:=a.coll (t:=t) (by rw[(dG.1 a.mail).1.2.2,<-a.nc];exact b);exact⟨bp.recycs h1 b,JK.trans (h1:={h with Mail:=ko h.Mail t}) (JK.eq rfl rfl rfl rfl) (JK.recycs h1 b)⟩
def M9(h:ab)(t i:Nat):ab:={h with Kernel:=fK h.Kernel (nth h.Objs i).Addr (csz (aK (nth h.Objs i).Size)).toNat,Objs:=dele h.Objs i,Mail:=gy h.Mail t ⟨(nth h.Objs i).Thread,(nth h.Objs i).Addr⟩}
def freeT(h:ab)(t i:Nat):ab × Int:=
 if aK (nth h.Objs i).Size<0 then(freeL h i (xt h (nth h.Objs i).Addr),0)
 else if(ar (tbl h) ((nth h.Objs i).Addr / 16)).Mode=1 then(h,5)
 else if(nth h.Objs i).Thread=t then(Kl h t i,0)
 else if bz (gy h.Mail t ⟨(nth h.Objs i).Thread,(nth h.Objs i).Addr⟩)=true then(M9 h t i,0) else(h,5)
theorem yB{h:ab}{t i:Nat}(e:(nth h.Objs i).Thread=t):freeT h t i=freeOb h t i:=by
 unfold freeT freeOb;rw[C8 e]
theorem bp.freeT{h:ab}{t i:Nat}(a:bp h [])(b:i<h.Objs.length)(c:t<h.Caches.length):bp (freeT h t i).1 []/\JK h (freeT h t i).1:=by
 by_cases e:(nth h.Objs i).Thread=t
 ·rw[yB e];exact⟨a.freeOb b c,JK.freeOb a b c⟩
 have d:=a.freeOb b c;have f:=JK.freeOb a b c;unfold Ab.freeOb at d f;unfold Ab.freeT;split
 ·rename_i g
  rw[C8 g]at d f;exact⟨d,f⟩
 rename_i g;rw[C7 g]at d f;split
 ·exact⟨a,JK.refl h⟩
 split
 ·rename_i j
  obtain⟨⟨s,l,n,o⟩,u⟩:=(eO a (am b)).2 g;have q:=a.dropO b (jl.any ⟨s,l,n,.inr o⟩);have r:=q.cells (k:=fK h.Kernel (nth h.Objs i).Addr (csz (aK (nth h.Objs i).Size)).toNat) (B7 a.ker _ _) rfl;exact⟨bp.send (p:=⟨(nth h.Objs i).Thread,(nth h.Objs i).Addr⟩) r (by show t<h.Mail.Buffers.length;rw[<-a.nc];exact c) j,JK.eq rfl rfl rfl rfl⟩
 ·exact⟨a,JK.refl h⟩
def kA(k:af)(a v:Int):af:=setCell k (fR k a) (a % 16) v
theorem vZ{k:af}(h:aB k=true){a v:Int}(b:(ar k.Machine.Table (a / 16)).Mode≠0)(c:0<=v/\v<=999):aB (kA k a v)=true:=by
 obtain⟨d,e,-⟩:=iE h b;exact pY h (f:=fR k a) d e c
theorem bp.store{h:ab}{a v:Int}(b:bp h [])(c:(ar h.Kernel.Machine.Table (a / 16)).Mode≠0)(d:0<=v/\v<=999):bp {h with Kernel:=kA h.Kernel a v} []/\JK h {h with Kernel:=kA h.Kernel a v}:=
 ⟨b.cells (vZ b.ker c d) rfl,JK.eq rfl rfl rfl rfl⟩
open Go.RowKit
set_option maxRecDepth 20000
set_option maxHeartbeats 4000000
theorem Lx{xs:List Int}{x:Int}(h:cE xs.length (λj=>decide (nth xs j≠x))=true):x∉xs:=λb=>by
 obtain⟨j,a⟩:=List.mem_iff_getElem?.1 b;have:=dE h (V1.1 a).1;rw[bo a]at this;simp at this
theorem Dd(xs:List Int)(x:Int)(g:xs.length<=4611686018427387904):ao Tryz.prog 268 false [.val none (aD .imm xs),.val none [I x]] .one [B (decide (x∈xs))]:=by
 refine fO 18 [] Tryz.func268 rfl ?_
 repeat'(first|refine gO ?_|fail)
 (conv=>whnf)
 refine CD (ι:=Nat) (λi=>[(0,.hold .one (aD .imm xs)),(1,.hold .one [I (x)]),(5,.hold .one [I ((i:Nat):Int)])]) (λi=>i<=xs.length/\cE i (λj=>decide (nth xs j≠x))=true) (λi=>xs.length - i) 0 ?_ ⟨R0 _,rfl⟩ λi a=>?_
 ·exact wB
 obtain⟨a,b⟩:=a;by_cases c:i<xs.length
 ·have d:=ah c
  by_cases e:nth xs i=x
  ·repeat'(first|refine gA ?_|(conv=>whnf);first|with_reducible refine CA (aa d) ?_)
   exact T0 (λz=>[B z]) ((by symm;exact O0 (by rw[<-e];exact am c)))
  ·repeat'(first|refine gA ?_|(conv=>whnf);first|with_reducible refine CA (aa d) ?_)
   ((conv=>whnf);refine CB (i+1) ⟨ω,bL b (O0 e)⟩ ω ?_;(exact wB))
 ·repeat'(first|refine gD ?_|fail)
  obtain rfl:i=xs.length:=ω
  exact T0 (λz=>[B z]) ((by symm;exact Q0 (Lx b)))
theorem AL(xs:List Int)(x:Int)(h:xs.length<=4611686018427387904):ao Tryz.prog 180 false [.val none (aD .imm xs),.val none [I x]] .one [I (cy (λy=>decide (y=x)) xs)]:=by
 refine fO 19 [] Tryz.func180 rfl ?_
 repeat'(first|refine gO ?_|fail)
 (conv=>whnf)
 refine CD (ι:=Nat) (λi=>[(0,.hold .one (aD .imm xs)),(1,.hold .one [I (x)]),(7,.hold .one [I (xs.length)]),(8,.hold .one [I ((i:Nat):Int)])]) (λi=>i<=xs.length/\∀(j:Nat)(z:Int),j<i->xs[j]? = some z->decide (z=x)=false) (λi=>xs.length - i) (0) ?_ (⟨R0 _,λj z d _=>absurd d (Nat.not_lt_zero _)⟩) λi c=>?_
 ·exact wB
 obtain⟨c,b⟩:=c;by_cases g:i<xs.length
 ·have a:=ah g
  by_cases e:nth xs i=x
  ·repeat'(first|refine gD ?_|(conv=>whnf);first|with_reducible refine CA (aa a) ?_|refine Bf.t (by simp[e]) ?_)
   exact T0 (λz=>[I z]) (d6 a (O0 e) b).symm
  ·repeat'(first|refine gD ?_|(conv=>whnf);first|with_reducible refine CA (aa a) ?_|refine Bf.f (by simp[Ne.symm e]) ?_)
   ((conv=>whnf);refine CB (i+1) ⟨ω,cV a (Q0 e) b⟩ ω ?_;(exact wB))
 ·repeat'(first|refine gD ?_|fail)
  exact T0 (λz=>[I z]) (eH ω b).symm
theorem jM(xs:List Int)(x:Int)(a:xs.length<=4611686018427387904):ao Tryz.prog 84 false [.val none (aD .imm xs),.val none [I x]] .one [B (decide (x∈xs))]:=by
 refine fO 9 [] Tryz.func84 rfl ?_
 repeat'(first|refine gO ?_|(conv=>whnf);first|refine C6 (AL xs x a) ?_)
 exact T0 (λz=>[B z]) ((by rw[f7];rw[Y3];simp))
theorem bJ.more{M f:ac}{w g:World}(h:bJ M w g)(e:∀b o,M b o->f b o):bJ f w g:=
 ⟨h.os,h.tape,h.output,h.size,λb a c=>h.blk b a λo d=>c o (e b o d),λb o a c=>h.cel b o a λd=>c (e b o d),λb o a c=>h.fro b o a λd=>c (e b o d)⟩
theorem aQ.wk{P:Program}{f:Nat}{sh:Bool}{c u:List C}{A B:List MA}{k:Kd}{rcs:List C}(h:aQ P f sh A (.ptr c::B) k rcs)(y:JF c u):aQ P f sh A (.ptr u::B) k rcs:=by
 refine⟨h.has,λw S V i E F l G=>(h.run w S V i E F l G).mono λe w1 H=>?_⟩;obtain⟨v,J,K,X,L,M,N,n,p,a,q,r,b,O,Q,D⟩:=H;refine⟨v,J,K,X,L,M,N,n,p,a,q,r,b,O,Q,?_⟩;cases i with
 | nil=>exact D.elim
 | cons v0 i=>
  obtain⟨⟨R,Y,T,U,W,⟨g,o,Z,e2⟩,d⟩,t⟩:=D;refine⟨⟨R,Y,T,U,W,⟨g,o,Z,λj hj=>e2 j (by rw[(qX y).1];exact hj)⟩,zC y d⟩,t⟩
theorem aQ.frame{P:Program}{f:Nat}{sh:Bool}{c c' r:List C}{A B:List MA}{k:Kd}{rcs:List C}(h:aQ P f sh (.ptr c::A) (.ptr c'::B) k rcs)(hl:c'.length=c.length):aQ P f sh (.ptr (c++r)::A) (.ptr (c'++r)::B) k rcs:=by
 refine⟨h.has,λw S V vs hS hV hVd hA=>?_⟩;cases vs with
 | nil=>exact hA.elim
 | cons v0 vs=>
 obtain⟨⟨X1,Y,hX1,hY,O,⟨g,q,rfl,u⟩,ff,hf1,J,hf3⟩,hA'⟩:=hA;have hlen:(c++r).length=c.length+r.length:=U2
 let V0:ac:=piece g q ff 0 c.length
 let W:Nat->ac:=HS V0 (λi=>V (i+1))
 have hcX:∀o,q<=o->o<q+(c++r).length->X1 g o:=λo l a=>by
  have:=(u (o - q) ω).1
  rwa [show q+(o - q)=o by omega]at this
 have hV0:∀b o,V0 b o->V 0 b o:=λb o p=>by
  rcases p with⟨rfl,l,a⟩|⟨j,-,a,Q⟩
  ·exact hX1 _ _ (hcX o ω ω)
  ·exact hY _ _ (J j ω b o Q)
 have K:∀i b o,W i b o->V i b o:=λi b o p=>by
  cases i with
  | zero=>exact hV0 b o p
  | succ i=>exact p
 have hA2:KW w S W (.ptr c::A) (.pointer (some ⟨g,q,none⟩)::vs):=by
  refine⟨?_,hA'⟩;have:=r9 (lo:=0) (n:=c.length) (cs:=c++r) ω u hf1 J hf3 O;rw[show bt (c++r) 0 c.length=c by simp[bt]]at this;simp only[C5,Nat.add_zero]at this;exact this
 refine(h.run w S W _ hS (λi b o p=>hV i b o (K i b o p)) (λi i' D b o l a=>hVd i i' D b o (K i b o l) (K i' b o a)) hA2).mono λe w1 hv=>?_
 obtain⟨v,he,hk,X,V',S1,hX,E,hS1,hVd',hXV,hXS,hVS1,hh,hr,hm⟩:=hv;have H:∀b o,(∃i,W i b o)->∃i,V i b o:=λb o ⟨i,Z⟩=>⟨i,K i b o Z⟩
 let R:ac:=λb o=>V 0 b o/\¬V0 b o
 have hRW:∀b o,R b o->¬∃i,W i b o:=λb o y ⟨i,Z⟩=>by
  cases i with
  | zero=>exact y.2 Z
  | succ i=>exact hVd 0 (i+1) ω b o y.1 Z
 have F:∀b o,R b o->b<w.heap.size:=λb o y=>(hV 0 b o y.1).1
 have t:∀b o,R b o->¬((∃i,W i b o)\/(b<w1.heap.size/\w.heap.size<=b)):=λb o y p=>by
  rcases p with p|p
  ·exact hRW b o y p
  ·have:=F b o y;omega
 have hRsame:bj R w w1:=λb o y=>⟨hk.cel b o (F b o y) (hRW b o y),hk.fro b o (F b o y) (hRW b o y)⟩
 have hRS1:∀b o,R b o->¬S1 b o:=λb o y hs=>by
  rcases hS1 b o hs with⟨-,l⟩|l
  ·exact(hV 0 b o y.1).2 l
  ·exact t b o y l
 have hSsame:bj S w w1:=λb o hb=>⟨hk.cel b o (hS b o hb) (λ⟨i,Z⟩=>(hV i b o (K i b o Z)).2 hb),hk.fro b o (hS b o hb) (λ⟨i,Z⟩=>(hV i b o (K i b o Z)).2 hb)⟩
 have hRc:∀j,c.length<=j->j<(c++r).length->R g (q+j):=λj l a=>by
  refine⟨hX1 _ _ (u j a).1,λp=>?_⟩;rcases p with⟨-,Q,h4⟩|⟨N,Q,h4,h5⟩
  ·omega
  ·exact O _ _ (u j a).1 (J N ω _ _ h5)
 have L:∀j,c.length<=j->j<(c++r).length->∀b o,ff j b o->R b o:=λj l a b o p=>by
  refine⟨hY _ _ (J j a b o p),λhp=>?_⟩;rcases hp with⟨rfl,Q,h4⟩|⟨N,Q,h4,h5⟩
  ·exact O _ _ (hcX o ω ω) (J j a _ _ p)
  ·exact hf3 j N a ω ω b o p h5
 let U:Nat->ac:=HS (λb o=>V' 0 b o\/R b o) (λi=>V' (i+1))
 have hU:∀i b o,U i b o->V' i b o\/(i=0/\R b o):=λi b o p=>by
  cases i with
  | zero=>exact p.imp id (λh=>⟨rfl,h⟩)
  | succ i=>exact .inl p
 refine⟨v,he,hk.more H,X,U,S1,λb o p=>(hX b o p).imp (H b o) id,λi b o p=>?_,λb o p=>(hS1 b o p).imp id (Or.imp (H b o) id),λi i' D b o l a=>?_,λi b o l a=>?_,hXS,λi b o l a=>?_,hh,hr,?_,hm.2⟩
 ·rcases hU i b o p with l|⟨-,l⟩
  ·exact(E i b o l).imp (H b o) id
  ·exact .inl ⟨0,l.1⟩
 ·rcases hU i b o l with l|⟨e1,l⟩
  ·rcases hU i' b o a with a|⟨e2,a⟩
   ·exact hVd' i i' D b o l a
   ·exact t b o a (E i b o l)
  ·rcases hU i' b o a with a|⟨e2,a⟩
   ·exact t b o l (E i' b o a)
   ·exact D ω
 ·rcases hU i b o a with a|⟨-,a⟩
  ·exact hXV i b o l a
  ·exact t b o a (hX b o l)
 ·rcases hU i b o l with l|⟨-,l⟩
  ·exact hVS1 i b o l a
  ·exact hRS1 b o l a
 ·obtain⟨Xa,Ya,ha1,ha2,ha3,⟨ga,oa,hea,ha4⟩,fa,ha5,ha6,ha7⟩:=(show oT w1 (λb o=>S b o\/S1 b o) (V' 0) (.ptr c') (.pointer (some ⟨g,q,none⟩)) from hm.1)
  obtain⟨rfl,rfl⟩ : g=ga/\q=oa:=by simpa using hea
  have G:(c'++r).length=c.length+r.length:=by rw[U2,hl]
  show oT w1 (λb o=>S b o\/S1 b o) (λb o=>V' 0 b o\/R b o) (.ptr (c'++r)) (.pointer (some ⟨g,q,none⟩));have faV:∀j,j<c.length->∀b o,fa j b o->V' 0 b o:=λj M b o p=>ha2 _ _ (ha6 j ω b o p)
  refine⟨λb o=>Xa b o\/(R b o/\∃j,c.length<=j/\j<(c++r).length/\b=g/\o=q+j),λb o=>Ya b o\/∃j,c.length<=j/\j<(c++r).length/\ff j b o,λb o p=>?_,λb o p=>?_,λb o l a=>?_,⟨g,q,rfl,λj M=>?_⟩,λj=>if j<c.length then fa j else ff j,λj d M=>?_,λj M b o p=>?_,λj N M hj' D b o l a=>?_⟩
  ·exact p.imp (ha1 b o) (·.1)
  ·rcases p with p|⟨j,l,a,Q⟩
   ·exact .inl (ha2 b o p)
   ·exact .inr (L j l a b o Q)
  ·rcases l with l|⟨l,j,j1,j2,rfl,rfl⟩
   ·rcases a with a|⟨j,j1,j2,j3⟩
    ·exact ha3 b o l a
    ·exact t b o (L j j1 j2 b o j3) (E 0 b o (ha1 b o l))
   ·rcases a with a|⟨N,j3,j4,j5⟩
    ·exact t _ _ l (E 0 _ _ (ha2 _ _ a))
    ·exact O _ _ (u j j2).1 (J N j4 _ _ j5)
  ·rw[G]at M
   by_cases hc:j<c.length
   ·have:=ha4 j ω
    exact⟨.inl this.1,this.2⟩
   ·have y:=hRc j ω ω
    have hs:=hRsame _ _ y;have T:=u j ω;refine⟨.inr ⟨y,j,ω,ω,rfl,rfl⟩,?_,?_⟩
    ·rw[hs.1];exact T.2.1
    ·rw[hs.2];exact T.2.2
  ·dsimp only
   by_cases hc:j<c.length
   ·rw[C8 hc]
    rw[V3 ω]at M;exact ha5 j d M
   ·rw[C7 hc]
    rw[W3 ω,hl]at M;have hj2:(c++r)[j]? = some d:=by rw[W3 ω];exact M
    have hjl:=(V1.1 hj2).1;have Q:=(hf1 j d hj2).keep hSsame (λb o p=>hRsame b o (L j ω hjl b o p));have T:=(hRsame _ _ (hRc j ω hjl)).1;have:bV w1 .box (.pointer (some ⟨g,q,none⟩)) j=bV w .box (.pointer (some ⟨g,q,none⟩)) j:=by
     simp only[bV];rw[T]
    rw[this];exact Q.mono (λ_ _ h=>.inl h) (λ_ _ h=>h)
  ·rw[G]at M
   split at p
   ·rename_i hc;exact .inl (ha6 j ω b o p)
   ·exact .inr ⟨j,ω,ω,p⟩
  ·rw[G]at M hj'
   split at l
   ·rename_i c1
    split at a
    ·exact ha7 j N ω ω D b o l a
    ·exact t b o (L N ω ω b o a) (E 0 b o (faV j c1 b o l))
   ·split at a
    ·rename_i c1;exact t b o (L j ω ω b o l) (E 0 b o (faV N c1 b o a))
    ·exact hf3 j N ω ω D b o l a
mutual
theorem Pb:∀c:C,fz (fz c)=fz c
 | .v x=>by simp[fz]
 | .s o rows=>by simp only[fz];rw[FW rows]
 | .x=>by simp[fz]
 | .z=>by simp[fz]
 | .m _=>by simp[fz]
 | .it _ _=>by simp[fz]
theorem FW:∀a:List (List C),fzR (fzR a)=fzR a
 | []=>rfl
 | r::a=>by simp only[fzR];rw[oO r,FW a]
theorem oO:∀cs:List C,dy (dy cs)=dy cs
 | []=>rfl
 | c::cs=>by simp only[dy];rw[Pb c,oO cs]
end
theorem mc(k:af)(a:aB k=true)(e:k.Calls≠100000):aQ Tryz.prog 347 false [.ptr (af.enc .own k)] [.ptr (af.enc .own (dv k))] .one [B (!refd k)]:=by
 have b:=bF a;have c:=(aF.1 a).2.2.2.2;have d:=Dd k.Refuse k.Calls (by have:=b.2;omega);refine fM 22 [] [(2,9,[11,12,13,14,15,16,17,18,19])] [(0,0)] Tryz.func347 rfl (λu q=>?_)
 repeat'(first|refine gO ?_|(conv=>whnf);first|refine CF (d) ⟨⟨rfl,cW _⟩,⟨rfl,T0 (λz=>[I z]) ω⟩,trivial⟩ ?_)
 refine CE rfl ?_ ?_
 ·rfl
 ·exact wB
theorem mU(k:af)(p m:Int)(a:aB k=true)(j:k.Calls≠100000)(d:(ar k.Machine.Table p).Mode≠0)(l:m=1\/m=2):aQ Tryz.prog 406 false [.ptr (af.enc .own k),.val none [I p],.val none [I m]] [.ptr (af.enc .own (jW k p m).1),.val none [I p],.val none [I m]] .one [B (jW k p m).2]:=by
 have n:=bF a;have b:=mc k a j;have g:=ed (dv k) p n.1.2;have c:=aG m 1 2;rw[O0 ω]at c;obtain⟨o,t,w,-⟩:=cr a d;have h:=ah (xs:=k.Machine.Table.Entries) (i:=p.toNat) ω;have r:¬(ar (dv k).Machine.Table p).Mode=0:=d;unfold jW;cases e:refd k<;>rw[e]at b
 ·rw[C7 (by simp),H7]
  refine fM 31 [(347,[2])] [] [(0,0),(0,0),(0,0)] Tryz.func406 rfl (λu q=>?_)
  repeat'(first|refine gA ?_|(conv=>whnf);first|refine CH (b) (.inl rfl) ?_|refine CF (g) ⟨CP (dv k),⟨rfl,rfl⟩,trivial⟩ ?_|refine C6 (c) ?_|refine CK o (aa h) ?_|refine CM rfl rfl (aa h) rfl (X0 rfl) rfl ?_)
  refine CE rfl ?_ ?_
  ·rfl
  ·exact wB
 ·rw[C8 rfl]
  refine fM 31 [(347,[2])] [] [(0,0),(0,0),(0,0)] Tryz.func406 rfl (λu q=>?_)
  repeat'(first|refine gA ?_|(conv=>whnf);first|refine CH (b) (.inl rfl) ?_|refine CF (g) ⟨CP (dv k),⟨rfl,rfl⟩,trivial⟩ ?_|refine C6 (c) ?_)
  refine CE rfl ?_ ?_
  ·rfl
  ·exact wB
theorem Rw.two{c:List C}{off i k j d e b:Nat}{K:List C->Nat->Prop}{o f:d7}{rows rows2:List (List C)}{r a:List C}(h1:c[off]? = some (.s o rows))(g:rows[i]? = some r)(h:r.length=k)(l:r[j]? = some (.s f rows2))(n:rows2[d]? = some a)(p:a.length=e)(q:K a b):Rw c off [(i,k,j),(d,e,b)] K:=
 Rw.mk (r:=a) (j:=b) (by simp[bU,h1,g,h,l,n,p]) q
theorem x7(k:af)(a b c:Int)(h:aB k=true)(F:(ar k.Machine.Table a).Mode≠0)(G:(ar k.Machine.Table b).Mode≠0)(g:0<=c/\c<=15):aQ Tryz.prog 407 false [.ptr (af.enc .own k),.val none [I a],.val none [I b],.val none (aD .imm [c])] [.ptr (af.enc .own (yt k a b c)),.val none [I a],.val none [I b],.val none (aD .imm [c])] .one [B true]:=by
 have w:=bF h;have H:=ed k a w.1.2;have J:=ed k b w.1.2;have y:=aG c 0 15;rw[O0 g]at y;obtain⟨K,O,L,C,P⟩:=cr h F;obtain⟨M,Q,D,E,R⟩:=cr h G;have N:=(bh.1 (aF.1 h).2.1).2.2.1;have S:=row16 h (f:=mM k a) (by unfold mM;omega);have T:=row16 h (f:=mM k b) (by unfold mM;omega);have d:k.Machine.Frames.Cells[(ar k.Machine.Table a).Frame.toNat]? = some (nth k.Machine.Frames.Cells (mM k a)):=ah ω;have e:k.Machine.Frames.Cells[(ar k.Machine.Table b).Frame.toNat]? = some (nth k.Machine.Frames.Cells (mM k b)):=ah ω;have l:=ah (xs:=nth k.Machine.Frames.Cells (mM k a)) (i:=c.toNat) ω;have o:=ah (xs:=nth k.Machine.Frames.Cells (mM k b)) (i:=c.toNat) ω;have p:=ah (xs:=k.Machine.Table.Entries) (i:=a.toNat) ω;have r:=ah (xs:=k.Machine.Table.Entries) (i:=b.toNat) ω;rw[L]at C d;rw[D]at E e;have t:[c][0]? = some c:=rfl;refine fM 90 [] [(13,28,[61,62,63,64,65,66,67,68,69,70,71,72,73,74,75,76,77,78,79,80,81,82,83,84,85,86,87,88])] [(0,0),(0,0),(0,0),(0,0)] Tryz.func407 rfl (λu q=>?_)
 repeat'(first|refine gA ?_|(conv=>whnf);first|refine C9 ?_|refine CF (H) ⟨CP k,⟨rfl,rfl⟩,trivial⟩ ?_|refine CF (J) ⟨CP k,⟨rfl,rfl⟩,trivial⟩ ?_)
 (conv=>whnf)
 refine CD (ι:=Nat) (λn=>[(0,.hold .box (af.enc .own k)),(1,.hold .one [I (a)]),(2,.hold .one [I (b)]),(3,.hold .one (aD .imm [c])),(9,.hold .one [I ((n:Nat):Int)])]) (λn=>n<=1) (λn=>1 - n) (0) ?_ (R0 _) λn U=>?_
 ·exact wB
 by_cases V:n<1
 ·obtain rfl:n=0:=ω
  repeat'(first|refine gD ?_|(conv=>whnf);first|refine C9 ?_|refine CK (by decide) (aa t) ?_|refine C6 (y) ?_)
  ((conv=>whnf);refine CB 1 ω ω ?_;(exact wB))
 ·obtain rfl:n=1:=ω
  repeat'(first|refine gD ?_|(conv=>whnf);first|refine C9 ?_|refine CK K (aa p) ?_|refine CK M (aa r) ?_|refine CG rfl (aa p) rfl ?_|refine CG rfl (aa r) rfl ?_)
  (conv=>whnf)
  refine CD (ι:=Nat) (λj=>[(0,.hold .box (af.enc .own (MK k a b c j))),(3,.hold .one (aD .imm [c])),(10,.hold .one [I ((nth k.Machine.Table.Entries a.toNat).Frame)]),(11,.hold .one [I ((nth k.Machine.Table.Entries b.toNat).Frame)]),(12,.hold .one [I ((j:Nat):Int)])]) (λj=>j<=1) (λj=>1 - j) (0) ?_ (R0 _) λj W=>?_
  ·exact wB
  by_cases X:j<1
  ·obtain rfl:j=0:=ω
   repeat'(first|refine gD ?_|(conv=>whnf);first|refine C9 ?_|refine CK (by decide) (aa t) ?_|refine CK C (aa d) ?_|refine CK E (aa e) ?_|refine CK g.1 (aa l) ?_|refine CK g.1 (aa o) ?_|refine CG rfl (aa e) rfl ?_|refine CG rfl (aa d) rfl ?_|refine Rw.two rfl (aa d) rfl rfl (aa l) rfl ?_|refine Pu.two rfl rfl (aa e) rfl rfl rfl (aa o) rfl (Q2 _) rfl ?_)
   ((conv=>whnf);refine CB 1 ω ω ?_)
   rw[show MK k a b c 1=yt k a b c from rfl];unfold yt;rw[B9,show mM k b=(nth k.Machine.Table.Entries b.toNat).Frame.toNat by unfold mM;rw[D]];exact wB
  ·obtain rfl:j=1:=ω
   repeat'(first|refine gD ?_|(conv=>whnf);first|refine C9 ?_)
   refine CE rfl ?_ ?_
   ·rfl
   ·exact wB
theorem Ec(k:af)(p o:Int)(a:aB k=true)(y:k.Calls≠100000)(g:(ar k.Machine.Table p).Mode≠0)(h:(ar k.Machine.Table o).Mode≠0)(C:p≠o):aQ Tryz.prog 408 false [.ptr (af.enc .own k),.val none [I p],.val none [I o]] [.ptr (af.enc .own (zq k p o).1),.val none [I p],.val none [I o]] .one [B (zq k p o).2]:=by
 have b:=bF a;have c:=mc k a y;have j:=ed (dv k) p b.1.2;have l:=ed (dv k) o b.1.2;obtain⟨D,K,E,n,r⟩:=cr a g;obtain⟨F,L,M,N,O⟩:=cr a h;have G:=(bh.1 (aF.1 a).2.1).2.2.1;have d:=ah (xs:=k.Machine.Table.Entries) (i:=p.toNat) ω;have t:=ah (xs:=k.Machine.Table.Entries) (i:=o.toNat) ω;have H:¬(ar (dv k).Machine.Table p).Mode=0:=g;have J:¬(ar (dv k).Machine.Table o).Mode=0:=h;rw[E]at n r;have w:=zb (vu (dv k) p.toNat ⟨2,(nth k.Machine.Table.Entries o.toNat).Frame⟩) (nth k.Machine.Table.Entries p.toNat).Frame (Kv _ _ b.1.2) ⟨n,by show _<((k.Machine.Frames.Cells.length:Nat):Int);omega,r⟩;rw[JQ]at w;unfold zq;cases e:refd k<;>rw[e]at c
 ·rw[C7 (by simp)]
  refine fM 60 [(347,[2]),(349,[2,0])] [(4,274,[38,39,40,41,42,43,44,45,46,47,48,49,50,51,52,53,54,56,0,1,2,3,4,5,6,7,8,9,10,11,12,13,14,15,16,17,1000,1001,1002,1003,1004,1005,1006,18,19])] [(0,0),(0,0),(0,0)] Tryz.func408 rfl (λu q=>?_)
  repeat'(first|refine gA ?_|(conv=>whnf);first|refine C9 ?_|refine CH (c) (.inl rfl) ?_|refine CF (j) ⟨CP (dv k),⟨rfl,rfl⟩,trivial⟩ ?_|refine CF (l) ⟨CP (dv k),⟨rfl,rfl⟩,trivial⟩ ?_|refine CK D (aa d) ?_|refine CK F (aa t) ?_|refine CG rfl (aa d) rfl ?_|refine CG rfl (aa t) rfl ?_|refine CM rfl rfl (aa d) rfl (X0 rfl) rfl ?_|refine CH (w) (.inl rfl) ?_)
  refine CE rfl ?_ ?_
  ·rfl
  ·exact wB
 ·rw[C8 rfl]
  refine fM 60 [(347,[2]),(349,[2,0])] [(4,274,[38,39,40,41,42,43,44,45,46,47,48,49,50,51,52,53,54,56,0,1,2,3,4,5,6,7,8,9,10,11,12,13,14,15,16,17,1000,1001,1002,1003,1004,1005,1006,18,19])] [(0,0),(0,0),(0,0)] Tryz.func408 rfl (λu q=>?_)
  repeat'(first|refine gA ?_|(conv=>whnf);first|refine C9 ?_|refine CH (c) (.inl rfl) ?_|refine CF (j) ⟨CP (dv k),⟨rfl,rfl⟩,trivial⟩ ?_|refine CF (l) ⟨CP (dv k),⟨rfl,rfl⟩,trivial⟩ ?_)
  refine CE rfl ?_ ?_
  ·rfl
  ·exact wB
theorem xy(m:aT)(a:Int)(d:aT.sml m)(c:0<=a/\a<512):ao Tryz.prog 411 false [.val (some 3) (aT.enc .imm m),.val none [I a]] (.tup [some 2,none]) (bg.enc .own (ar m.Table (a / 16))++[I (a % 16)]):=by
 have e:=db m.Table (a / 16) d.2;have b:a.tmod 16=a % 16:=fo c.1;refine fO 16 [] Tryz.func411 rfl ?_ (.inr ⟨trivial,trivial,trivial,trivial⟩)
 repeat'(first|refine gD ?_|(conv=>whnf);first|refine C9 ?_|refine C6 (e) ?_|refine CJ (pw c) ?_|refine CL (by decide) ?_|refine CR b ?_)
 rfl
theorem Eg(m:aT)(a v:Int)(o:dt m=true)(e:aT.sml m)(p:0<=a/\a<512)(q:0<=v/\v<=999)(r:(ar m.Table (a / 16)).Mode≠0->0<=(ar m.Table (a / 16)).Frame/\(ar m.Table (a / 16)).Frame<m.Frames.Cells.length/\(nth m.Frames.Cells (ar m.Table (a / 16)).Frame.toNat).length=16):ao Tryz.prog 410 false [.val (some 3) (aT.enc .imm m),.val none [I a],.val none [I v]] (.tup [some 3,none]) (aT.enc .own (lv m a v).1++[I (lv m a v).2]):=by
 have c:=nA m e;rw[o]at c;have g:=rm m e;have h:=xy m a e p;have d:=aG v 0 999;rw[O0 q]at d;have b:=aT.enc_fr (lv m a v).1;unfold lv at b |-;by_cases j:(ar m.Table (a / 16)).Mode=0
 ·rw[C8 j]at b |-
  refine fO 47 [] Tryz.func410 rfl ?_ (.inr (aY b ⟨trivial,trivial⟩))
  repeat'(first|refine gA ?_|(conv=>whnf);first|refine C9 ?_|refine C6 (c) ?_|refine C6 (g) ?_|refine C6 (h) ?_|refine C6 (d) ?_)
  rfl
 ·rw[C7 j]at b |-
  by_cases l:(ar m.Table (a / 16)).Mode=1
  ·rw[C8 l]at b |-
   refine fO 47 [] Tryz.func410 rfl ?_ (.inr (aY b ⟨trivial,trivial⟩))
   repeat'(first|refine gA ?_|(conv=>whnf);first|refine C9 ?_|refine C6 (c) ?_|refine C6 (g) ?_|refine C6 (h) ?_|refine C6 (d) ?_)
   rfl
  ·rw[C7 l]at b |-
   obtain⟨t,u,w⟩:=r j;have k:=ah (xs:=m.Frames.Cells) (i:=(ar m.Table (a / 16)).Frame.toNat) ω;have n:=ah (xs:=nth m.Frames.Cells (ar m.Table (a / 16)).Frame.toNat) (i:=(a % 16).toNat) ω;simp only at b |-;rw[Et]at b |-;refine fO 47 [] Tryz.func410 rfl ?_ (.inr (aY b ⟨trivial,trivial⟩))
   repeat'(first|refine gA ?_|(conv=>whnf);first|refine C9 ?_|refine C6 (c) ?_|refine C6 (g) ?_|refine C6 (h) ?_|refine C6 (d) ?_|refine CK t (aa k) ?_|refine CK ω (aa n) ?_|refine CG rfl (aa k) rfl ?_|refine Pu.two rfl rfl (aa k) rfl rfl rfl (aa n) rfl (Q2 _) rfl ?_)
   rfl
theorem lJ{k:af}{j:cN} : jmay k j=true↔(aB k=true/\k.Calls≠100000)/\jf j=true/\(ar k.Machine.Table j.Plan.Keep).Mode≠0/\(ar k.Machine.Table j.Plan.Move).Mode≠0/\(ar k.Machine.Table j.Plan.Keep).Frame≠(ar k.Machine.Table j.Plan.Move).Frame:=by
 unfold jmay;simp only[I0,C0]
theorem l7{p:cz}(h:eD p=true):p.Cells.length<=16:=by
 unfold eD at h;simp only[I0]at h;have a:∀i,i<p.Cells.length->(i:Int)<=nth p.Cells i:=λi=>by
  induction i with
  | zero=>
   intro a;have:=dE h.1 a;unfold mH at this;rw[C0]at this;exact this.1
  | succ i b=>
   intro a;have c:=b ω;have:=dE h.1 a;unfold mH at this;rw[C0]at this;have d:=this.2.2.resolve_left ω;rw[Nat.add_sub_cancel]at d;omega
 by_cases e:p.Cells.length<=16
 ·exact e
 ·exfalso
  have c:=a 16 ω;have:=dE h.1 (show 16<p.Cells.length by omega);unfold mH at this;rw[C0]at this;omega
theorem Hd{j:cN}(h:jf j=true):cN.sml j:=by
 have:=l7 (fx.1 h).1;show j.Plan.Cells.length<=1048576;omega
theorem rZ{k:af}(h:aB k=true):dt k.Machine=true:=by
 unfold aB at h;simp only[I0]at h;exact h.1.2
theorem zR(k:af)(j:cN)(p:jmay k j=true)(g:j.Phase=3):aQ Tryz.prog 409 false [.ptr (af.enc .own k),.ptr (ve j)] [.ptr (af.enc .own (jstep k j).1),.ptr (ve (jstep k j).2)] (.tup []) []:=by
 obtain⟨⟨a,r⟩,t,c,d,w⟩:=lJ.1 p;obtain⟨h,H,J,K,L⟩:=fx.1 t;have y:=bF a;obtain⟨M,N,O,B,P⟩:=cr a c;have l:=(bw.1 (aF.1 a).2.2.1).2.2;have C:=l7 h;have D:=(bh.1 (aF.1 a).2.1).2.2.1;unfold jstep;rw[C7 ω,C7 ω,C7 ω,C8 g];by_cases n:0<j.Next
 ·rw[C8 n]
  have o:=lM h (i:=(j.Next - 1).toNat) ω;have E:=ah (xs:=j.Plan.Cells) (i:=(j.Next - 1).toNat) ω;have F:0<=j.Plan.Keep*16+nth j.Plan.Cells (j.Next - 1).toNat/\j.Plan.Keep*16+nth j.Plan.Cells (j.Next - 1).toNat<512:=ω
  have G:(j.Plan.Keep*16+nth j.Plan.Cells (j.Next - 1).toNat) / 16=j.Plan.Keep:=ω
  have b:=Eg k.Machine (j.Plan.Keep*16+nth j.Plan.Cells (j.Next - 1).toNat) 0 (rZ a) y.1 F ω (λ_=>by rw[G];exact⟨B,ω,row16 a (f:=mM k j.Plan.Keep) (by unfold mM;omega)⟩);generalize (lv k.Machine (j.Plan.Keep*16+nth j.Plan.Cells (j.Next - 1).toNat) 0).1=m at b |-;generalize (lv k.Machine (j.Plan.Keep*16+nth j.Plan.Cells (j.Next - 1).toNat) 0).2=e at b;refine fM 59 [(406,[2,0,0])] [(2,283,[20,21,22,23,24,25,26,27,28,29,30,31,32,33,34,35,36,37,38,39,40,41,42,19,43,44,4,0,1,2,3,4,5,6,7,8,9,10,11,12,13,14,15,16,17,18,19,20,21,22,23,24,25,26,27,1025,28])] [(0,0),(1,0)] Tryz.func409 rfl (λu q=>?_) (.inr trivial)
  repeat'(first|refine gD ?_|(conv=>whnf);first|refine C9 ?_|refine CF (b) ⟨⟨rfl,aT.enc_fz k.Machine⟩,⟨rfl,rfl⟩,⟨rfl,rfl⟩,trivial⟩ ?_|refine CK ω (aa E) ?_|refine C9 ?_)
  refine CE rfl rfl ?_;exact wC
 ·rw[C7 n]
  have b:=mU k j.Plan.Move 2 a r d (.inr rfl);cases e:(jW k j.Plan.Move 2).2<;>rw[e]at b
  ·refine fM 59 [(406,[2,0,0])] [(2,283,[20,21,22,23,24,25,26,27,28,29,30,31,32,33,34,35,36,37,38,39,40,41,42,19,43,44,4,0,1,2,3,4,5,6,7,8,9,10,11,12,13,14,15,16,17,18,19,20,21,22,23,24,25,26,27,1025,28])] [(0,0),(1,0)] Tryz.func409 rfl (λu q=>?_) (.inr trivial)
   repeat'(first|refine gD ?_|(conv=>whnf);first|refine C9 ?_|refine CH (b) (.inl rfl) ?_)
   refine CE rfl rfl ?_;rw[<-g];exact wC
  ·refine fM 59 [(406,[2,0,0])] [(2,283,[20,21,22,23,24,25,26,27,28,29,30,31,32,33,34,35,36,37,38,39,40,41,42,19,43,44,4,0,1,2,3,4,5,6,7,8,9,10,11,12,13,14,15,16,17,18,19,20,21,22,23,24,25,26,27,1025,28])] [(0,0),(1,0)] Tryz.func409 rfl (λu q=>?_) (.inr trivial)
   repeat'(first|refine gD ?_|(conv=>whnf);first|refine C9 ?_|refine CH (b) (.inl rfl) ?_)
   refine CE rfl rfl ?_;exact wC
theorem yY(k:af)(j:cN)(g:jmay k j=true):aQ Tryz.prog 396 false [.ptr (af.enc .own k),.ptr (ve j)] [.ptr (af.enc .own (jstep k j).1),.ptr (ve (jstep k j).2)] (.tup []) []:=by
 obtain⟨⟨h,p⟩,B,c,b,l⟩:=lJ.1 g;obtain⟨r,F,G,H,J⟩:=fx.1 B;have n:j.Plan.Move≠j.Plan.Keep:=λe=>l (by rw[e])
 have C:=l7 r;by_cases d:j.Phase=0
 ·have a:=mU k j.Plan.Move 1 h p b (.inl rfl)
  unfold jstep;rw[C8 d];cases e:(jW k j.Plan.Move 1).2<;>rw[e]at a
  ·refine fM 80 [(406,[2,0,0]),(407,[2,0,0,0]),(408,[2,0,0]),(409,[2,2])] [(7,7,[27,28,29,30,31,32,33]),(9,14,[38,39,40,41,42,43,44,45,46,47,48,49,50,51])] [(0,0),(1,0)] Tryz.func396 rfl (λu q=>?_) (.inr trivial)
   repeat'(first|refine gA ?_|(conv=>whnf);first|refine C9 ?_|refine CH (a) (.inl rfl) ?_)
   refine CE rfl rfl ?_;exact wC
  ·refine fM 80 [(406,[2,0,0]),(407,[2,0,0,0]),(408,[2,0,0]),(409,[2,2])] [(7,7,[27,28,29,30,31,32,33]),(9,14,[38,39,40,41,42,43,44,45,46,47,48,49,50,51])] [(0,0),(1,0)] Tryz.func396 rfl (λu q=>?_) (.inr trivial)
   repeat'(first|refine gA ?_|(conv=>whnf);first|refine C9 ?_|refine CH (a) (.inl rfl) ?_)
   refine CE rfl rfl ?_;exact wC
 by_cases o:j.Phase=1
 ·unfold jstep
  rw[C7 d,C8 o];by_cases t:j.Next=j.Plan.Cells.length
  ·rw[C8 t]
   refine fM 80 [(406,[2,0,0]),(407,[2,0,0,0]),(408,[2,0,0]),(409,[2,2])] [(7,7,[27,28,29,30,31,32,33]),(9,14,[38,39,40,41,42,43,44,45,46,47,48,49,50,51])] [(0,0),(1,0)] Tryz.func396 rfl (λu q=>?_) (.inr trivial)
   repeat'(first|refine gA ?_|(conv=>whnf);first|refine C9 ?_|refine C9 ?_)
   refine CE rfl rfl ?_;exact wC
  ·rw[C7 t]
   have D:=ah (xs:=j.Plan.Cells) (i:=j.Next.toNat) ω;have a:=x7 k j.Plan.Move j.Plan.Keep (nth j.Plan.Cells j.Next.toNat) h b c (lM r ω);have E:=(lJ.1 g).2.1;refine fM 80 [(406,[2,0,0]),(407,[2,0,0,0]),(408,[2,0,0]),(409,[2,2])] [(7,7,[27,28,29,30,31,32,33]),(9,14,[38,39,40,41,42,43,44,45,46,47,48,49,50,51])] [(0,0),(1,0)] Tryz.func396 rfl (λu q=>?_) (.inr trivial)
   repeat'(first|refine gA ?_|(conv=>whnf);first|refine C9 ?_|refine CH a (.inr ⟨rfl,af.enc_fr _,trivial⟩) ?_|refine CK ω (aa D) ?_|refine C9 ?_)
   refine CE rfl rfl ?_;exact wC
 by_cases w:j.Phase=2
 ·have a:=Ec k j.Plan.Move j.Plan.Keep h p b c n
  unfold jstep;rw[C7 d,C7 o,C8 w];cases e:(zq k j.Plan.Move j.Plan.Keep).2<;>rw[e]at a
  ·refine fM 80 [(406,[2,0,0]),(407,[2,0,0,0]),(408,[2,0,0]),(409,[2,2])] [(7,7,[27,28,29,30,31,32,33]),(9,14,[38,39,40,41,42,43,44,45,46,47,48,49,50,51])] [(0,0),(1,0)] Tryz.func396 rfl (λu q=>?_) (.inr trivial)
   repeat'(first|refine gA ?_|(conv=>whnf);first|refine C9 ?_|refine CH (a) (.inl rfl) ?_)
   refine CE rfl rfl ?_;exact wC
  ·refine fM 80 [(406,[2,0,0]),(407,[2,0,0,0]),(408,[2,0,0]),(409,[2,2])] [(7,7,[27,28,29,30,31,32,33]),(9,14,[38,39,40,41,42,43,44,45,46,47,48,49,50,51])] [(0,0),(1,0)] Tryz.func396 rfl (λu q=>?_) (.inr trivial)
   repeat'(first|refine gA ?_|(conv=>whnf);first|refine C9 ?_|refine CH (a) (.inl rfl) ?_)
   refine CE rfl rfl ?_;exact wC
 by_cases y:j.Phase=3
 ·have a:=zR k j g y
  refine fM 80 [(406,[2,0,0]),(407,[2,0,0,0]),(408,[2,0,0]),(409,[2,2])] [(7,7,[27,28,29,30,31,32,33]),(9,14,[38,39,40,41,42,43,44,45,46,47,48,49,50,51])] [(0,0),(1,0)] Tryz.func396 rfl (λu q=>?_) (.inr trivial)
  repeat'(first|refine gA ?_|(conv=>whnf);first|refine C9 ?_|refine CH (a) (.inl rfl) ?_)
  refine CE rfl rfl ?_;exact wC
 ·unfold jstep
  rw[C7 d,C7 o,C7 w,C7 y];refine fM 80 [(406,[2,0,0]),(407,[2,0,0,0]),(408,[2,0,0]),(409,[2,2])] [(7,7,[27,28,29,30,31,32,33]),(9,14,[38,39,40,41,42,43,44,45,46,47,48,49,50,51])] [(0,0),(1,0)] Tryz.func396 rfl (λu q=>?_) (.inr trivial)
  repeat'(first|refine gA ?_|(conv=>whnf);first|refine C9 ?_)
  refine CE rfl rfl ?_;exact wC
theorem Bb(k:af)(j:cN)(e:aB k=true)(i:jf j=true):ao Tryz.prog 395 false [.val (some 5) (af.enc .imm k),.val (some 5) (cN.enc .imm j)] .one [B (jmay k j)]:=by
 have c:=bF e;have b:dy (af.enc .imm k)=af.enc .imm k:=by rw[<-CP k,oO]
 have r:=(aF.1 e).2.2.2.2;have a:=ky k c;rw[e]at a;have d:=vR j (Hd i);rw[i]at d;have l:=ed k j.Plan.Keep c.1.2;have n:=ed k j.Plan.Move c.1.2;have t:=db k.Machine.Table j.Plan.Keep c.1.2;have u:=db k.Machine.Table j.Plan.Move c.1.2;by_cases o:k.Calls=100000
 ·rw[Q0 ω]at a
  rw[show jmay k j=false by rw[<-I4,lJ];exact λh=>h.1.2 o];refine fO 44 [(3,16,[27,28,29,30,31,32,33,34,35,36,37,38,39,40,41,42])] Tryz.func395 rfl ?_
  repeat'(first|refine gO ?_|(conv=>whnf);first|refine C9 ?_|refine C6 (a) ?_|refine C6 (d) ?_)
  rfl
 rw[O0 ω]at a;by_cases p:(ar k.Machine.Table j.Plan.Keep).Mode=0
 ·rw[show jmay k j=false by rw[<-I4,lJ];exact λh=>h.2.2.1 p]
  refine fO 44 [(3,16,[27,28,29,30,31,32,33,34,35,36,37,38,39,40,41,42])] Tryz.func395 rfl ?_
  repeat'(first|refine gA ?_|(conv=>whnf);first|refine C9 ?_|refine C6 (a) ?_|refine C6 (d) ?_|refine CF (l) ⟨b,⟨rfl,rfl⟩,trivial⟩ ?_|refine CF (n) ⟨b,⟨rfl,rfl⟩,trivial⟩ ?_)
  rfl
 by_cases q:(ar k.Machine.Table j.Plan.Move).Mode=0
 ·rw[show jmay k j=false by rw[<-I4,lJ];exact λh=>h.2.2.2.1 q]
  refine fO 44 [(3,16,[27,28,29,30,31,32,33,34,35,36,37,38,39,40,41,42])] Tryz.func395 rfl ?_
  repeat'(first|refine gA ?_|(conv=>whnf);first|refine C9 ?_|refine C6 (a) ?_|refine C6 (d) ?_|refine CF (l) ⟨b,⟨rfl,rfl⟩,trivial⟩ ?_|refine CF (n) ⟨b,⟨rfl,rfl⟩,trivial⟩ ?_)
  rfl
 refine fO 44 [(3,16,[27,28,29,30,31,32,33,34,35,36,37,38,39,40,41,42])] Tryz.func395 rfl ?_
 repeat'(first|refine gA ?_|(conv=>whnf);first|refine C9 ?_|refine C6 (a) ?_|refine C6 (d) ?_|refine CF (l) ⟨b,⟨rfl,rfl⟩,trivial⟩ ?_|refine CF (n) ⟨b,⟨rfl,rfl⟩,trivial⟩ ?_|refine C6 (t) ?_|refine C6 (u) ?_|refine C9 ?_)
 exact T0 (λz=>[B z]) (by
   unfold jmay;rw[e,i,O0 o];by_cases g:(ar k.Machine.Table j.Plan.Keep).Frame=(ar k.Machine.Table j.Plan.Move).Frame
   · rw[Q0 (λh=>h.2.2 g)];simp[g]
   · rw[O0 ⟨p,q,g⟩];simp[g])
theorem zy(j:cN):ao Tryz.prog 397 false [.val (some 5) (cN.enc .imm j)] .one [B (over j)]:=by
 by_cases a:j.Phase=4
 ·rw[show over j=true from O0 (.inl a)]
  refine fO 11 [] Tryz.func397 rfl ?_
  repeat'(first|refine gA ?_|(conv=>whnf);first|refine C9 ?_)
  rfl
 ·rw[show over j=decide (j.Phase=5) from decide_eq_decide.2 ω]
  refine fO 11 [] Tryz.func397 rfl ?_
  repeat'(first|refine gA ?_|(conv=>whnf);first|refine C9 ?_)
  exact T0 (λz=>[B z]) (by rw[Y3];simp)
def FX(x:ab):List C:=(bu x).set 21 .z
theorem Da{x:ab}(h:x.Job.Plan.Cells=[]):JF (FX x) (bu x):=by
 unfold FX bu;simp only[List.set,h,List.map_nil]
 repeat'(first|exact trivial|exact dq _|refine CI ?_ ?_|rfl)
theorem Ai(h:ab)(j:bp h [])(k:h.Meshing=true):aQ Tryz.prog 368 false [.ptr (bu h)] [.ptr (bu (mStep h))] .one [B (AB h)]:=by
 obtain⟨l,-,-⟩:=j.job k;have b:=Bb h.Kernel h.Job j.ker l;have a:=zy (jh h.Kernel h.Job).2;unfold AB mStep;cases e:jmay h.Kernel h.Job with
 | false=>
  rw[e]at b;have d:jh h.Kernel h.Job=(h.Kernel,h.Job):=by unfold jh;rw[e];rfl
  rw[d]at a |-;simp only at a |-;cases g:over h.Job<;>rw[g]at a
  ·refine fM 39 [(396,[3,5,5])] [(1,8,[4,5,6,7,8,9,10,11]),(2,6,[13,14,15,16,17,18])] [(0,0)] Tryz.func368 rfl (λu q=>?_)
   repeat'(first|refine gO ?_|(conv=>whnf);first|refine CF (b) ⟨⟨rfl,CP h.Kernel⟩,⟨rfl,rfl⟩,trivial⟩ ?_|refine C6 (a) ?_|refine C9 ?_)
   refine CE rfl ?_ ?_
   ·exact T0 (λz=>[B z]) (by rw[Y3];simp)
   ·exact wC
  ·refine aQ.wk (c:=FX _) ?_ (Da rfl)
   refine fM 39 [(396,[3,5,5])] [(1,8,[4,5,6,7,8,9,10,11]),(2,6,[13,14,15,16,17,18])] [(0,0)] Tryz.func368 rfl (λu q=>?_)
   repeat'(first|refine gO ?_|(conv=>whnf);first|refine CF (b) ⟨⟨rfl,CP h.Kernel⟩,⟨rfl,rfl⟩,trivial⟩ ?_|refine C6 (a) ?_|refine C9 ?_)
   refine CE rfl ?_ ?_
   ·exact T0 (λz=>[B z]) (by rw[Y3];simp)
   ·exact wC
 | true=>
  rw[e]at b;have d:jh h.Kernel h.Job=jstep h.Kernel h.Job:=by unfold jh;rw[e];rfl
  have i:=yY h.Kernel h.Job e;rw[d]at a |-;generalize jstep h.Kernel h.Job=r at i a |-;cases g:over r.2<;>rw[g]at a
  ·refine fM 39 [(396,[3,5,5])] [(1,8,[4,5,6,7,8,9,10,11]),(2,6,[13,14,15,16,17,18])] [(0,0)] Tryz.func368 rfl (λu q=>?_)
   repeat'(first|refine gO ?_|(conv=>whnf);first|refine CF (b) ⟨⟨rfl,CP h.Kernel⟩,⟨rfl,rfl⟩,trivial⟩ ?_|refine C6 (a) ?_|refine CH (i) (.inl rfl) ?_|refine C9 ?_)
   refine CE rfl ?_ ?_
   ·exact T0 (λz=>[B z]) (by rw[Y3];simp)
   ·exact wC
  ·refine aQ.wk (c:=FX _) ?_ (Da rfl)
   refine fM 39 [(396,[3,5,5])] [(1,8,[4,5,6,7,8,9,10,11]),(2,6,[13,14,15,16,17,18])] [(0,0)] Tryz.func368 rfl (λu q=>?_)
   repeat'(first|refine gO ?_|(conv=>whnf);first|refine CF (b) ⟨⟨rfl,CP h.Kernel⟩,⟨rfl,rfl⟩,trivial⟩ ?_|refine C6 (a) ?_|refine CH (i) (.inl rfl) ?_|refine C9 ?_)
   refine CE rfl ?_ ?_
   ·exact T0 (λz=>[B z]) (by rw[Y3];simp)
   ·exact wC
theorem F4{k:Int} : ∀{l s s2 c:List Int}(n:Nat),(∀x∈s2,x∈s)->qj k s l=some c->∃d,qj k s2 (l.take n)=some d/\∀x∈d,x∈c
 | [],s,s2,c,n,h,e=>by
  simp only[qj,U0,List.take_nil]at e |-;subst e;exact⟨s2,rfl,h⟩
 | a::l,s,s2,c,0,h,e=>⟨s2,rfl,λx b=>(nH (λ_ y=>y) e).1 x (h x b)⟩
 | a::l,s,s2,c,n+1,h,e=>by
  simp only[List.take_succ_cons,qj]at e |-;split at e
  ·rename_i g
   rw[C8 (show good k s2 a from⟨g.1,g.2.1,g.2.2.1,λx=>g.2.2.2 (h a x)⟩)];exact F4 (l:=l) (s:=s++[a]) (s2:=s2++[a]) n (λx b=>by
     rcases O2.1 b with b|b
     · exact O2.2 (.inl (h x b))
     · exact O2.2 (.inr b)) e
  ·cases e
theorem Df:∀{a:List (List Int)}{k:Nat}{s s2:List Int}(i n:Nat),(∀x∈s2,x∈s)->(fJ k s a).isSome=true->(fJ k s2 (a.set i ((nth a i).take n))).isSome=true
 | [],_,_,_,_,_,_,_=>rfl
 | l::a,k,s,s2,i,n,h,e=>by
  simp only[fJ,dS]at e;split at e
  ·rename_i g
   cases b:qj k s l with
   | none=>rw[b]at e;cases e
   | some j=>
    rw[b]at e;cases i with
    | zero=>
     obtain⟨c,d,f⟩:=F4 n h b;simp only[List.set_cons_zero,fJ,dS];rw[C8 ⟨by have:=g.1;simp only[nth,List.getD_cons_zero,I1];omega,g.2⟩];show((qj (k:Nat) s2 (l.take n)).bind λj=>fJ (k+1) j a).isSome=true;rw[d];exact rN f e
    | succ i=>
     obtain⟨o,c,d,f⟩:=nH h b;simp only[List.set_cons_succ,fJ,dS];rw[C8 g,d];exact Df i n f e
  ·cases e
theorem Lg{c:ay}(h:bm c=true)(k:Nat):bm (qw c k)=true:=by
 unfold bm at h |-;simp only[I0,C0]at h |-;exact⟨by simp only[qw,C1];exact h.1,Df k _ (λ_ h=>h) h.2⟩
def nR(b:Int):Nat->List Int
 | 0=>[]
 | j+1=>if aS b (j:Nat)=true then nR b j else nR b j++[((j:Nat):Int)]
theorem sF{b:Int} : ∀{n:Nat}{z:Int},z∈nR b n->0<=z/\z<n/\aS b z=false
 | 0,_,h=>by cases h
 | n+1,z,h=>by
  unfold nR at h;split at h
  ·have:=sF h;exact⟨this.1,ω,this.2.2⟩
  ·rename_i e
   rcases O2.1 h with h|h
   ·have:=sF h;exact⟨this.1,ω,this.2.2⟩
   ·rw[Z0.1 h];exact⟨ω,ω,by simpa using e⟩
theorem sE(b:Int):∀n,(nR b n).length<=n
 | 0=>Q2 _
 | n+1=>by have:=sE b n;unfold nR;split<;>simp<;>omega
def pS(k b:Int):List Int:=if KL k b=true then nR b (slots k).toNat else []
def mF(h:ab)(i:Nat):List Int:=pS (nth h.Spans i).Class (gz h i)
theorem uL{k b z:Int}(h:z∈pS k b):0<=z/\z<slots k/\aS b z=false:=by
 unfold pS at h;split at h
 ·have:=sF h;exact⟨this.1,ω,this.2.2⟩
 ·cases h
theorem Ei(k b:Int):(pS k b).length<=16:=by
 unfold pS;split
 ·rename_i h
  unfold KL at h;rw[C0]at h;have:=(fY (k:=k) ⟨h.1,h.2.1⟩).2.2.1;have:=sE b (slots k).toNat;omega
 ·exact R0 _
def pz(h:ab)(i:Nat):Int:=nth (mF h i) (Jb h.Seed ((mF h i).length:Nat)).toNat
def slotT(h:ab)(i:Nat):ab:={h with Seed:=Fy h.Seed,Spans:=h.Spans.set i (pQ (nth h.Spans i) (pz h i))}
def tA(h:ab)(i:Nat):Int:=16*(nth h.Spans i).Page+pz h i*csz (nth h.Spans i).Class
theorem ye{h:ab}{i:Nat}(a:0<(mF h i).length):pz h i∈mF h i:=by
 have:=wz h.Seed (n:=((mF h i).length:Nat)) ω;exact am ω
theorem bp.slotT{h:ab}{E:List Int}{i:Nat}(a:bp h E)(b:i<h.Spans.length)(e:0<(mF h i).length):bp (slotT h i) (tA h i::E)/\jl (slotT h i).Spans (tA h i) (nth h.Spans i).Class:=by
 obtain⟨c,d,f⟩:=uL (ye e);exact⟨a.take b ⟨c,d⟩ f (EH _),(jl.setS a.L b ⟨c,d⟩ _ _).2 (.inr ⟨rfl,.inr rfl⟩)⟩
def sN(h:ab)(c:Int)(i:Nat):Bool:=decide ((nth h.Spans i).Class=c)&&(!gt h (nth h.Spans i).Page&&decide (0<(mF h i).length))
def su(h:ab)(c:Int):Option Nat:=(List.range h.Spans.length).find? (sN h c)
def vf(h:ab)(c:Int):ab:=addS h (ge h.Kernel (a7 h.Free 1).2.1).1 (a7 h.Free 1).1 (a7 h.Free 1).2.1 c
def uf(h:ab):Nat:=jw (Hy (a7 h.Free 1).2.1) h.Spans
def qz(h:ab)(i:Nat):ab × Int:=if(mF h i).length=0 then(h,-1) else(slotT h i,tA h i)
def gr(h:ab)(t c:Nat):ab × Int:=
 if 0<(nth (nth h.Caches t).Lists c).length then({h with Caches:=h.Caches.set t (qw (nth h.Caches t) c)},nth (nth (nth h.Caches t).Lists c) ((nth (nth h.Caches t).Lists c).length - 1))
 else match su h c with
 | some i=>(slotT h i,tA h i)
 | none=>if(a7 h.Free 1).2.2=false then(h,-1)
  else if(ge h.Kernel (a7 h.Free 1).2.1).2=false then({h with Kernel:=(ge h.Kernel (a7 h.Free 1).2.1).1},-1)
  else qz (vf h c) (uf h)
theorem F9{α:Type}[Inhabited α](p:α->Bool)(xs:List α)(y:α):jw p xs<(jg p xs y).length/\nth (jg p xs y) (jw p xs)=y:=by
 have b:=Mh p xs;have a:(xs.take (jw p xs)).length=jw p xs:=by rw[I1];omega
 refine⟨by rw[(jK p xs y).length_eq,List.length_cons];omega,bo ?_⟩;unfold jg;rw[W3 ω,a,Nat.sub_self]
 rfl
theorem bp.tEq{h:ab}{E:List Int}(a:bp h E){k:af}(c:aB k=true)(b:tEq (tbl h) k.Machine.Table):bp {h with Kernel:=k} E/\JK h {h with Kernel:=k}:=
 ⟨a.step (j:=h.Job) (m:=h.Meshing) c b.1 (a.pg.tEq b) a.job a.noj,⟨rfl,rfl,λs d _=>⟨s,d,rfl,λ_ z=>z⟩,λq e=>.inl ⟨(b.2 q).1.1 e,(b.2 q).2⟩⟩⟩
structure Ph(h:ab)(c:Int)(r:ab × Int):Prop where
 no:r.2<0->bp r.1 []
 yes:0<=r.2->bp r.1 [r.2]/\jl r.1.Spans r.2 c
 jk:JK h r.1
 nx:r.1.Next=h.Next
 cl:r.1.Caches.length=h.Caches.length
theorem jl.nn{h:ab}{E:List Int}(b:bp h E){a c:Int}(d:jl h.Spans a c):0<=a:=(jl.bd b d).1
theorem Ph.slot{h h':ab}{i:Nat}{c:Int}(g:bp h' [])(j:i<h'.Spans.length)(k:0<(mF h' i).length)(l:(nth h'.Spans i).Class=c)(n:JK h h')(a:gt h' (nth h'.Spans i).Page=false)(h1:h'.Next=h.Next)(o:h'.Caches.length=h.Caches.length):Ph h c (slotT h' i,tA h' i):=by
 obtain⟨d,f⟩:=g.slotT j k;have b:=jl.nn d f;exact⟨λe=>absurd b (by simp only at e;omega),λ_=>⟨d,by rw[<-l];exact f⟩,n.trans (JK.take a),h1,o⟩
theorem yy{h:ab}{t c:Nat}(a:bp h [])(q:t<h.Caches.length)(P:c<=3)(B:h.Kernel.Calls<=90000):Ph h c (gr h t c):=by
 have f:=a.cach _ (am q);have C:=sV f;unfold gr;split
 ·rename_i D
  obtain⟨d,b⟩:=a.pop q ω D (Lg f c);have l:=jl.nn a b;exact⟨λe=>absurd l (by simp only at e;omega),λ_=>⟨d,b⟩,JK.eq rfl rfl rfl rfl,rfl,C1 ..⟩
 split
 ·rename_i i r
  have g:=List.find?_some r;have E:=List.mem_range.1 (List.mem_of_find?_eq_some r);unfold sN at g;simp only[I0,C0,Bool.not_eq_true']at g;exact Ph.slot a E g.2.2 g.1 (JK.refl h) g.2.1 rfl rfl
 split
 ·exact⟨λ_=>a,λe=>absurd e (by show ¬(0:Int)<=-1;decide),JK.refl h,rfl,rfl⟩
 rename_i F;have j:(a7 h.Free 1).2.2=true:=by simpa using F
 obtain⟨G,H,J,u⟩:=kH a (t4 1) j;have s:=Au.of (p:=(a7 h.Free 1).2.1) a.ker ω ⟨G,by have:(a7 h.Free 1).2.1+1<=(h.Kernel.Machine.Table.Entries.length:Nat):=H;omega⟩ (J _ ω ω);split
 ·rename_i n
  rw[s.no n];obtain⟨d,b⟩:=a.tEq (lA a.ker ω) (tEq.refl _);exact⟨λ_=>d,λe=>absurd e (by show ¬(0:Int)<=-1;decide),b,rfl,rfl⟩
 rename_i n;have o:(ge h.Kernel (a7 h.Free 1).2.1).2=true:=by simpa using n
 have w:Au h.Kernel (a7 h.Free 1).2.1 ((ge h.Kernel (a7 h.Free 1).2.1).1,true):=by rw[<-o];exact s
 have d:=a.addS (c:=c) ⟨ω,ω⟩ j w;have b:JK h (vf h c):=JK.addS w;obtain⟨K,A⟩:=F9 (Hy (a7 h.Free 1).2.1) h.Spans ⟨(a7 h.Free 1).2.1,c,0⟩;unfold qz;split
 ·exact⟨λ_=>d,λe=>absurd e (by show ¬(0:Int)<=-1;decide),b,rfl,rfl⟩
 ·refine Ph.slot (h':=vf h c) (i:=uf h) d K ω (by show(nth (jg (Hy (a7 h.Free 1).2.1) h.Spans ⟨(a7 h.Free 1).2.1,c,0⟩) (uf h)).Class=_;unfold uf;rw[A]) b ?_ rfl rfl
  show gt (vf h c) (nth (jg (Hy (a7 h.Free 1).2.1) h.Spans ⟨(a7 h.Free 1).2.1,c,0⟩) (uf h)).Page=false;unfold uf;rw[A,b.pg];rw[<-I4];intro k;unfold gt at k;simp only[I0,X4,C0]at k;obtain⟨-,⟨y,L,M⟩,⟨z,N,O⟩⟩:=a.job k.1;rcases k.2 with e|e
  ·exact u _ (t4 _) ω (by rw[e,<-M];exact d8 L)
  ·exact u _ (t4 _) ω (by rw[e,<-O];exact d8 N)
def lK(size:Int):Nat:=((size+15) / 16).toNat
def iH(h:ab)(size:Int):af × Nat:=cK h.Kernel (a7 h.Free (lK size:Nat)).2.1 (lK size)
def pL(h:ab)(t size:Int):ab × Int × Int:=
 if(a7 h.Free (lK size:Nat)).2.2=false then(h,-1,4)
 else if(iH h size).2=lK size then(addL h (iH h size).1 (a7 h.Free (lK size:Nat)).1 (a7 h.Free (lK size:Nat)).2.1 (lK size:Nat) size t,16*(a7 h.Free (lK size:Nat)).2.1,0)
 else({h with Kernel:=dR (iH h size).1 (a7 h.Free (lK size:Nat)).2.1 (iH h size).2},-1,4)
def sq(xs:List bB):Nat->Int
 | 0=>0
 | i+1=>sq xs i+(nth xs i).Size
def uK(h:ab):Int:=sq h.Objs h.Objs.length
def gp(h:ab)(t size:Int):ab × Int × Int:=
 if 1000000<=h.Next\/90000<h.Kernel.Calls then(h,-1,5)
 else if ¬(0<=t/\t<=h.Caches.length - 1) then(h,-1,1)
 else if ¬(1<=size/\size<=1000) then(h,-1,2)
 else if h.Limit<uK h+size then(h,-1,3)
 else if 0<=aK size then(if(gr h t.toNat (aK size).toNat).2<0 then((gr h t.toNat (aK size).toNat).1,-1,4) else(addO (gr h t.toNat (aK size).toNat).1 (gr h t.toNat (aK size).toNat).2 size t,(gr h t.toNat (aK size).toNat).2,0))
 else pL h t size
theorem Gu{h:ab}{t size:Int}(a:bp h [])(g:9<=size/\size<=1000)(i:h.Next<1000000)(j:h.Kernel.Calls<=90000)(k:0<=t/\t<=h.Caches.length - 1):bp (pL h t size).1 []/\JK h (pL h t size).1:=by
 have l:(lK size:Int)=(size+15) / 16:=by unfold lK;omega
 unfold pL;split
 ·exact⟨a,JK.refl h⟩
 rename_i o;have b:(a7 h.Free (lK size:Nat)).2.2=true:=by simpa using o
 obtain⟨c,d,e,w⟩:=kH a (show(1:Int)<=(lK size:Nat) by omega) b;have s:=ng.of (p:=(a7 h.Free (lK size:Nat)).2.1) (n:=lK size) a.ker ω ⟨c,d⟩ e (lK size) (Q2 _);split
 ·rename_i q
  have f:ng h.Kernel (a7 h.Free (lK size:Nat)).2.1 (lK size) ((iH h size).1,lK size):=by
   have:((iH h size).1,lK size)=iH h size:=by rw[<-q]
   rw[this];exact s
  exact⟨a.addL g l b f i k,JK.addL f⟩
 ·obtain⟨r,u⟩:=s.undo a.ker ⟨c,d⟩ e
  exact a.tEq r u
theorem G1{h:ab}{t size:Int}(a:bp h []):bp (gp h t size).1 []/\JK h (gp h t size).1:=by
 unfold gp;split
 ·exact⟨a,JK.refl h⟩
 rename_i d;rw[not_or]at d;split
 ·exact⟨a,JK.refl h⟩
 rename_i n;split
 ·exact⟨a,JK.refl h⟩
 rename_i o;split
 ·exact⟨a,JK.refl h⟩
 split
 ·rename_i b
  have f:aK size<=3:=by unfold aK;repeat' split<;>omega
  have s:=yy (t:=t.toNat) (c:=(aK size).toNat) a ω ω ω;generalize gr h t.toNat (aK size).toNat=r at s;split
  ·rename_i e;exact⟨s.no e,s.jk⟩
  ·rename_i e
   obtain⟨g,i⟩:=s.yes ω;refine⟨g.addO (.inl ?_) (by rw[s.nx];omega) (by rw[s.cl];omega),s.jk.trans (JK.eq rfl rfl rfl rfl)⟩;obtain⟨z,j,k,p⟩:=i;exact⟨z,j,k,by show z.Class=aK size;omega⟩
 ·rename_i b
  have l:9<=size:=by
   unfold aK at b
   repeat' split at b<;>omega
  exact Gu a ⟨l,ω⟩ ω ω ω
theorem mf{α β:Type}[Inhabited α]{f:α->β}{xs:List α}{i:Nat}{y:α}(a:i<xs.length)(e:f y=f (nth xs i)):(xs.set i y).map f=xs.map f:=by
 rw[W4];refine List.ext_getElem (by simp) λj b c=>?_
 rw[List.getElem_set];split
 ·rename_i g;subst g
  rw[List.getElem_map,e,bo (U1 a)]
 ·rfl
theorem mR{α β:Type}[Inhabited α](f:α->List β):∀(xs:List α)(i:Nat)(y:α),i<xs.length->(f y).Sublist (f (nth xs i))->((xs.set i y).flatMap f).Sublist (xs.flatMap f)
 | [],_,_,h,_=>absurd h (Nat.not_lt_zero _)
 | x::xs,0,y,_,a=>by
  rw[List.set_cons_zero,v5,v5];exact List.Sublist.append a (List.Sublist.refl _)
 | x::xs,i+1,y,h,a=>by
  rw[List.set_cons_succ,v5,v5];exact List.Sublist.append (List.Sublist.refl _) (mR f xs i y (by simpa using h) a)
def zK(k:af)(a:Int):Nat->af
 | 0=>k
 | m+1=>kA (zK k a m) (a+m) 0
theorem v6(k:af)(a:Int):∀m,(zK k a m).Machine.Table=k.Machine.Table/\(zK k a m).Calls=k.Calls/\(zK k a m).Refuse=k.Refuse
 | 0=>⟨rfl,rfl,rfl⟩
 | m+1=>v6 k a m
theorem MF{k:af}(h:aB k=true){a:Int} : ∀{m:Nat},(∀j:Nat,j<m->(ar k.Machine.Table ((a+j) / 16)).Mode≠0)->aB (zK k a m)=true
 | 0,_=>h
 | m+1,b=>vZ (MF h λj c=>b j ω) (by rw[(v6 k a m).1];exact b m ω) ⟨ω,ω⟩
theorem Ek{h:ab}{E:List Int}(j:bp h E){sp:List au}{la:List a8}{o:List aA}{p:Int}{n:Nat}(y:p+n<=h.Kernel.Machine.Table.Entries.length)(A:sp.Sublist h.Spans)(M:∀l∈la,∀q∈lpgs l l.Pages.toNat,∃w∈h.Larges,q∈lpgs w w.Pages.toNat)(N:0<=p)(B:∀q,q∈pgs sp la↔q∈pgs h.Spans h.Larges/\¬(p<=q/\q<p+n))(O:∀q,RH o q↔RH h.Free q\/(p<=q/\q<p+n)) :
  Pg (dR h.Kernel p n).Machine.Table o sp la:=by
 have b:=(iv h.Kernel p n).1;have d:=lE j.ker N n y;have f:∀q:Nat,(q:Int)∈pgs sp la->nth (dR h.Kernel p n).Machine.Table.Entries q=nth (tbl h).Entries q:=λq c=>by rw[d,C7 ((B q).1 c).2];rfl
 have a:∀q:Nat,(nth (dR h.Kernel p n).Machine.Table.Entries q).Mode≠0↔(nth (tbl h).Entries q).Mode≠0/\¬(p<=q/\(q:Int)<p+n):=λq=>by
  rw[d];by_cases e:p<=q/\(q:Int)<p+n
  ·rw[C8 e];exact⟨λx=>absurd rfl x,λx=>absurd e x.2⟩
  ·rw[C7 e];exact⟨λx=>⟨x,e⟩,λx=>x.1⟩
 refine⟨λl g q c r J C k=>?_,λq c=>?_,λq c=>?_,λq c=>?_,λs g u D F K=>?_⟩
 ·have t:=(a r).1 C
  rw[b]at J;rw[f q (fm g c),d,C7 t.2]at k;obtain⟨w,G,H⟩:=M l g _ c;exact j.pg.one w G q H r J t.1 k
 ·rw[b];exact j.pg.bnd q ((B q).1 c).1
 ·rw[b]at c
  rw[a,B,j.pg.own q c]
 ·rw[b]at c
  rw[a,O,j.pg.fre q c]
  grind
 ·have i:∀s∈sp,0<=s.Page:=λs g=>(aE (j.L.sok s (A.subset g))).1
  have P:=f s.Page.toNat (by rw[Int.toNat_of_nonneg (i s g)];exact d8 g);have Q:=f u.Page.toNat (by rw[Int.toNat_of_nonneg (i u D)];exact d8 D);rw[P,Q]at K;exact j.pg.mesh s (A.subset g) u (A.subset D) F K
def trimL(l:a8)(size:Int):a8:=⟨l.Page,(size+15) / 16,size⟩
def dI(l:a8)(size:Int):Nat:=(l.Pages - (size+15) / 16).toNat
theorem bp.trimL{h:ab}{E:List Int}{i k:Nat}{size:Int}(t:bp h E)(T:i<h.Objs.length)(H:k<h.Larges.length)(Y:(nth h.Objs i).Addr=16*(nth h.Larges k).Page)(N:9<=size/\size<=(nth h.Larges k).Size) :
  ∃o,(dI (nth h.Larges k) size=0->o=h.Free)/\(0<dI (nth h.Larges k) size->d2 (dQ h) h.Free ⟨(nth h.Larges k).Page+(size+15) / 16,(dI (nth h.Larges k) size:Nat)⟩ = some o)/\
   bp {h with Kernel:=dR h.Kernel ((nth h.Larges k).Page+(size+15) / 16) (dI (nth h.Larges k) size),Larges:=h.Larges.set k (trimL (nth h.Larges k) size),Objs:=h.Objs.set i {nth h.Objs i with Size:=size},Free:=o} E:=by
 have U:=t.L;have C:=U.lok _ (am H);have hf:=aR C;unfold bP at C;rw[C0]at C;obtain⟨b1,b2⟩:=Ac t H;have O:=U.dis;have G:=λj n=>U.one j k n H
 have y:=(am H:nth h.Larges k∈h.Larges)
 have d:∀z∈h.Larges.set k (Ab.trimL (nth h.Larges k) size),z=Ab.trimL (nth h.Larges k) size\/∃j,j<h.Larges.length/\j≠k/\nth h.Larges j=z:=λz N=>eK N
 have p:Ab.trimL (nth h.Larges k) size∈h.Larges.set k (Ab.trimL (nth h.Larges k) size):=iq _ H;have u:∀j,j<h.Larges.length->j≠k->nth h.Larges j∈h.Larges.set k (Ab.trimL (nth h.Larges k) size):=λj n e=>iX _ n e
 have hpageM:(h.Larges.set k (Ab.trimL (nth h.Larges k) size)).map (·.Page)=h.Larges.map (·.Page):=mf H rfl;have w:(pgs h.Spans (h.Larges.set k (Ab.trimL (nth h.Larges k) size))).Sublist (pgs h.Spans h.Larges):=by
  unfold pgs;refine List.Sublist.append (List.Sublist.refl _) (mR _ _ _ _ H ?_);unfold lpgs;exact(List.range_sublist.2 (by simp only[Ab.trimL];omega)).map _
 obtain⟨l,V⟩ : ∃l,nth h.Larges k=l:=⟨_,rfl⟩
 rw[V]at C hf b1 b2 G y d p u hpageM w Y N |-;generalize hla:h.Larges.set k (Ab.trimL l size)=la at d p u hpageM w |-;have hn1:(1:Int)<=(size+15) / 16/\(size+15) / 16+(dI l size:Nat)=l.Pages:=by unfold dI;omega
 have D:∀q,q∈lpgs l l.Pages.toNat↔l.Page<=q/\q<l.Page+l.Pages:=λq=>by
  rw[di];constructor
  ·rintro⟨j,n,rfl⟩;omega
  ·rintro⟨Z,q2⟩;exact⟨(q - l.Page).toNat,ω,ω⟩
 have J:∀q,q∈lpgs (Ab.trimL l size) (Ab.trimL l size).Pages.toNat↔l.Page<=q/\q<l.Page+(size+15) / 16:=λq=>by
  rw[di];simp only[Ab.trimL];constructor
  ·rintro⟨j,n,rfl⟩;omega
  ·rintro⟨Z,q2⟩;exact⟨(q - l.Page).toNat,ω,ω⟩
 have hpe:l.Page+(size+15) / 16+(dI l size:Nat)=l.Page+l.Pages:=ω
 have P:∀q,q∈pgs h.Spans la↔q∈pgs h.Spans h.Larges/\¬(l.Page+(size+15) / 16<=q/\q<l.Page+(size+15) / 16+(dI l size:Nat)):=λq=>by
  rw[oI,oI,hpe];constructor
  ·rintro(⟨s,W,rfl⟩|⟨z,c,B⟩)
   ·exact⟨.inl ⟨s,W,rfl⟩,λe=>O s W l y (s.Page - l.Page).toNat ω ω⟩
   ·rcases d z c with rfl|⟨j,n,hjk,rfl⟩
    ·have:=(J q).1 B
     exact⟨.inr ⟨l,y,(D q).2 ⟨ω,ω⟩⟩,ω⟩
    ·refine⟨.inr ⟨_,am n,B⟩,λe=>?_⟩
     obtain⟨m,hm,rfl⟩:=di.1 B;exact hjk (G j n m ((nth h.Larges j).Page+(m:Int) - l.Page).toNat hm ω ω)
  ·rintro⟨⟨s,W,rfl⟩|⟨z,c,B⟩,hne⟩
   ·exact .inl ⟨s,W,rfl⟩
   ·obtain⟨j,n,rfl⟩:=aZ c
    by_cases e:j=k
    ·subst e
     rw[V]at B;have:=(D q).1 B;exact .inr ⟨_,p,(J q).2 ⟨ω,ω⟩⟩
    ·exact .inr ⟨_,u j n e,B⟩
 have K:∃o,(dI l size=0->o=h.Free)/\(0<dI l size->d2 (dQ h) h.Free ⟨l.Page+(size+15) / 16,(dI l size:Nat)⟩ = some o)/\bv (dQ h) o=true/\∀q,RH o q↔RH h.Free q\/(l.Page+(size+15) / 16<=q/\q<l.Page+(size+15) / 16+(dI l size:Nat)):=by
  by_cases e:dI l size=0
  ·refine⟨h.Free,λ_=>rfl,λg=>absurd g ω,t.rng,λq=>⟨.inl,λg=>g.resolve_right ω⟩⟩
  ·obtain⟨o,o1,o2,o3⟩:=tB (r:=⟨l.Page+(size+15) / 16,(dI l size:Nat)⟩) t.rng ⟨by simp only;omega,by simp only;omega,by show l.Page+(size+15) / 16+(dI l size:Nat)<=(dQ h:Int);have:((tbl h).Entries.length:Int)=(dQ h:Int):=rfl;omega⟩ λq Z q2=>by
    simp only at Z q2;obtain⟨m,rfl⟩:=I2 (show 0<=q by omega);have Q:m<(tbl h).Entries.length:=ω
    exact(t.pg.fre m Q).1 ((t.pg.own m Q).2 (fm y ((D _).2 ⟨ω,ω⟩)))
   exact⟨o,λg=>absurd g e,λ_=>o1,o2,o3⟩
 obtain⟨o,o0,o1,o2,o3⟩:=K;have R:=(iv h.Kernel (l.Page+(size+15) / 16) (dI l size)).1;have M:∀z∈h.Objs.set i {nth h.Objs i with Size:=size},z = {nth h.Objs i with Size:=size}\/∃j,j<h.Objs.length/\j≠i/\nth h.Objs j=z:=λz N=>eK N
 have F:(h.Objs.set i {nth h.Objs i with Size:=size}).map (·.Addr)=h.Objs.map (·.Addr):=mf T rfl;have S:(h.Objs.set i {nth h.Objs i with Size:=size}).map (·.Id)=h.Objs.map (·.Id):=mf T rfl;have hli:=(am T:nth h.Objs i∈h.Objs)
 generalize h.Objs.set i {nth h.Objs i with Size:=size} = ob at M F S |-;refine⟨o,o0,o1,{t with
   ker:=kq t.ker _ _
   rng:=by show bv (((dR h.Kernel (l.Page+(size+15) / 16) (dI l size)).Machine.Table.Entries.length:Nat):Int) o=true;rw[R];exact o2
   lay:=?_
   srl:=?_
   pg:=Ek t (by have:((tbl h).Entries.length:Int)=(h.Kernel.Machine.Table.Entries.length:Int):=rfl;omega) (List.Sublist.refl _) (λz c q B=>?_) ω P o3
   osr:=?_
   onu:=λz c=>?_
   oid:=by show(ob.map (·.Id)).Nodup;rw[S];exact t.oid
   oow:=λz c=>?_
   nd:=?_
   mem:=λb=>?_}⟩
 ·obtain⟨l1,l2,l3⟩:=cZ t.lay
  unfold bc;simp only[I0,C0];refine⟨⟨l1,I3.2 λz c=>?_⟩,l3.sublist w⟩;rcases d z c with rfl|⟨j,n,-,rfl⟩
  ·exact O0 ⟨N.1,by show size<=1000;omega,rfl,by show 0<=l.Page;omega,by show l.Page<=32 - (size+15) / 16;omega⟩
  ·exact U.lok _ (am n)
 ·have A:(h.Larges.map (·.Page)).Pairwise (λa b=>a<b):=List.pairwise_map.2 t.srl
  rw[<-hpageM]at A;exact List.pairwise_map.1 A
 ·rcases d z c with rfl|⟨j,n,-,rfl⟩
  ·have:=(J q).1 B
   exact⟨l,y,(D q).2 ⟨ω,ω⟩⟩
  ·exact⟨_,am n,B⟩
 ·have A:(h.Objs.map (·.Addr)).Pairwise (λa b=>a<b):=List.pairwise_map.2 t.osr
  rw[<-F]at A;exact List.pairwise_map.1 A
 ·rcases M z c with rfl|⟨j,n,-,rfl⟩
  ·exact t.onu (nth h.Objs i) hli
  ·exact t.onu _ (am n)
 ·rcases M z c with rfl|⟨j,n,hji,rfl⟩
  ·exact .inr ⟨_,p,Y,rfl⟩
  ·rcases t.oow _ (am n) with A|⟨l',hl',e1,X⟩
   ·exact .inl A
   ·obtain⟨m,hm,rfl⟩:=aZ hl'
    by_cases e:m=k
    ·subst e
     rw[V]at e1;exact absurd (gF (f:=(·.Addr)) (gX t.osr) n T (e1.trans Y.symm)) hji
    ·exact .inr ⟨_,u m hm e,e1,X⟩
 ·have hh:holders {h with Kernel:=dR h.Kernel (l.Page+(size+15) / 16) (dI l size),Larges:=la,Objs:=ob,Free:=o} = holders h:=by
   show((ob.map (·.Addr)++bQ h)++h.Quar.Lst.map (·.Addr))++aC h.Mail=_;rw[F];rfl
  rw[hh];exact t.nd
 ·have hh:holders {h with Kernel:=dR h.Kernel (l.Page+(size+15) / 16) (dI l size),Larges:=la,Objs:=ob,Free:=o} = holders h:=by
   show((ob.map (·.Addr)++bQ h)++h.Quar.Lst.map (·.Addr))++aC h.Mail=_;rw[F];rfl
  rw[hh,t.mem b];show Live h.Spans h.Larges b↔Live h.Spans la b;unfold Live;constructor
  ·rintro(A|⟨z,c,e⟩)
   ·exact .inl A
   ·obtain⟨j,n,rfl⟩:=aZ c
    by_cases X:j=k
    ·subst X
     rw[V]at e;exact .inr ⟨_,p,e⟩
    ·exact .inr ⟨_,u j n X,e⟩
  ·rintro(A|⟨z,c,e⟩)
   ·exact .inl A
   ·rcases d z c with rfl|⟨j,n,-,rfl⟩
    ·exact .inr ⟨l,y,e⟩
    ·exact .inr ⟨_,am n,e⟩
def tl(h:ab)(k:Nat)(size:Int):af:=zK h.Kernel (16*(nth h.Larges k).Page+size) (16*((size+15) / 16) - size).toNat
def FI(h:ab)(k:Nat)(size:Int):List aA:=if 0<dI (nth h.Larges k) size then(d2 (dQ h) h.Free ⟨(nth h.Larges k).Page+(size+15) / 16,(dI (nth h.Larges k) size:Nat)⟩).getD h.Free else h.Free
def trimH(h:ab)(i k:Nat)(size:Int):ab:={h with Kernel:=dR (tl h k size) ((nth h.Larges k).Page+(size+15) / 16) (dI (nth h.Larges k) size),Larges:=h.Larges.set k (trimL (nth h.Larges k) size),Objs:=h.Objs.set i {nth h.Objs i with Size:=size},Free:=FI h k size}
theorem np{h:ab}{E:List Int}(b:bp h E){k:Nat}(c:k<h.Larges.length){a:Int}(g:16*(nth h.Larges k).Page<=a/\a<16*(nth h.Larges k).Page+16*(nth h.Larges k).Pages):(ar h.Kernel.Machine.Table (a / 16)).Mode≠0:=by
 obtain⟨i,j⟩:=Ac b c;have l:=aR (b.L.lok _ (am c));have d:(a / 16)∈pgs h.Spans h.Larges:=fm (am c) (di.2 ⟨(a / 16 - (nth h.Larges k).Page).toNat,ω,ω⟩);have e:=b.pg.bnd _ d;have f:=(b.pg.own (a / 16).toNat ω).2 (by rw[show(((a / 16).toNat:Nat):Int)=a / 16 by omega];exact d);unfold ar;rw[C8 ⟨ω,e⟩];exact f
theorem Ba{h:ab}{E:List Int}(b:bp h E){k:Nat}(c:k<h.Larges.length){size:Int}(d:9<=size/\size<=(nth h.Larges k).Size):∀{m:Nat},m<=(16*((size+15) / 16) - size).toNat->aB (zK h.Kernel (16*(nth h.Larges k).Page+size) m)=true:=fun {m} hm=>by
 have a:=b.L.lok _ (am c);unfold bP at a;rw[C0]at a;exact MF b.ker λj e=>np b c ⟨ω,ω⟩
theorem bp.trimH{h:ab}{i k:Nat}{size:Int}(d:bp h [])(A:i<h.Objs.length)(f:k<h.Larges.length)(B:(nth h.Objs i).Addr=16*(nth h.Larges k).Page)(r:9<=size/\size<=(nth h.Larges k).Size):bp (trimH h i k size) []/\JK h (trimH h i k size):=by
 have t:=Ba d f r (Q2 _);have l:=(v6 h.Kernel (16*(nth h.Larges k).Page+size) (16*((size+15) / 16) - size).toNat).1;have C:=d.cells t l;obtain⟨o,u,w,y⟩:=C.trimL (i:=i) (k:=k) (size:=size) A f B r;simp only at u w y;have n:dQ {h with Kernel:=zK h.Kernel (16*(nth h.Larges k).Page+size) (16*((size+15) / 16) - size).toNat} = dQ h:=by
  unfold dQ;simp only[l]
 have D:FI h k size=o:=by
  unfold FI;split
  ·rename_i g;have:=w g;rw[n]at this;rw[this];rfl
  ·exact(u ω).symm
 have E:Ab.trimH h i k size = {h with Kernel:=dR (tl h k size) ((nth h.Larges k).Page+(size+15) / 16) (dI (nth h.Larges k) size),Larges:=h.Larges.set k (Ab.trimL (nth h.Larges k) size),Objs:=h.Objs.set i {nth h.Objs i with Size:=size},Free:=o}:=by unfold Ab.trimH;rw[D]
 refine⟨by rw[E];exact y,JK.less rfl rfl rfl λq j=>?_⟩;have a:=d.L.lok _ (am f);unfold bP at a;rw[C0]at a;obtain⟨F,G⟩:=Ac d f;have b:(tl h k size).Machine.Table=h.Kernel.Machine.Table:=l;have c:=lE (k:=tl h k size) t (p:=(nth h.Larges k).Page+(size+15) / 16) ω (dI (nth h.Larges k) size) (by rw[b];have:((tbl h).Entries.length:Int)=(h.Kernel.Machine.Table.Entries.length:Int):=rfl;unfold dI;omega) q;change (nth (dR (tl h k size) ((nth h.Larges k).Page+(size+15) / 16) (dI (nth h.Larges k) size)).Machine.Table.Entries q).Mode≠0 at j;show nth (dR (tl h k size) ((nth h.Larges k).Page+(size+15) / 16) (dI (nth h.Larges k) size)).Machine.Table.Entries q=nth h.Kernel.Machine.Table.Entries q;rw[c]at j |-;split at j
 ·exact absurd rfl j
 ·rename_i e;rw[C7 e,b]
theorem EF{t:Nat}(h:1<=t/\t<=4):bz (dC t)=true:=by
 have f:∀n,n<=t->br (dC t) n=0:=λn=>by
  induction n with
  | zero=>intro _;rfl
  | succ n g=>
   intro j;have a:nth (dC t).Buffers n=[]:=cS ω;have b:nth (dC t).Inbox n=[]:=cS ω;simp only[br,g ω,a,b,List.length_nil]
   decide
 have e:(dC t).Buffers.length=t:=List.length_replicate ..;refine dG.2 ⟨⟨ω,ω,by simp[dC]⟩,λi c=>?_,by rw[e,f t (Q2 _)];omega⟩;rw[e]at c;have a:nth (dC t).Buffers i=[]:=cS c;have b:nth (dC t).Inbox i=[]:=cS c;rw[a,b];exact⟨λp d=>(by cases d),λp d=>(by cases d)⟩
theorem t7(t:Nat):aC (dC t)=[]:=by
 unfold aC;split
 ·simp[dC]
 ·rfl
def qg(k:af)(t:Nat)(sd ck lim:Int):ab:=⟨k,[⟨0,(k.Machine.Table.Entries.length:Nat)⟩],[],[],[],List.replicate t eE,dC t,⟨16,[]⟩,sd,ck,lim,1,false,⟨⟨0,0,[]⟩,0,0⟩⟩
theorem BY:bm eE=true:=by decide
theorem bp.fresh{k:af}{t:Nat}{lim sd ck:Int}(A:aB k=true)(B:∀q,q<k.Machine.Table.Entries.length->(nth k.Machine.Table.Entries q).Mode=0)(E:1<=t/\t<=4)(g:0<=lim/\lim<=1000)(h:0<=sd/\sd<=1073741823)(d:0<=ck/\ck<=1000000):bp (qg k t sd ck lim) []:=by
 obtain⟨G,H,J⟩:=bw.1 (aF.1 A).2.2.1;have hca:bQ (qg k t sd ck lim)=[]:=by
  unfold bQ;refine List.flatMap_eq_nil_iff.2 λc d=>?_
  rw[(List.mem_replicate.1 d).2]
  rfl
 have C:holders (qg k t sd ck lim)=[]:=by
  unfold holders;rw[hca];show(([]++[])++[])++aC (dC t)=[];rw[t7];rfl
 have i:∀a,¬Live (qg k t sd ck lim).Spans (qg k t sd ck lim).Larges a:=λa=>by
  rintro(⟨s,h,-⟩|⟨l,g,-⟩)
  ·cases h
  ·cases g
 exact {
   ker:=A
   rng:=fj.2 ⟨⟨List.pairwise_singleton ..,λy n=>by rw[Z0.1 n];show(1:Int)<=(k.Machine.Table.Entries.length:Nat);omega⟩,λy n=>by
       rw[Z0.1 n];refine⟨t4 _,by show(1:Int)<=(k.Machine.Table.Entries.length:Nat);omega,?_⟩;show(0:Int)+(k.Machine.Table.Entries.length:Nat)<=(k.Machine.Table.Entries.length:Nat);omega,by show(1:Int)<=(k.Machine.Table.Entries.length:Nat);omega,by show((k.Machine.Table.Entries.length:Nat):Int)<=32;omega⟩
   lay:=by show bc [] []=true;decide
   srs:=List.Pairwise.nil
   srl:=List.Pairwise.nil
   pg:=⟨λl g=>(by cases g),λp f=>(by cases f),λp f=>⟨λe=>absurd (B p f) e,λe=>by cases e⟩,λp f=>⟨λe=>absurd (B p f) e,λe=>absurd ⟨_,Z0.2 rfl,by show(0:Int)<=p;omega,by
       show(p:Int)<0+(k.Machine.Table.Entries.length:Nat);have F:p<k.Machine.Table.Entries.length:=f;omega⟩ e⟩,λs h=>by cases h⟩
   mail:=EF E
   nc:=by show(List.replicate t eE).length=(List.replicate t _).length;simp
   quar:=by show eZ ⟨16,[]⟩ = true;decide
   snc:=λx r=>by cases r
   cach:=λc d=>by rw[(List.mem_replicate.1 d).2];exact BY
   nums:=by unfold cb;rw[C0];simp only[qg];omega
   osr:=List.Pairwise.nil
   onu:=λo u=>by cases u
   oid:=List.nodup_nil
   oow:=λo u=>by cases u
   hca:=λc d j D a b=>by
     rw[(List.mem_replicate.1 d).2]at D b;have w:j<4:=D;have:nth eE.Lists j=[]:=cS w;rw[this]at b;cases b
   hqu:=λx r=>by cases r
   hfl:=λa b=>by
     have:aC (dC t)=[]:=t7 t;change a∈aC (dC t) at b;rw[this]at b;cases b
   hin:=λa b=>by cases b
   nd:=by rw[C];exact List.nodup_nil
   mem:=λa=>by rw[C];exact⟨λe=>(by cases e),λe=>absurd e (i a)⟩
   job:=λe=>by cases e
   noj:=λ_=>by show qK ⟨⟨0,0,[]⟩,0,0⟩ = true;decide}
theorem JI.no{h:ab}(a:h.Meshing=false):JI h:=⟨λe=>(by rw[a]at e;cases e),λe=>(by rw[a]at e;cases e),λe=>(by rw[a]at e;cases e),λe=>(by rw[a]at e;cases e)⟩
theorem po{p f:Nat}{a:List Int}(d:1<=p/\p<=32)(e:1<=f/\f<=32)(b:a.length<=40/\∀x∈a,0<=x):aB (b9 p f a)=true:=by
 obtain⟨-,g,h,i,c⟩:=aF.1 (Aj d e);exact aF.2 ⟨λj k=>b.2 _ (am k),g,h,i,c.1,c.2.1,b.1⟩
theorem Do{p f t:Nat}{lim:Int}{a:List Int}(c:1<=p/\p<=32)(d:1<=f/\f<=32)(g:1<=t/\t<=4)(i:0<=lim/\lim<=1000)(j:a.length<=40/\∀x∈a,0<=x):bp (uv p f t lim a) []:=by
 have h:=bp.fresh (k:=b9 p f a) (t:=t) (lim:=lim) (sd:=0) (ck:=0) (po c d j) (λq l=>by
   have b:q<p:=by simpa[b9,dP] using l
   rw[show nth (b9 p f a).Machine.Table.Entries q = ⟨0,0⟩ from cS b]) g i ω ω
 have e:(b9 p f a).Machine.Table.Entries.length=p:=by simp[b9,dP]
 unfold qg at h;rw[e]at h;exact h
structure eB where
 Kind:Int
 Thread:Int
 N:Int
 At:Int
 Value:Int
deriving DecidableEq,Inhabited
def eB.enc(_:d7)(x:eB):List C:=[I x.Kind,I x.Thread,I x.N,I x.At,I x.Value]
def mw(id:Int)(o:bD):Bool:=decide (o.Id=id)
def nD(r:ax)(id:Int):Int:=cy (mw id) r.Objs
def ki(r:ax)(n:Int):ax:=if 1<=n/\n<=1000 then {r with Next:=r.Next+1,Objs:=r.Objs++[⟨r.Next,List.replicate n.toNat 0⟩]} else r
def kw(r:ax)(id:Int):ax:=if nD r id<0 then r else {r with Objs:=dele r.Objs (nD r id).toNat}
def eG(r:ax)(id at_ v:Int):ax:=if 0<=nD r id/\(0<=at_/\at_<=(nth r.Objs (nD r id).toNat).Cells.length - 1)/\0<=v/\v<=999 then {r with Objs:=r.Objs.set (nD r id).toNat ⟨(nth r.Objs (nD r id).toNat).Id,(nth r.Objs (nD r id).toNat).Cells.set at_.toNat v⟩} else r
def gj(r:ax)(id n:Int):ax:=if 0<=nD r id/\1<=n/\n<=(nth r.Objs (nD r id).toNat).Cells.length then {r with Objs:=r.Objs.set (nD r id).toNat ⟨(nth r.Objs (nD r id).toNat).Id,(nth r.Objs (nD r id).toNat).Cells.take n.toNat⟩} else r
structure rz(r:ax)(m:Nat):Prop where
 len:r.Objs.length<=m
 cel:∀o∈r.Objs,o.Cells.length<=1000
 nx:0<=r.Next/\r.Next<=m+1
theorem rz.more{r:ax}{m n:Nat}(h:rz r m)(a:m<=n):rz r n:=⟨by have:=h.len;omega,h.cel,h.nx.1,by have:=h.nx.2;omega⟩
theorem rz.sml{r:ax}{m:Nat}(h:rz r m)(b:m<=1000):ax.sml r:=⟨by have:=h.len;omega,λo a=>by have:=h.cel o a;show o.Cells.length<=1048576;omega⟩
theorem rz.alloc{r:ax}{m:Nat}(h:rz r m)(n:Int):rz (ki r n) (m+1):=by
 unfold ki;split
 ·refine⟨by have:=h.len;simp only[U2,List.length_singleton];omega,λo a=>?_,by have:=h.nx.1;simp only;omega,by have:=h.nx.2;simp only;omega⟩
  rcases O2.1 a with a|a
  ·exact h.cel o a
  ·rw[Z0.1 a];simp only[List.length_replicate];omega
 ·exact h.more ω
theorem rz.free{r:ax}{m:Nat}(h:rz r m)(id:Int):rz (kw r id) m:=by
 unfold kw;split
 ·exact h
 ·have a:=fw r.Objs (nD r id).toNat
  exact⟨Z3 a.length_le h.len,λo b=>h.cel o (a.subset b),h.nx⟩
theorem rz.set{r:ax}{m i:Nat}{x:bD}(h:rz r m)(b:x.Cells.length<=1000):rz {r with Objs:=r.Objs.set i x} m:=
 ⟨by simp only[C1];exact h.len,λo a=>by
   rcases Z4 a with a|rfl
   · exact h.cel o a
   · exact b,h.nx⟩
theorem fU{α:Type}[Inhabited α](p:α->Bool)(xs:List α)(h:0<=cy p xs):(cy p xs).toNat<xs.length/\p (nth xs (cy p xs).toNat)=true/\cy p xs=((cy p xs).toNat:Nat):=by
 rcases n6 p xs with e|⟨n,a,e,b⟩
 ·omega
 ·rw[e,C2];exact⟨a,b,rfl⟩
theorem rz.store{r:ax}{m:Nat}(h:rz r m)(id a v:Int):rz (eG r id a v) m:=by
 unfold eG;split
 ·rename_i e
  refine h.set ?_;simp only[C1];exact h.cel (nth r.Objs (nD r id).toNat) (am (fU _ _ e.1).1)
 ·exact h
theorem rz.trim{r:ax}{m:Nat}(h:rz r m)(id n:Int):rz (gj r id n) m:=by
 unfold gj;split
 ·rename_i e
  refine h.set ?_;have:=h.cel (nth r.Objs (nD r id).toNat) (am (fU _ _ e.1).1);simp only[I1];omega
 ·exact h
def HU(id:Int)(o:bB):Bool:=decide (o.Id=id)
def q9(h:ab)(id:Int):Int:=cy (HU id) h.Objs
def Gm(a:Int)(l:a8):Bool:=decide (l.Page*16=a)
def xj(h:ab)(a:Int):Int:=cy (Gm a) h.Larges
def od(h:ab)(a:eB):Prop:=0<=a.Thread/\a.Thread<=h.Caches.length - 1
instance (h:ab) (a:eB):Decidable (od h a):=by unfold od;infer_instance
def ur(w:bG)(a:eB)(i:Nat):bG × Int:=
 if w.Heap.Kernel.Calls=100000 then(w,6)
 else if od w.Heap a then(⟨(freeT w.Heap a.Thread.toNat i).1,if(freeT w.Heap a.Thread.toNat i).2=0 then kw w.Ref (nth w.Heap.Objs i).Id else w.Ref⟩,(freeT w.Heap a.Thread.toNat i).2)
 else(w,1)
def qp(w:bG)(a:eB)(i:Nat):bG × Int:=
 if ¬(0<=a.At/\a.At<=(nth w.Heap.Objs i).Size - 1) then(w,90)
 else if(ar w.Heap.Kernel.Machine.Table (((nth w.Heap.Objs i).Addr+a.At) / 16)).Mode=1 then(w,2)
 else if ¬(0<=a.Value/\a.Value<=999) then(w,3)
 else(⟨{w.Heap with Kernel:=kA w.Heap.Kernel ((nth w.Heap.Objs i).Addr+a.At) a.Value},eG w.Ref (nth w.Heap.Objs i).Id a.At a.Value⟩,0)
def kD(h:ab)(i:Nat)(n:Int):Prop:=0<=xj h (nth h.Objs i).Addr/\9<=n/\n<=(nth h.Larges (xj h (nth h.Objs i).Addr).toNat).Size
instance (h:ab) (i:Nat) (n:Int):Decidable (kD h i n):=by unfold kD;infer_instance
def uw(w:bG)(a:eB)(i:Nat):bG × Int:=
 if w.Heap.Kernel.Calls≠100000/\kD w.Heap i a.Value then(⟨trimH w.Heap i (xj w.Heap (nth w.Heap.Objs i).Addr).toNat a.Value,gj w.Ref (nth w.Heap.Objs i).Id a.Value⟩,0) else(w,90)
def pU(w:bG)(a:eB)(i:Nat):bG × Int:=if a.Kind=2 then ur w a i else if a.Kind=3 then qp w a i else uw w a i
def gU(h:ab)(a:eB):ab × Int:=
 if a.Kind=5 then(if od h a/\0<(nth h.Mail.Buffers a.Thread.toNat).length then({h with Mail:=f9 h.Mail a.Thread.toNat},0) else(h,90))
 else if ¬(h.Kernel.Calls≠100000/\od h a) then(h,0)
 else if a.Kind=6 then(collect h a.Thread.toNat,((nth h.Mail.Inbox a.Thread.toNat).length:Nat))
 else((flushN a.Thread.toNat h 4).1,((flushN a.Thread.toNat h 4).2:Nat))
def qM(h:ab)(n:Int):ab × Int:=if h.Kernel.Calls≠100000/\(0<=n/\n<=1000)/\h.Clock+n<=1000000 then(tick h n,((lY h n).length:Nat)) else(h,0)
def tW(h:ab):Bool:=h.Meshing&&decide (h.Kernel.Calls<=99000)
def mY(h:ab):Nat->ab × Nat
 | 0=>(h,0)
 | i+1=>if tW (mY h i).1=true then(mStep (mY h i).1,(mY h i).2+1) else mY h i
def ry(h:ab):ab × Int:=if h.Meshing=true then(h,90) else((started h).1,if(started h).2=true then 0 else 90)
def rc(w:bG)(a:eB):bG × Int:=
 if a.Kind=1 then(⟨(gp w.Heap a.Thread a.N).1,if(gp w.Heap a.Thread a.N).2.2=0 then ki w.Ref a.N else w.Ref⟩,(gp w.Heap a.Thread a.N).2.2)
 else if a.Kind=2\/a.Kind=3\/a.Kind=4 then(if q9 w.Heap a.N<0 then(w,90) else pU w a (q9 w.Heap a.N).toNat)
 else if a.Kind=5\/a.Kind=6\/a.Kind=7 then(⟨(gU w.Heap a).1,w.Ref⟩,(gU w.Heap a).2)
 else if a.Kind=8 then(⟨(qM w.Heap a.N).1,w.Ref⟩,(qM w.Heap a.N).2)
 else if a.Kind=9 then(⟨(ry w.Heap).1,w.Ref⟩,(ry w.Heap).2)
 else if a.Kind=10/\0<=a.N/\a.N<=50 then(⟨(mY w.Heap a.N.toNat).1,w.Ref⟩,((mY w.Heap a.N.toNat).2:Nat))
 else(w,90)
structure tw(w:bG)(m:Nat):Prop where
 inv:bp w.Heap []
 ji:JI w.Heap
 ref:rz w.Ref m
theorem tw.more{w:bG}{m n:Nat}(h:tw w m)(a:m<=n):tw w n:=⟨h.inv,h.ji,h.ref.more a⟩
theorem tw.jk{w:bG}{m:Nat}(h:tw w m){g:ab}{r:ax}(a:bp g []/\JK w.Heap g)(b:rz r m):tw ⟨g,r⟩ m:=⟨a.1,h.ji.keep a.1 a.2,b⟩
theorem mC{h:ab}{E:List Int}(a:bp h E){o:bB}(p:o∈h.Objs){k:Int}(D:0<=k/\k<=o.Size - 1):(ar h.Kernel.Machine.Table ((o.Addr+k) / 16)).Mode≠0/\0<=o.Addr/\o.Addr+k<512:=by
 rcases a.oow o p with⟨s,g,q,r⟩|⟨l,i,F,G⟩
 ·have b:=a.L.sok s g
  have t:=aE b;obtain⟨u,w,y⟩:=a.mapped g;have d:=bO t.2.2;obtain⟨H,J,A,-⟩:=q;have f:o.Size<=csz s.Class:=by
   have K:=mJ (n:=o.Size) ω;rw[r];have:o.Size=1\/o.Size=2\/o.Size=3\/o.Size=4\/o.Size=5\/o.Size=6\/o.Size=7\/o.Size=8:=ω
   rcases this with e|e|e|e|e|e|e|e<;>rw[e]<;>decide
  have B:(o.Addr+k) / 16=s.Page:=by
   rcases d with e|e|e|e<;>rw[e]at A f<;>omega
  rw[B];refine⟨?_,ω,ω⟩;unfold ar;rw[C8 ⟨u,w⟩];exact y
 ·obtain⟨j,C,rfl⟩:=aZ i
  have c:=a.L.lok _ i;unfold bP at c;rw[C0]at c;exact⟨np a C ⟨ω,ω⟩,ω,ω⟩
theorem tw.obj{w:bG}{m:Nat}(h:tw w m)(a:eB){i:Nat}(b:i<w.Heap.Objs.length):tw (pU w a i).1 m:=by
 unfold pU;split
 ·unfold ur
  split
  ·exact h
  split
  ·rename_i d
   unfold od at d;refine h.jk (h.inv.freeT b ω) ?_;split
   ·exact h.ref.free _
   ·exact h.ref
  ·exact h
 split
 ·unfold qp
  split
  ·exact h
  rename_i l;split
  ·exact h
  split
  ·exact h
  rename_i n;exact h.jk (h.inv.store (mC h.inv (am b) ω).1 ω) (h.ref.store _ _ _)
 ·unfold uw
  split
  ·rename_i e
   obtain⟨-,f,g⟩:=e;obtain⟨j,k,o⟩:=fU _ _ f;have c:=of_decide_eq_true k;exact h.jk (h.inv.trimH b j (c.symm.trans (Int.mul_comm _ _)) g) (h.ref.trim _ _)
  ·exact h
theorem tw.thread{w:bG}{m:Nat}(h:tw w m)(a:eB):tw ⟨(gU w.Heap a).1,w.Ref⟩ m:=by
 unfold gU;split
 ·split
  ·rename_i e
   obtain⟨b,i⟩:=e;unfold od at b;exact h.jk (g:={w.Heap with Mail:=f9 w.Heap.Mail a.Thread.toNat}) ⟨h.inv.deliv (by rw[<-h.inv.nc];omega) i,JK.eq rfl rfl rfl rfl⟩ h.ref
  ·exact h
 split
 ·exact h
 rename_i e;have e:=Classical.not_not.1 e;obtain⟨-,b⟩:=e;unfold od at b;split
 ·exact h.jk (g:=collect w.Heap a.Thread.toNat) (h.inv.collect ω) h.ref
 ·have c:a.Thread.toNat<w.Heap.Caches.length:=ω
  have d:=(jX h.inv c (Q2 4)).1;have f:=JK.flushN h.inv c (Q2 4);generalize flushN a.Thread.toNat w.Heap 4=r at d f |-;exact h.jk (g:=r.1) ⟨d,f⟩ h.ref
theorem Al{h:ab}(a:bp h [])(b:JI h):∀n,bp (mY h n).1 []/\JI (mY h n).1
 | 0=>⟨a,b⟩
 | n+1=>by
  obtain⟨c,d⟩:=Al a b n;unfold mY;split
  ·rename_i e
   unfold tW at e;rw[I0]at e;exact c.mStep d e.1
  ·exact⟨c,d⟩
theorem tw.act{w:bG}{m:Nat}(h:tw w m)(a:eB):tw (rc w a).1 (m+1):=by
 unfold rc;split
 ·have b:=G1 (t:=a.Thread) (size:=a.N) h.inv
  refine⟨b.1,h.ji.keep b.1 b.2,?_⟩;show rz (if _ then _ else _) (m+1);split
  ·exact h.ref.alloc _
  ·exact h.ref.more ω
 refine tw.more (m:=m) ?_ ω;split
 ·split
  ·exact h
  ·rename_i e
   exact h.obj a (fU _ _ (by unfold q9 at e;omega)).1
 split
 ·exact h.thread a
 split
 ·unfold qM
  split
  ·rename_i e
   exact h.jk (h.inv.tick e.2.1.1 e.2.2) h.ref
  ·exact h
 split
 ·unfold ry
  split
  ·exact h
  ·rename_i e
   have b:=Ej h.inv (by simpa using e);exact⟨b.1,b.2,h.ref⟩
 split
 ·have b:=Al h.inv h.ji a.N.toNat
  exact⟨b.1,b.2,h.ref⟩
 ·exact h
structure cI where
 Pages:Nat
 Frames:Nat
 Threads:Nat
 Limit:Int
 Refuse:List Int
deriving Inhabited
structure Hc(c:cI):Prop where
 p:1<=c.Pages/\c.Pages<=32
 f:1<=c.Frames/\c.Frames<=32
 t:1<=c.Threads/\c.Threads<=4
 l:0<=c.Limit/\c.Limit<=1000
 r:c.Refuse.length<=40/\∀x∈c.Refuse,0<=x
def world0(c:cI):bG:=⟨uv c.Pages c.Frames c.Threads c.Limit c.Refuse,{Next:=1,Objs:=[]}⟩
def A6(c:cI)(acts:List eB):Nat->bG × List Int
 | 0=>(world0 c,[])
 | i+1=>((rc (A6 c acts i).1 (nth acts i)).1,(A6 c acts i).2++[(rc (A6 c acts i).1 (nth acts i)).2])
theorem GE{c:cI}(h:Hc c):tw (world0 c) 0:=
 ⟨Do h.p h.f h.t h.l h.r,JI.no rfl,⟨Q2 _,λo a=>(by cases a),by show(0:Int)<=1;omega,by show(1:Int)<=((0:Nat):Int)+1;omega⟩⟩
theorem zA{c:cI}(h:Hc c)(acts:List eB):∀n,tw (A6 c acts n).1 n
 | 0=>GE h
 | n+1=>(zA h acts n).act _
theorem Hx(t:aH)(d:aH.sml t):ao Tryz.prog 56 false [.val (some 1) (aH.enc .imm t)] .one [I (kx t)]:=by
 have k:t.Entries.length<=1048576:=d.1;refine fO 22 [] Tryz.func56 rfl ?_
 repeat'(first|refine gO ?_|fail)
 (conv=>whnf)
 refine CD (ι:=Nat) (λi=>[(1,.hold .box (aH.enc .imm t)),(3,.hold .one [I (eN cx t.Entries i)]),(4,.hold .one [I ((i:Nat):Int)])]) (λi=>i<=t.Entries.length) (λi=>t.Entries.length - i) (0) ?_ (R0 _) λi g=>?_
 ·exact wB
 have h:=kE (f:=cx) (xs:=t.Entries) (b:=1) (λe _=>sY e) i g;by_cases j:i<t.Entries.length
 ·have c:=ah j
  have a:eN cx t.Entries (i+1)=eN cx t.Entries i+cx (nth t.Entries i):=rfl;by_cases e:(nth t.Entries i).Mode=0
  ·rw[show cx (nth t.Entries i)=0 by unfold cx;rw[C7 (by simpa using e)]]at a
   repeat'(first|refine gA ?_|(conv=>whnf);first|with_reducible refine CA (aa c) ?_)
   ((conv=>whnf);refine CB (i+1) ω ω ?_;(exact wB))
  ·rw[show cx (nth t.Entries i)=1 by unfold cx;rw[C8 e]]at a
   repeat'(first|refine gA ?_|(conv=>whnf);first|with_reducible refine CA (aa c) ?_)
   ((conv=>whnf);refine CB (i+1) ω ω ?_;(exact wB))
 ·obtain rfl:i=t.Entries.length:=ω
  repeat'(first|refine gD ?_|fail)
  rfl
theorem r8(t:aH)(d:aH.sml t):ao Tryz.prog 85 false [.val (some 1) (aH.enc .imm t)] .one [I (kx t)]:=by
 have k:t.Entries.length<=1048576:=d.1;refine fO 20 [] Tryz.func85 rfl ?_
 repeat'(first|refine gO ?_|fail)
 (conv=>whnf)
 refine CD (ι:=Nat) (λi=>[(3,.hold .one [I (eN cx t.Entries i)]),(7,.hold .one (l9 .imm t.Entries)),(8,.hold .one [I (t.Entries.length)]),(9,.hold .one [I ((i:Nat):Int)])]) (λi=>i<=t.Entries.length) (λi=>t.Entries.length - i) (0) ?_ (R0 _) λi g=>?_
 ·exact wB
 have h:=kE (f:=cx) (xs:=t.Entries) (b:=1) (λe _=>sY e) i g;by_cases j:i<t.Entries.length
 ·have c:=ah j
  have a:eN cx t.Entries (i+1)=eN cx t.Entries i+cx (nth t.Entries i):=rfl;by_cases e:(nth t.Entries i).Mode=0
  ·rw[show cx (nth t.Entries i)=0 by unfold cx;rw[C7 (by simpa using e)]]at a
   repeat'(first|refine gA ?_|(conv=>whnf);first|with_reducible refine CA (aa c) ?_)
   ((conv=>whnf);refine CB (i+1) ω ω ?_;(exact wB))
  ·rw[show cx (nth t.Entries i)=1 by unfold cx;rw[C8 e]]at a
   repeat'(first|refine gA ?_|(conv=>whnf);first|with_reducible refine CA (aa c) ?_)
   ((conv=>whnf);refine CB (i+1) ω ω ?_;(exact wB))
 ·obtain rfl:i=t.Entries.length:=ω
  repeat'(first|refine gD ?_|fail)
  rfl
theorem HF(s:au)(a:aX s=true):ao Tryz.prog 394 false [.val (some 3) (au.enc .imm s)] .one (aD .own (qV s 16)):=by
 have b:=eM s;rw[a]at b;have g:=aE a;have n:=bO g.2.2;refine fO 27 [(5,7,[14,15,16,17,18,19,20])] Tryz.func394 rfl ?_ (.inr (bC _))
 repeat'(first|refine gO ?_|fail)
 (conv=>whnf)
 refine CD (ι:=Nat) (λi=>[(1,.hold .box (au.enc .imm s)),(3,.hold .one (aD .own (qV s i))),(4,.hold .one [I ((i:Nat):Int)])]) (λi=>i<=16) (λi=>16 - i) (0) ?_ (R0 _) λi o=>?_
 ·exact wB
 have h:=re s i;by_cases j:i<16
 ·have k:=AC a j
  have d:IntKind.i64.wrap (((i:Nat):Int).tdiv (csz s.Class))=((i:Nat):Int) / csz s.Class:=by rw[jN ω];exact ef ω ω
  have c:=gi s.Bits (((i:Nat):Int) / csz s.Class) (dL a).2;cases e:rp s i
  ·rw[show aS s.Bits (((i:Nat):Int) / csz s.Class)=false from e]at c
   repeat'(first|refine gD ?_|(conv=>whnf);first|refine C6 (b) ?_|refine C6 (cX _) ?_|refine CL ω ?_|refine CJ d ?_|refine C6 (c) ?_)
   ((conv=>whnf);refine CB (i+1) ω ω ?_)
   rw[Gg e];exact wB
  ·rw[show aS s.Bits (((i:Nat):Int) / csz s.Class)=true from e]at c
   repeat'(first|refine gD ?_|(conv=>whnf);first|refine C6 (b) ?_|refine C6 (cX _) ?_|refine CL ω ?_|refine CJ d ?_|refine C6 (c) ?_|refine CN bW (λr l=>by rw[Z0.1 l];rfl) (by simp[aU,d4]) (by simp;omega) (by simp only[W0];exact up (by simp;omega) (by decide)) rfl ?_)
   ((conv=>whnf);refine CB (i+1) ω ω ?_)
   rw[D0 e]
   (repeat'(first|exact trivial|rfl|exact CI rfl (CI (T0 (C.s d7.own) (by simp[rI])) trivial)|refine CI ?_ ?_))
 ·obtain rfl:i=16:=ω
  repeat'(first|refine gD ?_|(conv=>whnf);first|refine C6 (b) ?_)
  rfl
theorem tX(s:au)(a:aX s=true):ao Tryz.prog 181 false [.val (some 3) (au.enc .imm s)] .one (aD .own (qV s 16)):=by
 have c:=gW s;rw[a]at c;have g:=aE a;have n:=bO g.2.2;refine fO 26 [(7,7,[13,14,15,16,17,18,19])] Tryz.func181 rfl ?_ (.inr (bC _))
 repeat'(first|refine gO ?_|(conv=>whnf);first|refine C6 (c) ?_)
 (conv=>whnf)
 refine CD (ι:=Nat) (λi=>[(1,.hold .box (au.enc .imm s)),(3,.hold .one (aD .own (qV s i))),(4,.hold .one [I ((i:Nat):Int)])]) (λi=>i<=16) (λi=>16 - i) (0) ?_ (R0 _) λi o=>?_
 ·exact wB
 have h:=re s i;by_cases j:i<16
 ·have k:=AC a j
  have d:IntKind.i64.wrap (((i:Nat):Int).tdiv (csz s.Class))=((i:Nat):Int) / csz s.Class:=by rw[jN ω];exact ef ω ω
  have b:=m7 s.Bits (((i:Nat):Int) / csz s.Class) (dL a).2;cases e:rp s i
  ·rw[show aS s.Bits (((i:Nat):Int) / csz s.Class)=false from e]at b
   repeat'(first|refine gD ?_|(conv=>whnf);first|refine C6 (cm _) ?_|refine CL ω ?_|refine CJ d ?_|refine C6 (b) ?_)
   ((conv=>whnf);refine CB (i+1) ω ω ?_)
   rw[Gg e];exact wB
  ·rw[show aS s.Bits (((i:Nat):Int) / csz s.Class)=true from e]at b
   repeat'(first|refine gD ?_|(conv=>whnf);first|refine C6 (cm _) ?_|refine CL ω ?_|refine CJ d ?_|refine C6 (b) ?_|refine CN bW (λr l=>by rw[Z0.1 l];rfl) (by simp[aU,d4]) (by simp;omega) (by simp only[W0];exact up (by simp;omega) (by decide)) rfl ?_)
   ((conv=>whnf);refine CB (i+1) ω ω ?_)
   rw[D0 e]
   (repeat'(first|exact trivial|rfl|exact CI rfl (CI (T0 (C.s d7.own) (by simp[rI])) trivial)|refine CI ?_ ?_))
 ·obtain rfl:i=16:=ω
  repeat'(first|refine gD ?_|fail)
  rfl
theorem w8(sp:List au)(la:List a8)(c:du sp)(d:dr la)(a:bc sp la=true):ao Tryz.prog 86 false [.val none (bX .imm sp),.val none (bS .imm la)] .one [I (sI sp la)]:=by
 have o:=c.1;have p:=d.1;have j:=kO sp la c d;rw[a]at j;have q:=pm.of a;have e:=M4 (cZ a).2.1;refine fO 38 [] Tryz.func86 rfl ?_
 repeat'(first|refine gO ?_|(conv=>whnf);first|refine C6 (j) ?_)
 (conv=>whnf)
 refine CD (ι:=Nat) (λi=>[(1,.hold .one (bS .imm la)),(5,.hold .one [I (eN Mf sp i)]),(14,.hold .one (bX .imm sp)),(15,.hold .one [I (sp.length)]),(16,.hold .one [I ((i:Nat):Int)])]) (λi=>i<=sp.length) (λi=>sp.length - i) (0) ?_ (R0 _) λi r=>?_
 ·exact wB
 have t:=kE (f:=Mf) (xs:=sp) (b:=16) (λs _=>N9 s) i r;by_cases l:i<sp.length
 ·have g:=ah l
  have h:eN Mf sp (i+1)=eN Mf sp i+((qV (nth sp i) 16).length:Nat):=rfl;have u:=re (nth sp i) 16
  repeat'(first|refine gD ?_|(conv=>whnf);first|with_reducible refine CA (aa g) ?_|refine C6 (tX (nth sp i) (q.sok _ (am l))) ?_)
  ((conv=>whnf);refine CB (i+1) ω ω ?_;(exact wB))
 ·obtain rfl:i=sp.length:=ω
  have w:eN (·.Size) la 0=0:=rfl
  repeat'(first|refine gD ?_|fail)
  (conv=>whnf)
  refine CD (ι:=Nat) (λk=>[(5,.hold .one [I (eN Mf sp sp.length+eN (·.Size) la k)]),(26,.hold .one (bS .imm la)),(27,.hold .one [I (la.length)]),(28,.hold .one [I ((k:Nat):Int)])]) (λk=>k<=la.length) (λk=>la.length - k) (0) ?_ (R0 _) λk y=>?_
  ·exact wB
  have B:=kE (f:=(·.Size)) (xs:=la) (b:=1000) e k y;by_cases n:k<la.length
  ·have g:=ah n
   have C:=e _ (am n);have h:eN (·.Size) la (k+1)=eN (·.Size) la k+(nth la k).Size:=rfl
   repeat'(first|refine gD ?_|(conv=>whnf);first|with_reducible refine CA (aa g) ?_)
   ((conv=>whnf);refine CB (k+1) ω ω ?_;(exact wB))
  ·obtain rfl:k=la.length:=ω
   repeat'(first|refine gD ?_|fail)
   rfl
theorem xb(h:ab):ao Tryz.prog 66 false [.val (some 24) (ab.enc .imm h)] .one [I (dQ h:Nat)]:=by
 refine fO 9 [] Tryz.func66 rfl ?_
 repeat'(first|refine gO ?_|fail)
 rfl
def eR(a:Int)(o:bB):Bool:=decide (o.Addr=a)
def Lk(a:Int)(l:List Int):Bool:=decide (a∈l)
def dz(a:Int)(c:ay):Bool:=c.Lists.any (Lk a)
theorem yD(o:bB)(a:Int):ao Tryz.prog 102 false [.val (some 4) (bB.enc .imm o),.ptr [I a]] .one [B (eR a o)]:=by
 refine fO 8 [] Tryz.func102 rfl ?_
 repeat'(first|refine gO ?_|fail)
 exact T0 (λz=>[B z]) ((by unfold eR;rw[Y3];simp))
theorem tL(h:ab)(a:Int)(c:h.Objs.length<=1048576):ao Tryz.prog 29 false [.val (some 24) (ab.enc .imm h),.val none [I a]] .one [I (cy (eR a) h.Objs)]:=by
 refine fO 9 [] Tryz.func29 rfl ?_
 repeat'(first|refine gO ?_|(conv=>whnf);first|refine Cq.mk (oQ (some 4) (bB.enc .imm) (eR a) h.Objs) (yD default a).has (λL k rcs b=>?_) ?_|refine C6 (pp h.Objs (eR a) ω) ?_)
 ·obtain⟨y,-,rfl,rfl,rfl⟩:=b
  exact yD y a
 ·rfl
theorem ro(q:bE)(a:Int)(b:q.Lst.length<=1048576):ao Tryz.prog 83 false [.val (some 2) (bE.enc .imm q),.val none [I a]] .one [B (q.Lst.any (cB a))]:=by
 refine fO 9 [] Tryz.func83 rfl ?_
 repeat'(first|refine gO ?_|(conv=>whnf);first|refine C6 (pq q.Lst a ω) ?_)
 rfl
theorem uY(xs:List (List Int))(pr:List Int->Bool)(g:xs.length<=9223372036854775807):ao Tryz.prog 251 false [.val none (ir .imm xs),.fn (ll Tryz.prog (oQ none (aD .imm) pr xs))] .one [I (cy pr xs)]:=by
 refine fO 19 [] Tryz.func251 rfl ?_
 repeat'(first|refine gO ?_|fail)
 (conv=>whnf)
 refine CD (ι:=Nat) (λi=>[(0,.hold .one (ir .imm xs)),(1,.fv (ll Tryz.prog (oQ none (aD .imm) pr xs))),(7,.hold .one [I xs.length]),(8,.hold .one [I (i:Nat)])]) (λi=>i<=xs.length/\∀(j:Nat)(z:List Int),j<i->xs[j]? = some z->pr z=false) (λi=>xs.length - i) 0 ?_ ⟨R0 _,λj z h=>ω⟩ λi d=>?_
 ·exact wB
 ·obtain⟨d,b⟩:=d
  by_cases c:i<xs.length
  ·obtain⟨y,a⟩ : ∃y,xs[i]? = some y:=⟨_,U1 c⟩
   repeat'(first|refine gD ?_|(conv=>whnf);first|with_reducible refine CA (aa a) ?_|refine Fv.mk (k:=.one) (rcs:=[B (pr y)]) ⟨y,Q1 a,rfl,rfl,rfl⟩ ?_|refine Bf.P (λe=>?_) (λe=>?_))
   ·exact T0 (λz=>[I z]) (d6 a ‹_› b).symm
   ·(conv=>whnf)
    refine CB (i+1) ⟨ω,cV a (by assumption) b⟩ ω ?_;exact wB
  ·repeat'(first|refine gD ?_|fail)
   exact T0 (λz=>[I z]) (eH ω b).symm
theorem rj(xs:List (List Int))(pr:List Int->Bool)(a:xs.length<=9223372036854775807):ao Tryz.prog 177 false [.val none (ir .imm xs),.fn (ll Tryz.prog (oQ none (aD .imm) pr xs))] .one [B (xs.any pr)]:=by
 refine fO 9 [] Tryz.func177 rfl ?_
 repeat'(first|refine gO ?_|(conv=>whnf);first|refine C6 (uY xs pr a) ?_)
 exact T0 (λz=>[B z]) (f7 pr xs)
theorem ue(xs:List ay)(pr:ay->Bool)(g:xs.length<=9223372036854775807):ao Tryz.prog 176 false [.val none (fL .imm xs),.fn (ll Tryz.prog (oQ (some 1) (ay.enc .imm) pr xs))] .one [I (cy pr xs)]:=by
 refine fO 19 [] Tryz.func176 rfl ?_
 repeat'(first|refine gO ?_|fail)
 (conv=>whnf)
 refine CD (ι:=Nat) (λi=>[(0,.hold .one (fL .imm xs)),(1,.fv (ll Tryz.prog (oQ (some 1) (ay.enc .imm) pr xs))),(7,.hold .one [I xs.length]),(8,.hold .one [I (i:Nat)])]) (λi=>i<=xs.length/\∀(j:Nat)(z:ay),j<i->xs[j]? = some z->pr z=false) (λi=>xs.length - i) 0 ?_ ⟨R0 _,λj z h=>ω⟩ λi d=>?_
 ·exact wB
 ·obtain⟨d,b⟩:=d
  by_cases c:i<xs.length
  ·obtain⟨y,a⟩ : ∃y,xs[i]? = some y:=⟨_,U1 c⟩
   repeat'(first|refine gD ?_|(conv=>whnf);first|with_reducible refine CA (aa a) ?_|refine Fv.mk (k:=.one) (rcs:=[B (pr y)]) ⟨y,Q1 a,rfl,rfl,rfl⟩ ?_|refine Bf.P (λe=>?_) (λe=>?_))
   ·exact T0 (λz=>[I z]) (d6 a ‹_› b).symm
   ·(conv=>whnf)
    refine CB (i+1) ⟨ω,cV a (by assumption) b⟩ ω ?_;exact wB
  ·repeat'(first|refine gD ?_|fail)
   exact T0 (λz=>[I z]) (eH ω b).symm
theorem kh(xs:List ay)(pr:ay->Bool)(a:xs.length<=9223372036854775807):ao Tryz.prog 80 false [.val none (fL .imm xs),.fn (ll Tryz.prog (oQ (some 1) (ay.enc .imm) pr xs))] .one [B (xs.any pr)]:=by
 refine fO 9 [] Tryz.func80 rfl ?_
 repeat'(first|refine gO ?_|(conv=>whnf);first|refine C6 (ue xs pr a) ?_)
 exact T0 (λz=>[B z]) (f7 pr xs)
theorem sX(l:List Int)(a:Int)(b:l.length<=1048576):ao Tryz.prog 178 false [.val none (aD .imm l),.ptr [I a]] .one [B (Lk a l)]:=by
 refine fO 7 [] Tryz.func178 rfl ?_
 repeat'(first|refine gO ?_|(conv=>whnf);first|refine C6 (jM l a ω) ?_)
 rfl
theorem xD(c:ay)(a:Int)(b:ay.sml c):ao Tryz.prog 82 false [.val (some 1) (ay.enc .imm c),.val none [I a]] .one [B (dz a c)]:=by
 have g:=b.1;refine fO 9 [] Tryz.func82 rfl ?_
 repeat'(first|refine gO ?_|(conv=>whnf);first|refine Cq.mk (oQ none (aD .imm) (Lk a) c.Lists) (sX [] a (R0 _)).has (λL k rcs d=>?_) ?_|refine C6 (rj c.Lists (Lk a) ω) ?_)
 ·obtain⟨y,e,rfl,rfl,rfl⟩:=d
  exact sX y a (b.2 y e)
 ·rfl
theorem d3(c:ay)(a:Int)(b:ay.sml c):ao Tryz.prog 81 false [.val (some 1) (ay.enc .imm c),.ptr [I a]] .one [B (dz a c)]:=by
 refine fO 7 [] Tryz.func81 rfl ?_
 repeat'(first|refine gO ?_|(conv=>whnf);first|refine C6 (xD c a b) ?_)
 rfl
theorem L0{h:ab}(f:dD h=true){a:Int}(d:a∈cT h.Spans h.Larges)(h1:cy (eR a) h.Objs<0)(g:h.Caches.any (dz a)=false)(i:h.Quar.Lst.any (cB a)=false):a∈aC h.Mail:=by
 obtain⟨-,j,-⟩:=lL f;have k:=pm.of j;have n:a∈fI h.Spans h.Larges:=by
  unfold cT sorted at d;rw[List.mem_mergeSort,qu k]at d;exact d
 have b:=G3 f n;unfold holders at b;simp only[O2]at b;rcases b with((b|b)|b)|b
 ·obtain⟨o,p,rfl⟩:=T3.1 b
  have e:=f7 (eR o.Addr) h.Objs;rw[Q0 ω]at e;have:=List.any_eq_false.1 e.symm o p;unfold eR at this;simp at this
 ·unfold bQ at b
  obtain⟨c,r,b⟩:=List.mem_flatMap.1 b;obtain⟨l,t,b⟩:=List.mem_flatten.1 b;have e:=List.any_eq_false.1 g c r;exact absurd (C3.2 ⟨l,t,O0 b⟩) e
 ·obtain⟨q,u,rfl⟩:=T3.1 b
  have e:=List.any_eq_false.1 i q u;unfold cB at e;simp at e
 ·exact b
theorem EX(h:ab)(F:ab.sml h)(B:dD h=true):ao Tryz.prog 21 false [.val (some 24) (ab.enc .imm h)] .one (aD .own []):=by
 obtain⟨-,G,-,-,H,-⟩:=lL B;have J:=io H;obtain⟨-,-,l,n,⟨q,-⟩,⟨K,b⟩,r,t,-⟩:=F;have u:h.Quar.Lst.length<=1048576:=t.1;have M:=ka h.Spans h.Larges l n G;have N:=y4 l.1 n.1;refine fO 53 [] Tryz.func21 rfl ?_ (.inr (bC _))
 repeat'(first|refine gO ?_|(conv=>whnf);first|refine C6 (M) ?_|refine C6 (iR h.Mail r) ?_)
 (conv=>whnf)
 refine CD (ι:=Nat) (λi=>[(1,.hold .box (ab.enc .imm h)),(3,.hold .one (aD .own [])),(4,.hold .one (aD .own (aC h.Mail))),(16,.hold .one (aD .own (cT h.Spans h.Larges))),(17,.hold .one [I ((cT h.Spans h.Larges).length)]),(18,.hold .one [I ((i:Nat):Int)])]) (λi=>i<=(cT h.Spans h.Larges).length) (λi=>(cT h.Spans h.Larges).length - i) (0) ?_ (R0 _) λi S=>?_
 ·exact wB
 by_cases C:i<(cT h.Spans h.Larges).length
 ·have c:=ah C
  have d:=L0 B (am C);generalize nth (cT h.Spans h.Larges) i=a at c d;have p:=tL h a q;have o:=kh h.Caches (dz a) ω;have w:=ro h.Quar a u;have E:=jM (aC h.Mail) a ω;by_cases O:cy (eR a) h.Objs<0
  ·cases P:h.Caches.any (dz a)<;>rw[P]at o d
   ·cases Q:h.Quar.Lst.any (cB a)<;>rw[Q]at w d
    ·rw[O0 (d O rfl rfl)]at E
     repeat'(first|refine gD ?_|(conv=>whnf);first|with_reducible refine CA (aa c) ?_|refine CG rfl (aa c) rfl ?_|refine Cq.mk (oQ (some 1) (ay.enc .imm) (dz a) h.Caches) (d3 default a ⟨R0 _,λ_ e=>by cases e⟩).has (λL k rcs g=>?_) ?_|refine C6 (o) ?_|refine C6 (p) ?_|refine C6 (w) ?_|refine CF (E) ⟨⟨rfl,cW _⟩,⟨rfl,rfl⟩,trivial⟩ ?_)
     ·obtain⟨y,j,rfl,rfl,rfl⟩:=g
      exact d3 y a (b y j)
     ·((conv=>whnf);refine CB (i+1) ω ω ?_;(exact wB))
    ·repeat'(first|refine gD ?_|(conv=>whnf);first|with_reducible refine CA (aa c) ?_|refine CG rfl (aa c) rfl ?_|refine Cq.mk (oQ (some 1) (ay.enc .imm) (dz a) h.Caches) (d3 default a ⟨R0 _,λ_ e=>by cases e⟩).has (λL k rcs g=>?_) ?_|refine C6 (o) ?_|refine C6 (p) ?_|refine C6 (w) ?_)
     ·obtain⟨y,j,rfl,rfl,rfl⟩:=g
      exact d3 y a (b y j)
     ·((conv=>whnf);refine CB (i+1) ω ω ?_;(exact wB))
   ·repeat'(first|refine gD ?_|(conv=>whnf);first|with_reducible refine CA (aa c) ?_|refine CG rfl (aa c) rfl ?_|refine Cq.mk (oQ (some 1) (ay.enc .imm) (dz a) h.Caches) (d3 default a ⟨R0 _,λ_ e=>by cases e⟩).has (λL k rcs g=>?_) ?_|refine C6 (o) ?_|refine C6 (p) ?_)
    ·obtain⟨y,j,rfl,rfl,rfl⟩:=g
     exact d3 y a (b y j)
    ·((conv=>whnf);refine CB (i+1) ω ω ?_;(exact wB))
  ·repeat'(first|refine gD ?_|(conv=>whnf);first|with_reducible (first|refine CA (aa c) ?_|refine Bf.D (λR=>?_) (λR=>?_))|refine CG rfl (aa c) rfl ?_|refine Cq.mk (oQ (some 1) (ay.enc .imm) (dz a) h.Caches) (d3 default a ⟨R0 _,λ_ e=>by cases e⟩).has (λL k rcs g=>?_) ?_|refine C6 (o) ?_|refine C6 (p) ?_)
   ·obtain⟨y,j,rfl,rfl,rfl⟩:=g
    exact d3 y a (b y j)
   ·((conv=>whnf);refine CB (i+1) ω ω ?_;(exact wB))
 ·obtain rfl:i=(cT h.Spans h.Larges).length:=ω
  repeat'(first|refine gD ?_|fail)
  rfl
theorem tV(c:ay)(e:ay.sml c):ao Tryz.prog 90 false [.val (some 1) (ay.enc .imm c)] .one [I (dh c)]:=by
 have r:=e.1;cases d:bm c with
 | false=>
  have a:=mA c e;rw[d]at a;refine fO 26 [] Tryz.func90 rfl ?_
  repeat'(first|refine gO ?_|(conv=>whnf);first|refine C6 a ?_)
  exact T0 (λz=>[I z]) (by unfold dh;rw[d];rfl)
 | true=>
  obtain⟨o,g⟩:=kv d;have a:=mA c e;rw[d]at a;refine fO 26 [] Tryz.func90 rfl ?_
  repeat'(first|refine gO ?_|(conv=>whnf);first|refine C6 a ?_)
  (conv=>whnf)
  refine CD (ι:=Nat) (λi=>[(1,.hold .box (ay.enc .imm c)),(3,.hold .one [I (dA 0 (c.Lists.take i))]),(10,.hold .one (ir .imm c.Lists)),(11,.hold .one [I c.Lists.length]),(12,.hold .one [I (i:Nat)])]) (λi=>i<=c.Lists.length/\0<=dA 0 (c.Lists.take i)/\dA 0 (c.Lists.take i)<=64*(i:Nat)) (λi=>c.Lists.length - i) 0 ?_ ⟨R0 _,by simp[dA],by simp[dA]⟩ λi k=>?_
  ·exact wB
  ·obtain⟨k,p,q⟩:=k
   by_cases h:i<c.Lists.length
   ·obtain⟨l,b⟩ : ∃l,c.Lists[i]? = some l:=⟨_,U1 h⟩
    have j:=g l (Q1 b);have n:=Kr i;have t:=Gb j n.1 n.2
    repeat'(first|refine gD ?_|(conv=>whnf);first|with_reducible refine CA (aa b) ?_|refine C6 (cm (i:Nat)) ?_)
    (conv=>whnf)
    refine CB (i+1) ⟨ω,by rw[lr b];omega,by rw[lr b];omega⟩ ω ?_;rw[lr b];exact wB
   ·repeat'(first|refine gD ?_|fail)
    rw[O5 ω];exact T0 (λz=>[I z]) (by unfold dh;rw[d];rfl)
theorem Dq{o:bB}(h:0<=aK o.Size):fe o=csz (aK o.Size):=by unfold fe;rw[C8 h]
theorem EC{o:bB}(h:¬0<=aK o.Size):fe o=o.Size:=by unfold fe;rw[C7 h]
theorem vO(h:ab)(G:ab.sml h)(l:dD h=true):ao Tryz.prog 22 false [.val (some 24) (ab.enc .imm h)] .agg (jb.enc .own (sf h)):=by
 have cH:=B3 h G;rw[Hh,l]at cH;obtain⟨k1,R,-,-,H,⟨k6,k6b⟩,-⟩:=lL l;have S:=jD H;have T:=io H;have u:=BH l;have w:=EA l;obtain⟨n,-,o,p,⟨V,-⟩,⟨W,q⟩,y,r,-⟩:=G;have X:h.Quar.Lst.length<=1048576:=r.1;have J:=r8 h.Kernel.Machine.Table n.1.2;have K:=tU h.Kernel.Machine.Frames n.1.1;have N:=w8 h.Spans h.Larges o p R;have P:=nX h.Quar.Lst r;have Y:=iR h.Mail y;have Z:eN fe h.Objs 0=0:=rfl;have hc0:eN dh h.Caches 0=0:=rfl;have hp0:eN (iy h) (aC h.Mail) 0=0:=rfl;generalize hM:kx h.Kernel.Machine.Table=M at J;generalize hU:fV h.Kernel.Machine.Frames=U at K;generalize hL:sI h.Spans h.Larges=L at N;generalize hQ:quarCells h.Quar.Lst h.Quar.Lst.length=Q at P;refine fO 103 [(3,23,[15,16,17,18,19,20,21,22,23,24,25,26,27,28,29,30,31,32,33,34,35,36,3]),(9,4,[49,50,51,52]),(15,4,[69,70,71,72]),(20,15,[84,85,86,87,88,89,90,91,92,93,94,95,96,97,98])] Tryz.func22 rfl ?_ (.inr (jb.enc_fr _))
 repeat'(first|refine gO ?_|(conv=>whnf);first|refine C6 (cH) ?_|refine C6 (xb h) ?_|refine C6 (J) ?_|refine C6 (K) ?_|refine C6 (N) ?_|refine C6 (P) ?_)
 (conv=>whnf)
 refine CD (ι:=Nat) (λi=>[(1,.hold .box (ab.enc .imm h)),(2,.hold .box ([I 0,I 0,I 0,I 0,I 0,I 0,I 0,I 0])),(3,.hold .box ([I (dQ h:Nat),I M,I U,I L,I (eN fe h.Objs i),I 0,I Q,I 0])),(38,.hold .one (mN .imm h.Objs)),(39,.hold .one [I (h.Objs.length)]),(40,.hold .one [I ((i:Nat):Int)])]) (λi=>i<=h.Objs.length) (λi=>h.Objs.length - i) (0) ?_ (R0 _) λi t=>?_
 ·exact wB
 have hb:=kE (f:=fe) (xs:=h.Objs) (b:=1000) w i t;by_cases g:i<h.Objs.length
 ·have k:=ah g
  have hsz:=u _ (am g);have d:eN fe h.Objs (i+1)=eN fe h.Objs i+fe (nth h.Objs i):=rfl;have B:=rH (aK (nth h.Objs i).Size);by_cases e:0<=aK (nth h.Objs i).Size
  ·rw[Dq e]at d
   repeat'(first|refine gD ?_|(conv=>whnf);first|with_reducible refine CA (aa k) ?_|refine C6 (mG _) ?_|refine C6 (cm _) ?_)
   ((conv=>whnf);refine CB (i+1) ω ω ?_;(exact wB))
  ·rw[EC e]at d
   repeat'(first|refine gD ?_|(conv=>whnf);first|with_reducible (first|refine CA (aa k) ?_|refine Bf.D (λhq=>?_) (λhq=>?_))|refine C6 (mG _) ?_)
   ((conv=>whnf);refine CB (i+1) ω ω ?_;(exact wB))
 obtain rfl:i=h.Objs.length:=ω
 generalize hO:eN fe h.Objs h.Objs.length=O at hb
 repeat'(first|refine gD ?_|fail)
 (conv=>whnf)
 refine CD (ι:=Nat) (λi=>[(1,.hold .box (ab.enc .imm h)),(2,.hold .box ([I 0,I 0,I 0,I 0,I 0,I 0,I 0,I 0])),(3,.hold .box ([I (dQ h:Nat),I M,I U,I L,I O,I (eN dh h.Caches i),I Q,I 0])),(63,.hold .one (fL .imm h.Caches)),(64,.hold .one [I (h.Caches.length)]),(65,.hold .one [I ((i:Nat):Int)])]) (λi=>i<=h.Caches.length) (λi=>h.Caches.length - i) (0) ?_ (R0 _) λi t=>?_
 ·exact wB
 have C:=kE (f:=dh) (xs:=h.Caches) (b:=256) (λc _=>oZ c) i t;by_cases g:i<h.Caches.length
 ·have k:=ah g
  have hcb:=oZ (nth h.Caches i);have d:eN dh h.Caches (i+1)=eN dh h.Caches i+dh (nth h.Caches i):=rfl
  repeat'(first|refine gD ?_|(conv=>whnf);first|with_reducible refine CA (aa k) ?_|refine C6 (tV (nth h.Caches i) (q _ (am g))) ?_)
  ((conv=>whnf);refine CB (i+1) ω ω ?_;(exact wB))
 obtain rfl:i=h.Caches.length:=ω
 generalize hC:eN dh h.Caches h.Caches.length=CC at C
 repeat'(first|refine gD ?_|(conv=>whnf);first|refine C6 (Y) ?_)
 (conv=>whnf)
 refine CD (ι:=Nat) (λi=>[(1,.hold .box (ab.enc .imm h)),(2,.hold .box ([I 0,I 0,I 0,I 0,I 0,I 0,I 0,I 0])),(3,.hold .box ([I (dQ h:Nat),I M,I U,I L,I O,I CC,I Q,I (eN (iy h) (aC h.Mail) i)])),(78,.hold .one (aD .own (aC h.Mail))),(79,.hold .one [I ((aC h.Mail).length)]),(80,.hold .one [I ((i:Nat):Int)])]) (λi=>i<=(aC h.Mail).length) (λi=>(aC h.Mail).length - i) (0) ?_ (R0 _) λi t=>?_
 ·exact wB
 have hb3:=kE (f:=iy h) (xs:=aC h.Mail) (b:=8) (λa _=>rH _) i t;by_cases g:i<(aC h.Mail).length
 ·have k:=ah g
  obtain⟨j,hj,E,F,ha0,ha1⟩:=Ni l (am g);have d:eN (iy h) (aC h.Mail) (i+1)=eN (iy h) (aC h.Mail) i+iy h (nth (aC h.Mail) i):=rfl;rw[show iy h (nth (aC h.Mail) i)=csz (nth h.Spans j).Class by unfold iy;rw[F,C2]]at d;have hy:h.Spans[(denotes h.Spans h.Larges (nth (aC h.Mail) i)).Index.toNat]? = some (nth h.Spans j):=by rw[E,C2];exact ah hj
  have B:=rH (nth h.Spans j).Class
  repeat'(first|refine gD ?_|(conv=>whnf);first|with_reducible refine CA (aa k) ?_|refine CG rfl (aa k) rfl ?_|refine C6 (lR h.Spans h.Larges (nth (aC h.Mail) i) o p) ?_|refine CK ω (aa hy) ?_|refine C6 (cm _) ?_)
  ((conv=>whnf);refine CB (i+1) ω ω ?_;(exact wB))
 obtain rfl:i=(aC h.Mail).length:=ω
 repeat'(first|refine gD ?_|fail)
 unfold sf;rw[hM,hU,hL,hO,hC,hQ]
 rfl
theorem or64{z1 z2:Int}(h1:0<=z1/\z1<=65535)(a:0<=z2/\z2<=65535):IntKind.i64.wrap ((BitVec.ofInt IntKind.i64.bits z1 ||| BitVec.ofInt IntKind.i64.bits z2).toNat:Nat)=bor z1 z2:=by
 rw[BitVec.toNat_or,mu ω,mu ω];have b:=JL h1 a;unfold bor at b |-;exact ef ω ω
theorem xB(h:ab)(i:Nat)(n:du h.Spans)(d:xl h)(a:∀s∈h.Spans,aX s=true)(y:i<h.Spans.length):ao Tryz.prog 342 false [.val (some 24) (ab.enc .imm h),.val none [I (i:Nat)]] .one [I (gz h i)]:=by
 have F:=n.1;have G:=ah y;have g:=uC a y;have B:=aG ((i:Nat):Int) 0 ((h.Spans.length:Int) - 1);rw[O0 (show(0:Int)<=(i:Nat)/\((i:Nat):Int)<=(h.Spans.length:Int) - 1 by omega)]at B;have C:=gC h (nth h.Spans i).Page d;have o:=g9 h (nth h.Spans i).Page;have H:dQ h<=1048576:=d.1;have c:gz h i=jt h.Spans (aO h (nth h.Spans i).Page) (nth h.Spans i).Bits (aO h (nth h.Spans i).Page).length:=rfl;obtain⟨ps,q⟩ : ∃ps,aO h (nth h.Spans i).Page=ps:=⟨_,rfl⟩
 obtain⟨b,r⟩ : ∃b,(nth h.Spans i).Bits=b:=⟨_,rfl⟩
 rw[q]at C o c;rw[r]at c g;rw[c];have J:jt h.Spans ps b 0=b:=rfl;refine fO 63 [(4,7,[22,23,24,25,26,27,28]),(11,10,[43,44,45,46,47,48,49,50,51,52])] Tryz.func342 rfl ?_
 repeat'(first|refine gO ?_|(conv=>whnf);first|with_reducible refine CA (aa G) ?_|refine C6 (B) ?_|refine C6 (C) ?_)
 (conv=>whnf)
 refine CD (ι:=Nat) (λu=>[(2,.hold .box (ab.enc .imm h)),(5,.hold .one [I (jt h.Spans ps b u)]),(6,.hold .one (aD .own ps)),(7,.hold .one [I ((u:Nat):Int)])]) (λu=>u<=ps.length) (λu=>ps.length - u) (0) ?_ (R0 _) λu M=>?_
 ·exact wB
 by_cases K:u<ps.length
 ·have l:=ah K
  have t:=rx a (ps:=ps) g u
  repeat'(first|refine gD ?_|fail)
  (conv=>whnf)
  refine CD (ι:=Nat) (λj=>[(2,.hold .box (ab.enc .imm h)),(5,.hold .one [I (rg h.Spans (nth ps u) (jt h.Spans ps b u) j)]),(6,.hold .one (aD .own ps)),(7,.hold .one [I ((u:Nat):Int)]),(8,.hold .one [I ((j:Nat):Int)])]) (λj=>j<=h.Spans.length) (λj=>h.Spans.length - j) (0) ?_ (R0 _) λj L=>?_
  ·exact wB
  by_cases D:j<h.Spans.length
  ·have E:=ah D
   have w:=uA a (p:=nth ps u) t j L;by_cases e:(nth h.Spans j).Page=nth ps u
   ·have k:rg h.Spans (nth ps u) (jt h.Spans ps b u) (j+1)=bor (rg h.Spans (nth ps u) (jt h.Spans ps b u) j) (nth h.Spans j).Bits:=C8 e
    repeat'(first|refine gA ?_|(conv=>whnf);first|with_reducible (first|refine CA (aa l) ?_|refine CA (aa E) ?_)|refine CG rfl (aa l) rfl ?_|refine CJ (or64 w (uC a D)) ?_)
    ((conv=>whnf);refine CB (j+1) ω ω ?_;(exact wB))
   ·have k:rg h.Spans (nth ps u) (jt h.Spans ps b u) (j+1)=rg h.Spans (nth ps u) (jt h.Spans ps b u) j:=C7 e
    repeat'(first|refine gA ?_|(conv=>whnf);first|with_reducible (first|refine CA (aa l) ?_|refine CA (aa E) ?_)|refine CG rfl (aa l) rfl ?_)
    ((conv=>whnf);refine CB (j+1) ω ω ?_;(exact wB))
  ·obtain rfl:j=h.Spans.length:=ω
   repeat'(first|refine gD ?_|fail)
   ((conv=>whnf);refine CB (u+1) ω ω ?_;(exact wB))
 ·obtain rfl:u=ps.length:=ω
  repeat'(first|refine gD ?_|fail)
  rfl
theorem sS{xs:List bB}(h:∀o∈xs,0<=o.Size/\o.Size<=1000):∀k:Nat,k<=xs.length->0<=sq xs k/\sq xs k<=1000*k
 | 0,_=>⟨t4 _,t4 _⟩
 | k+1,a=>by
  have b:=sS h k ω;have c:=h _ (am (xs:=xs) (i:=k) ω);simp only[sq];omega
theorem wS(h:ab)(a:∀o∈h.Objs,0<=o.Size/\o.Size<=1000)(e:h.Objs.length<=1048576):ao Tryz.prog 51 false [.val (some 24) (ab.enc .imm h)] .one [I (uK h)]:=by
 refine fO 21 [] Tryz.func51 rfl ?_
 repeat'(first|refine gO ?_|fail)
 (conv=>whnf)
 refine CD (ι:=Nat) (λk=>[(1,.hold .box (ab.enc .imm h)),(3,.hold .one [I (sq h.Objs k)]),(4,.hold .one [I ((k:Nat):Int)])]) (λk=>k<=h.Objs.length) (λk=>h.Objs.length - k) (0) ?_ (R0 _) λk c=>?_
 ·exact wB
 have g:=sS a k c;by_cases b:k<h.Objs.length
 ·have d:=ah b
  have i:=a _ (am b)
  repeat'(first|refine gD ?_|(conv=>whnf);first|refine CA (aa d) ?_)
  ((conv=>whnf);refine CB (k+1) ω ω ?_;(exact wB))
 ·obtain rfl:k=h.Objs.length:=ω
  repeat'(first|refine gD ?_|fail)
  rfl
theorem vN(k b:Int)(h:b<=9223372036854775807):ao Tryz.prog 341 false [.val none [I (slots k)],.val none [I b]] .one (aD .own (pS k b)):=by
 have c:=pf k b;have p:0<=slots k/\slots k<=16:=by unfold slots;repeat' split<;>omega
 unfold pS;cases e:KL k b<;>rw[e]at c
 ·rw[C7 (by simp)]
  refine fO 27 [] Tryz.func341 rfl ?_ (.inr (bC _))
  repeat'(first|refine gO ?_|fail)
  (conv=>whnf)
  refine CD (ι:=Nat) (λj=>[(0,.hold .one [I (slots k)]),(1,.hold .one [I (b)]),(5,.hold .one (aD .own [])),(6,.hold .one [I ((j:Nat):Int)])]) (λj=>j=0) (λj=>1 - j) (0) ?_ (rfl) λj g=>?_
  ·exact wB
  subst g
  repeat'(first|refine gD ?_|(conv=>whnf);first|with_reducible refine Bf.D (λi=>?_) (λi=>?_)|refine C6 (c) ?_)
  all_goals rfl
 ·rw[C8 rfl]
  refine fO 27 [] Tryz.func341 rfl ?_ (.inr (bC _))
  repeat'(first|refine gO ?_|fail)
  (conv=>whnf)
  refine CD (ι:=Nat) (λj=>[(0,.hold .one [I (slots k)]),(1,.hold .one [I (b)]),(5,.hold .one (aD .own (nR b j))),(6,.hold .one [I ((j:Nat):Int)])]) (λj=>j<=(slots k).toNat) (λj=>(slots k).toNat - j) (0) ?_ (R0 _) λj g=>?_
  ·exact wB
  have l:=sE b j;by_cases q:j<(slots k).toNat
  ·have d:=gi b (j:Nat) h
   have a:nR b (j+1)=if aS b (j:Nat)=true then nR b j else nR b j++[((j:Nat):Int)]:=rfl
   cases n:aS b (j:Nat)<;>rw[n]at d a
   ·rw[C7 (by simp)]at a
    repeat'(first|refine gD ?_|(conv=>whnf);first|refine C6 (c) ?_|refine C6 (d) ?_|refine CN bW (λr o=>by rw[Z0.1 o];rfl) (by simp[aU,d4]) (by simp;omega) (by simp only[W0];exact up (by simp;omega) (by decide)) rfl ?_)
    ((conv=>whnf);refine CB (j+1) ω ω ?_)
    rw[a]
    repeat'(first|exact trivial|rfl|exact CI rfl (CI (T0 (C.s d7.own) (by simp[rI])) trivial)|refine CI ?_ ?_|(exact xL (by first|omega|(simp only;omega)|(simp;omega))))
   ·rw[C8 rfl]at a
    repeat'(first|refine gD ?_|(conv=>whnf);first|refine C6 (c) ?_|refine C6 (d) ?_)
    ((conv=>whnf);refine CB (j+1) ω ω ?_)
    rw[a];exact wB
  ·obtain rfl:j=(slots k).toNat:=ω
   repeat'(first|refine gD ?_|fail)
   rfl
theorem Gz(b i:Int):bor b (2 ^ i.toNat)=gq b i:=by
 unfold bor gq;have:((2 ^ i.toNat:Nat):Int)=(2:Int) ^ i.toNat:=Int.natCast_pow 2 i.toNat;rw[<-this,C2]
theorem xq(b i:Int)(d:0<=b/\b<=65535)(a:0<=i/\i<=15):ao Tryz.prog 344 false [.val none [I b],.val none [I i]] .one [I (gq b i)]:=by
 have c:=oh b i;rw[O0 ω]at c;have e:IntKind.u64.wrap i=i:=by unfold IntKind.wrap;simp[IntKind.signed,IntKind.bits];omega
 have h:=(shl64 a).2;have g:=(or64 (z1:=b) (z2:=2 ^ i.toNat) d ω).trans (Gz b i);refine fO 15 [] Tryz.func344 rfl ?_
 repeat'(first|refine gO ?_|(conv=>whnf);first|refine C6 (c) ?_|refine CL ω ?_|refine CJ e ?_|refine CJ (shl64 a).1 ?_|refine CJ g ?_)
 rfl
theorem HJ{s:au}(b:aX s=true){k:Int}(d:0<=k/\k<slots s.Class):0<=k*csz s.Class/\k*csz s.Class<=15:=by
 have a:=aE b;have c:=fY a.2.2;rcases bO a.2.2 with e|e|e|e<;>rw[e]at c |-<;>omega
theorem xk(s:au)(k:Int)(a:aX s=true)(d:0<=k/\k<slots s.Class):ao Tryz.prog 345 false [.val (some 3) (au.enc .imm s),.val none [I k]] .one [I (16*s.Page+k*csz s.Class)]:=by
 have e:=aE a;have i:=HJ a d;have j:=fY e.2.2;have b:=eM s;rw[a]at b;have g:=md s.Class;have c:=aG k 0 (slots s.Class - 1);rw[O0 ω]at c;have h:=cX s.Class;refine fO 26 [(3,8,[17,18,19,20,21,22,23,24])] Tryz.func345 rfl ?_
 repeat'(first|refine gO ?_|(conv=>whnf);first|refine C6 (b) ?_|refine C6 (g) ?_|refine C6 (c) ?_|refine C6 (h) ?_|refine C9 ?_)
 exact T0 (λz=>[I z]) ω
theorem Ae(f:aV)(g:f.Used.length<=1048576):ao Tryz.prog 346 false [.val (some 2) (aV.enc .imm f)] .one [I (cy (λu=>!u) f.Used)]:=by
 refine fO 18 [] Tryz.func346 rfl ?_
 repeat'(first|refine gO ?_|fail)
 (conv=>whnf)
 refine CD (ι:=Nat) (λi=>[(1,.hold .box (aV.enc .imm f)),(3,.hold .one [I ((i:Nat):Int)])]) (λi=>i<=f.Used.length/\∀(j:Nat)(z:Bool),j<i->f.Used[j]? = some z->(!z)=false) (λi=>f.Used.length - i) (0) ?_ (⟨R0 _,λj z h=>ω⟩) λi c=>?_
 ·exact wB
 obtain⟨c,b⟩:=c;by_cases d:i<f.Used.length
 ·have a:=ah d
  cases e:nth f.Used i<;>rw[e]at a
  ·repeat'(first|refine gD ?_|(conv=>whnf);first|with_reducible refine CA (aa a) ?_)
   exact T0 (λz=>[I z]) (d6 a rfl b).symm
  ·repeat'(first|refine gD ?_|(conv=>whnf);first|with_reducible refine CA (aa a) ?_)
   ((conv=>whnf);refine CB (i+1) ⟨ω,cV a rfl b⟩ ω ?_;(exact wB))
 ·repeat'(first|refine gD ?_|fail)
  exact T0 (λz=>[I z]) (eH ω b).symm
theorem mj(m:aJ):∀(n i:Nat),i<n->((nth m.Buffers i).length:Int)+(nth m.Inbox i).length<=br m n/\0<=br m n
 | 0,i,h=>absurd h (Nat.not_lt_zero i)
 | n+1,i,h=>by
  have a:0<=br m n:=by
   cases n with
   | zero=>exact t4 _
   | succ k=>exact(mj m (k+1) 0 ω).2
  simp only[br];by_cases e:i=n
  ·subst e;omega
  ·have:=(mj m n i ω).1;omega
structure kI(m:aJ):Prop where
 b4:1<=m.Buffers.length/\m.Buffers.length<=4
 i4:m.Inbox.length=m.Buffers.length
 bl:∀i,i<m.Buffers.length->(nth m.Buffers i).length<=30
 il:∀i,i<m.Buffers.length->(nth m.Inbox i).length<=30
theorem kI.of{m:aJ}(h:bz m=true):kI m:=by
 obtain⟨⟨b,c,d⟩,-,e⟩:=dG.1 h;exact⟨⟨b,c⟩,d,λi a=>by have:=(mj m m.Buffers.length i a).1;omega,λi a=>by have:=(mj m m.Buffers.length i a).1;omega⟩
theorem kI.sml{m:aJ}(h:kI m):aJ.sml m:=by
 have c:=h.b4;have d:=h.i4;refine⟨⟨ω,λl a=>?_⟩,⟨ω,λl a=>?_⟩⟩
 ·obtain⟨i,b,rfl⟩:=aZ a
  have:=h.bl i b;exact⟨ω,λ_ _=>trivial⟩
 ·obtain⟨i,b,rfl⟩:=aZ a
  have:=h.il i ω;show(nth m.Inbox i).length<=1048576;omega
theorem ri(m:aJ)(k:Int)(a:aJ.sml m):ao Tryz.prog 388 false [.val (some 2) (aJ.enc .imm m),.val none [I k]] .one [B (bz m&&decide (0<=k/\k<=m.Buffers.length - 1))]:=by
 have b:=kz m a;have c:m.Buffers.length<=1048576:=a.1.1;cases e:bz m<;>rw[e]at b
 all_goals
  refine fO 15 [] Tryz.func388 rfl ?_
  repeat'(first|refine gO ?_|(conv=>whnf);first|refine C9 ?_|refine C6 (b) ?_|refine C6 (aG k 0 (m.Buffers.length - 1:Int)) ?_)
  all_goals rfl
theorem Pe{m:aJ}{f:Nat}(a:f<m.Buffers.length):m.Buffers[f]? = some (nth m.Buffers f):=ah a
theorem H6(m:aJ)(f:Nat)(p:dd):aJ.enc .own (gy m f p)=[.s .own ((m.Buffers.map (cM .own)).set f (cM .own (nth m.Buffers f++[p]))),.s .own (m.Inbox.map (aD .own))]:=by simp[aJ.enc,gy,W4]
theorem Gr{m:aJ}(h:kI m){f:Nat}(c:f<m.Buffers.length)(p:dd):aJ.sml (gy m f p):=by
 have d:=h.b4;have b:=h.sml;refine⟨⟨by simp only[gy,C1];omega,λl a=>?_⟩,b.2⟩;rcases Z4 a with a|rfl
 ·exact b.1.2 l a
 ·have:=h.bl f c
  exact⟨by simp;omega,λ_ _=>trivial⟩
theorem Hm(m:aJ)(f:Nat)(p:dd)(j:bz m=true)(g:f<m.Buffers.length):ao Tryz.prog 381 false [.val (some 2) (aJ.enc .imm m),.val none [I (f:Nat)],.val (some 2) (dd.enc .imm p)] (.tup [some 2,none]) (aJ.enc .own (if bz (gy m f p)=true then gy m f p else m)++[B (bz (gy m f p))]):=by
 have c:=kI.of j;have k:=c.sml;have q:=c.b4;have h:=ri m f k;rw[j,O0 ω]at h;have l:=eQ m k;have b:=Gr c g p;have i:=kz (gy m f p) b;have n:=eQ (gy m f p) b;have a:=Pe g;have o:=c.bl f g;have d:=aJ.enc_fz (gy m f p);rw[H6]at d;cases e:bz (gy m f p)<;>rw[e]at i
 ·rw[C7 (by simp)]
  refine fO 35 [(4,267,[16,17,18,19,20,21,22,23,24,25,27,0,1,2,3,4,5,6,7,8,9,10,1000,1001,1002,11,12])] Tryz.func381 rfl ?_ (.inr (aY (aJ.enc_fr _) ⟨trivial,trivial⟩))
  repeat'(first|refine gO ?_|(conv=>whnf);first|with_reducible refine CA (aa a) ?_|refine C9 ?_|refine CA (fQ a) ?_|refine CG rfl (fQ a) rfl ?_|refine C6 (h) ?_|refine C6 (l) ?_|refine Lq.one rfl rfl (aa a) rfl (X0 rfl) rfl rfl ?_|refine CG rfl (aa a) rfl ?_|refine CM rfl rfl (fQ a) rfl (X0 rfl) (show [C.s d7.own ((m.Buffers.map (cM .own)).set f (cM .own (nth m.Buffers f++[p]))),C.s .own (m.Inbox.map (aD .own))]=_ from by simp only[List.set_cons_zero,List.set_set,C2];rfl) ?_|refine Ap.sm (aN λ_=>rfl) rfl (by simp;omega) (by decide) (hJ _ _ _) ?_|refine CF (i) ⟨⟨rfl,d⟩,trivial⟩ ?_)
  rfl
 ·rw[C8 rfl]
  refine fO 35 [(4,267,[16,17,18,19,20,21,22,23,24,25,27,0,1,2,3,4,5,6,7,8,9,10,1000,1001,1002,11,12])] Tryz.func381 rfl ?_ (.inr (aY (aJ.enc_fr _) ⟨trivial,trivial⟩))
  repeat'(first|refine gO ?_|(conv=>whnf);first|with_reducible refine CA (aa a) ?_|refine C9 ?_|refine CA (fQ a) ?_|refine CG rfl (fQ a) rfl ?_|refine C6 (h) ?_|refine C6 (l) ?_|refine Lq.one rfl rfl (aa a) rfl (X0 rfl) rfl rfl ?_|refine CG rfl (aa a) rfl ?_|refine CM rfl rfl (fQ a) rfl (X0 rfl) (show [C.s d7.own ((m.Buffers.map (cM .own)).set f (cM .own (nth m.Buffers f++[p]))),C.s .own (m.Inbox.map (aD .own))]=_ from by simp only[List.set_cons_zero,List.set_set,C2];rfl) ?_|refine Ap.sm (aN λ_=>rfl) rfl (by simp;omega) (by decide) (hJ _ _ _) ?_|refine CF (i) ⟨⟨rfl,d⟩,trivial⟩ ?_|refine CF (n) ⟨⟨rfl,d⟩,trivial⟩ ?_)
  rfl
theorem El(m:aJ)(f:Int)(a:bz m=true)(d:¬(0<=f/\f<=m.Buffers.length - 1)):ao Tryz.prog 360 false [.val (some 2) (aJ.enc .imm m),.val none [I f]] (.tup [some 2,none]) (aJ.enc .own m++[B false]):=by
 have e:=kI.of a;have b:=e.sml;have c:=ri m f b;rw[a,Q0 d]at c;have g:=eQ m b;refine fO 60 [(5,267,[31,32,33,34,35,36,37,38,39,40,42,0,1,2,3,4,5,6,7,8,9,10,1000,1001,1002,11,12]),(6,270,[43,44,45,46,47,48,49,50,51,52,53,54,55,57,0,1,2,3,4,5,6,7,8,9,10,11,12,13,1000,1001,1002,1003,14,15])] Tryz.func360 rfl ?_ (.inr (aY (aJ.enc_fr _) ⟨trivial,trivial⟩))
 repeat'(first|refine gO ?_|(conv=>whnf);first|refine C9 ?_|refine C6 (c) ?_|refine C6 (g) ?_)
 rfl
theorem DW(m:aJ)(f t:Nat)(a:(nth (nth m.Buffers f) 0).To=t):aJ.enc .own (f9 m f)=[.s .own ((m.Buffers.map (cM .own)).set f [.s .own (((nth m.Buffers f).drop 1).map (dd.enc .imm))]),.s .own ((m.Inbox.map (aD .own)).set t (aD .own (nth m.Inbox t++[(nth (nth m.Buffers f) 0).Addr])))]:=by
 unfold aJ.enc f9;simp only[W4,a,C2]
 rfl
theorem B8(m:aJ)(f:Nat)(h:bz m=true)(i:f<m.Buffers.length):ao Tryz.prog 360 false [.val (some 2) (aJ.enc .imm m),.val none [I (f:Nat)]] (.tup [some 2,none]) (aJ.enc .own (if 0<(nth m.Buffers f).length then f9 m f else m)++[B (decide (0<(nth m.Buffers f).length))]):=by
 have d:=kI.of h;have u:=d.sml;have K:=d.b4;have D:=d.i4;have j:=ri m f u;rw[h,O0 ω]at j;have w:=eQ m u;have a:=Pe i;have F:=d.bl f i;by_cases e:0<(nth m.Buffers f).length
 ·rw[C8 e,O0 e]
  have g:=((dG.1 h).2.1 f i).1 _ (am e);obtain⟨t,k⟩:=I2 g.1;have l:t<m.Inbox.length:=ω
  have y:=ah e;have c:=ah l;have G:=d.il t ω;have n:=(kI.of (BE h i e)).sml;have H:=eQ (f9 m f) n;have o:=aJ.enc_fz (f9 m f);rw[DW m f t k]at o;have q:=aY (b:=[B true]) (aJ.enc_fr (f9 m f)) ⟨trivial,trivial⟩;generalize L:nth (nth m.Buffers f) 0=p at *;obtain⟨M,J⟩:=p;simp only at k g o;subst k;refine fO 60 [(5,267,[31,32,33,34,35,36,37,38,39,40,42,0,1,2,3,4,5,6,7,8,9,10,1000,1001,1002,11,12]),(6,270,[43,44,45,46,47,48,49,50,51,52,53,54,55,57,0,1,2,3,4,5,6,7,8,9,10,11,12,13,1000,1001,1002,1003,14,15])] Tryz.func360 rfl ?_ (.inr q)
  repeat'(first|refine gA ?_|(conv=>whnf);first|with_reducible (first|refine CA (aa a) ?_|refine CA (aa c) ?_|refine Bf.E (λr=>?_) (λr=>?_))|refine C9 ?_|refine CK (by decide) (aa y) ?_|refine CA (fQ a) ?_|refine CA (fQ c) ?_|refine CG rfl (fQ a) rfl ?_|refine CG rfl (fQ c) rfl ?_|refine C6 (j) ?_|refine C6 (w) ?_|refine CG rfl (aa a) rfl ?_|refine CG rfl (aa c) rfl ?_|refine CG rfl (aa y) rfl ?_|refine Lq.one rfl rfl (aa c) rfl (X0 rfl) rfl rfl ?_|refine Sl.suf 1 rfl (by rw[W0];omega) (aN λ_=>rfl) R3 ?_|refine CT (λ_=>rfl) (λ_=>rfl) (by rw[W2];omega) (by decide) ?_|refine CQ (λ_=>rfl) (λ_=>rfl) (by rw[W2];omega) (by decide) ?_|refine CM rfl rfl (aa a) rfl (X0 rfl) rfl ?_|refine CM rfl rfl (fQ c) rfl (X0 rfl) (show [C.s d7.own ((m.Buffers.map (cM .own)).set f [.s .own (((nth m.Buffers f).drop 1).map (dd.enc .imm))]),C.s .own ((m.Inbox.map (aD .own)).set t (aD .own (nth m.Inbox t++[J])))]=_ from by simp only[List.set_cons_zero,List.set_cons_succ,List.set_set,C2];rfl) ?_|refine Ap.sm (aN λ_=>rfl) rfl (by simp;omega) (by decide) (hJ _ _ _) ?_|refine C9 ?_|refine CF (H) ⟨⟨rfl,o⟩,trivial⟩ ?_)
  rfl
 ·rw[C7 e,Q0 e]
  refine fO 60 [(5,267,[31,32,33,34,35,36,37,38,39,40,42,0,1,2,3,4,5,6,7,8,9,10,1000,1001,1002,11,12]),(6,270,[43,44,45,46,47,48,49,50,51,52,53,54,55,57,0,1,2,3,4,5,6,7,8,9,10,11,12,13,1000,1001,1002,1003,14,15])] Tryz.func360 rfl ?_ (.inr (aY (aJ.enc_fr _) ⟨trivial,trivial⟩))
  repeat'(first|refine gA ?_|(conv=>whnf);first|with_reducible (first|refine CA (aa a) ?_|refine Bf.E (λr=>?_) (λr=>?_))|refine C9 ?_|refine C6 (j) ?_|refine C6 (w) ?_|refine CG rfl (aa a) rfl ?_)
  rfl
theorem HD.set(rows:List (List C))(i:Nat){r n:List C}(h:Kx r n):HD (.s .own (rows.set i r)) (.s .own (rows.set i n)):=by
 refine .own_ _ _ (by simp) (λj a b d f=>?_) (λj l a b c p d f o g=>?_)
 ·by_cases e:i=j
  ·subst e
   have k:i<rows.length:=by have:=(V1.1 d).1;simpa using this
   rw[Z2 k]at d f;cases d;cases f;exact h.1
  ·rw[List.getElem?_set_ne e]at d f
   rw[d]at f;cases f;rfl
 ·by_cases e:i=j
  ·subst e
   have k:i<rows.length:=by have:=(V1.1 d).1;simpa using this
   rw[Z2 k]at d f;cases d;cases f;exact h.2 l c p o g
  ·rw[List.getElem?_set_ne e]at d f
   rw[d]at f;cases f;rw[o]at g;cases g;exact .rfl_ _
theorem Av(m:aJ)(t:Nat)(d:bz m=true)(h:t<m.Buffers.length):ao Tryz.prog 389 false [.val (some 2) (aJ.enc .imm m),.val none [I (t:Nat)]] (.tup [some 2,none]) (aJ.enc .own (ko m t)++aD .own (nth m.Inbox t)):=by
 have b:=kI.of d;have e:=b.sml;have o:=b.b4;have j:=b.i4;have g:=ri m t e;rw[d,O0 ω]at g;have k:=eQ m e;have c:=ah (xs:=m.Inbox) (i:=t) ω;have l:=b.il t h;have a:=aY (aJ.enc_fr (ko m t)) (bC (nth m.Inbox t));have n:aJ.enc .own (ko m t)=[.s .own (m.Buffers.map (cM .own)),.s .own ((m.Inbox.map (aD .own)).set t [.s .own []])]:=by simp[aJ.enc,ko,W4];rfl
 rw[n]at a |-;refine fO 28 [(5,263,[20,21,22,23,24,25,26,0,1,2,3,4,5,6,7,1000,8,9])] Tryz.func389 rfl ?_ (.inr a)
 repeat'((conv=>whnf);first|with_reducible (first|refine Lm ?_|refine Wm ω ?_|refine CA (aa c) ?_|refine Bn ?_|refine jm.dk rfl ?_)|refine Bt ?_|refine Bu ?_|refine C9 ?_|refine C6 (g) ?_|refine C6 (k) ?_|refine CG rfl (aa c) rfl ?_|refine CM rfl rfl (aa c) rfl (X0 rfl) rfl ?_|refine CT (λ_=>rfl) (λ_=>rfl) ω (by decide) ?_|refine CQ (λ_=>rfl) (λ_=>rfl) ω (by decide) ?_|refine C9 ?_)
 exact .cons (.rfl_ _) (.cons (HD.set _ _ (.cons .z_ .nil)) (.cons (.rfl_ _) .nil))
theorem F5(now:Int):∀{l:List aL}{i:Nat},i<=l.length->(∀j,j<i->(nth l j).Since<now - 100)->(i<l.length->¬(nth l i).Since<now - 100)->qS now l=i
 | [],i,h,_,_=>by simp at h;subst h;rfl
 | x::xs,0,_,_,h=>by
  unfold qS;exact C7 (h (by simp))
 | x::xs,i+1,b,a,c=>by
  unfold qS;refine(C8 (a 0 ω)).trans ?_;rw[F5 now (l:=xs) (i:=i) (by simp at b;omega) (λj d=>a (j+1) ω) (λe=>c (by simp;omega))]
def LG(q:bE)(now:Int):List C:=bE.enc .own ⟨q.Room,q.Lst.drop (qS now q.Lst)⟩++cA .own (q.Lst.take (qS now q.Lst))
theorem tY(q:bE)(now:Int)(g:eZ q=true)(G:q.Lst.length<=4096)(u:0<=now/\now<=1000000):ao Tryz.prog 363 false [.val (some 2) (bE.enc .imm q),.val none [I now],.val none [I 100]] (.tup [some 2,none]) (LG q now):=by
 have w:bE.sml q:=⟨ω,λ_ _=>trivial⟩
 have n:=nK q w;rw[g]at n;have o:=aG now 0 1000000;rw[O0 u]at o;have p:=aG 100 0 1000000;rw[O0 (by decide)]at p;have h:=(jc.1 g).1;have a:gE (LG q now):=aY (bE.enc_fr _) (tJ _);have y:∀i,i<q.Lst.length->0<=(nth q.Lst i).Since:=λi b=>(h _ (am b)).2.2.2
 unfold LG at a |-;generalize B:qS now q.Lst=k at a |-;refine fO 59 [(6,270,[44,45,46,47,48,49,50,51,53,54,55,56,57,58,0,1,2,3,4,5,6,7,9,10,11,12,13,14,8,1009,1010,1011,1012,1013,1014,15,16])] Tryz.func363 rfl ?_ (.inr a)
 repeat'(first|refine gO ?_|(conv=>whnf);first|refine C9 ?_|refine C6 (n) ?_|refine C6 (o) ?_|refine C6 (p) ?_)
 (conv=>whnf)
 refine CD (ι:=Nat) (λi=>[(1,.hold .one [I (now)]),(2,.hold .one [I (100)]),(3,.hold .box (bE.enc .imm q)),(6,.hold .box [I 0,.z]),(8,.hold .one [I ((i:Nat):Int)])]) (λi=>i<=q.Lst.length/\∀j,j<i->(nth q.Lst j).Since<now - 100) (λi=>q.Lst.length - i) (0) ?_ (⟨R0 _,λj C=>ω⟩) λi b=>?_
 ·exact wC
 obtain⟨b,r⟩:=b;by_cases l:i<q.Lst.length/\(nth q.Lst i).Since<now - 100
 ·have c:=ah l.1
  repeat'(first|refine gD ?_|(conv=>whnf);first|with_reducible refine CA (aa c) ?_|refine C9 ?_|refine CG rfl (aa c) rfl ?_)
  ((conv=>whnf);refine CB (i+1) ⟨ω,λj C=>by by_cases e:j=i;(subst e;exact l.2);exact r j ω⟩ ω ?_;(exact wC))
 ·have d:=F5 now (i:=i) b r (λE F=>l ⟨E,F⟩)
  rw[B]at d;subst d;by_cases t:k<q.Lst.length
  ·have c:=ah t
   have:=y k t
   repeat'(first|refine gD ?_|(conv=>whnf);first|with_reducible (first|refine CA (aa c) ?_|refine Bf.D (λg=>?_) (λg=>?_))|refine C9 ?_|refine CG rfl (aa c) rfl ?_|refine CS k rfl (by rw[W0];omega) (aN λ_=>rfl) Q3 ?_|refine Sl.suf k rfl (by rw[W0];omega) (aN λ_=>rfl) R3 ?_|refine CT (λ_=>rfl) (λ_=>rfl) (by rw[I1];omega) (by decide) ?_|refine CT (λ_=>rfl) (λ_=>rfl) (by rw[W2];omega) (by decide) ?_|refine CQ (λ_=>rfl) (λ_=>rfl) (by rw[W2];omega) (by decide) ?_|refine C9 ?_)
   rfl
  ·repeat'(first|refine gD ?_|(conv=>whnf);first|refine C9 ?_|refine CS k rfl (by rw[W0];omega) (aN λ_=>rfl) Q3 ?_|refine Sl.suf k rfl (by rw[W0];omega) (aN λ_=>rfl) R3 ?_|refine CT (λ_=>rfl) (λ_=>rfl) (by rw[I1];omega) (by decide) ?_|refine CT (λ_=>rfl) (λ_=>rfl) (by rw[W2];omega) (by decide) ?_|refine CQ (λ_=>rfl) (λ_=>rfl) (by rw[W2];omega) (by decide) ?_|refine C9 ?_)
   rfl
theorem A2(h:ab)(n:Int)(g:bp h [])(r:0<=n/\n<=1000)(p:h.Clock+n<=1000000):aQ Tryz.prog 306 false [.ptr (bu h),.val none [I n]] [.ptr (bu (tick h n)),.val none [I n]] .one [I ((lY h n).length:Nat)]:=by
 have a:=g.nums;unfold cb at a;rw[C0]at a;have t:=g.lens.quar;have i:=tY h.Quar (h.Clock+n) g.quar ω ⟨ω,p⟩;have j:=g.aged r.1 p;unfold LG at i;unfold tick lY aged at *;have l:(h.Quar.Lst.take (qS (h.Clock+n) h.Quar.Lst)).length<=4096:=by rw[I1];omega
 rw[W0];generalize h.Quar.Lst.take (qS (h.Clock+n) h.Quar.Lst)=out at i j l |-;generalize h.Quar.Lst.drop (qS (h.Clock+n) h.Quar.Lst)=rest at i j |-;refine fM 48 [(364,[2,0])] [(2,269,[18,19,20,21,22,23,24,25,26,17,27,28,5,0,1,2,3,4,5,6,7,8,9,10,11,12,13,1011,14])] [(0,0),(0,0)] Tryz.func306 rfl (λu q=>?_)
 repeat'(first|refine gO ?_|(conv=>whnf);first|refine C9 ?_|refine CF (i) ⟨⟨rfl,bE.enc_fz h.Quar⟩,⟨rfl,rfl⟩,⟨rfl,rfl⟩,trivial⟩ ?_|refine C9 ?_)
 (conv=>whnf)
 refine CD (ι:=Nat) (λk=>[(0,.hold .box (bu (freeAs {h with Clock:=h.Clock+n,Quar:=⟨h.Quar.Room,rest⟩} ((out.map (·.Addr)).take k)))),(6,.hold .one (cA .own out)),(7,.hold .one [I ((k:Nat):Int)])]) (λk=>k<=out.length) (λk=>out.length - k) (0) ?_ (R0 _) λk y=>?_
 ·exact wC
 by_cases o:k<out.length
 ·have b:=ah o
  have c:k<(out.map (·.Addr)).length:=by rw[W0];exact o
  have d:nth (out.map (·.Addr)) k=(nth out k).Addr:=bo (by rw[R2,ah o];rfl);have e:bp (freeAs {h with Clock:=h.Clock+n,Quar:=⟨h.Quar.Room,rest⟩} ((out.map (·.Addr)).take k)) (nth (out.map (·.Addr)) k::(out.map (·.Addr)).drop (k+1)):=by
   refine bp.freeAs ?_;rw[<-iT c,List.take_append_drop];rw[List.append_nil]at j;exact j
  rw[d]at e;have w:=mr _ _ _ e
  repeat'(first|refine gD ?_|(conv=>whnf);first|refine C9 ?_|refine CA (aa b) ?_|refine CG rfl (aa b) rfl ?_|refine CH (w) (.inl rfl) ?_)
  ((conv=>whnf);refine CB (k+1) ω ω ?_)
  rw[sU _ _ _ c,d];exact wC
 ·obtain rfl:k=out.length:=ω
  rw[O5 (by rw[W0];omega)]
  repeat'(first|refine gD ?_|(conv=>whnf);first|refine C9 ?_)
  refine CE rfl rfl ?_;exact wC
theorem BJ(t:Nat)(h:ab)(az:List Int)(k:Nat)(a:k<az.length):recycs t h (az.take (k+1))=recyc t (recycs t h (az.take k)) (nth az k):=by
 unfold recycs;rw[O4,ah a,Option.toList_some,List.foldl_append];rfl
theorem uh(h:ab)(t:Nat)(a:bp h [])(i:t<h.Caches.length):aQ Tryz.prog 361 false [.ptr (bu h),.val none [I (t:Nat)]] [.ptr (bu (collect h t)),.val none [I (t:Nat)]] .one [I ((nth h.Mail.Inbox t).length:Nat)]:=by
 have l:=a.nc;have n:=(dG.1 a.mail).1.2.2;have j:=Av h.Mail t a.mail ω;have c:=(kI.of a.mail).il t ω;have d:=a.coll (t:=t) ω;rw[List.append_nil]at d;unfold collect;generalize nth h.Mail.Inbox t=out at j d c |-;refine fM 36 [(384,[2,0,0])] [] [(0,0),(0,0)] Tryz.func361 rfl (λu q=>?_)
 repeat'(first|refine gO ?_|(conv=>whnf);first|refine C9 ?_|refine CF (j) ⟨⟨rfl,aJ.enc_fz h.Mail⟩,⟨rfl,rfl⟩,trivial⟩ ?_)
 (conv=>whnf)
 refine CD (ι:=Nat) (λk=>[(0,.hold .box (bu (recycs t {h with Mail:=ko h.Mail t} (out.take k)))),(1,.hold .one [I ((t:Nat):Int)]),(6,.hold .one (aD .own out)),(7,.hold .one [I ((k:Nat):Int)])]) (λk=>k<=out.length) (λk=>out.length - k) (0) ?_ (R0 _) λk p=>?_
 ·exact wC
 by_cases e:k<out.length
 ·have b:=ah e
  have g:bp (recycs t {h with Mail:=ko h.Mail t} (out.take k)) (nth out k::out.drop (k+1)):=by
   refine bp.recycs ?_ i;rw[<-iT e,List.take_append_drop];exact d
  have o:=mV _ _ t _ g (by rw[(iS t _ _).1];exact i)
  repeat'(first|refine gD ?_|(conv=>whnf);first|refine C9 ?_|refine CA (aa b) ?_|refine CG rfl (aa b) rfl ?_|refine CH (o) (.inl rfl) ?_)
  ((conv=>whnf);refine CB (k+1) ω ω ?_)
  rw[BJ _ _ _ _ e];exact wC
 ·obtain rfl:k=out.length:=ω
  rw[v4]
  repeat'(first|refine gD ?_|(conv=>whnf);first|refine C9 ?_)
  refine CE rfl rfl ?_;exact wC
def HT(a:Int)(o:bB):Bool:=decide (o.Addr<=a/\a<o.Addr+o.Size)
theorem E0(h:ab)(E:List Int)(a:Int)(d:bp h E):aQ Tryz.prog 126 false [.ptr (bu h),.val none [I a]] [.ptr (bu h),.val none [I a]] .one [I (cy (HT a) h.Objs)]:=by
 have r:=d.lens.objs;refine fM 47 [] [(4,29,[15,16,17,18,19,20,21,22,23,24,25,26,27,28,29,30,31,32,33,34,35,36,37,38,39,40,41,42,43])] [(0,0),(0,0)] Tryz.func126 rfl (λu q=>?_)
 repeat'(first|refine gO ?_|(conv=>whnf);first|refine C9 ?_)
 (conv=>whnf)
 refine CD (ι:=Nat) (λi=>[(0,.hold .box (bu h)),(1,.hold .one [I (a)]),(5,.hold .one [I ((i:Nat):Int)])]) (λi=>i<=h.Objs.length/\∀(j:Nat)(z:bB),j<i->h.Objs[j]? = some z->HT a z=false) (λi=>h.Objs.length - i) (0) ?_ (⟨R0 _,λj z C=>ω⟩) λi d=>?_
 ·exact wC
 obtain⟨t,c⟩:=d;by_cases e:i<h.Objs.length
 ·have b:=ah e
  have w:=se ‹bp h E› (am e);have y:0<=(nth h.Objs i).Size/\(nth h.Objs i).Size<=1000:=by
   rcases bp.oow ‹bp h E› _ (am e) with⟨s,B,F,G⟩|⟨l,g,k,o⟩
   ·have H:=aE ((bp.L ‹bp h E›).sok s B)
    have:=mJ (n:=(nth h.Objs i).Size) ω;omega
   ·have J:=co ((bp.L ‹bp h E›).lok l g)
    omega
  by_cases k:(nth h.Objs i).Addr<=a
  ·by_cases o:a<(nth h.Objs i).Addr+(nth h.Objs i).Size
   ·repeat'(first|refine gD ?_|(conv=>whnf);first|with_reducible refine CA (aa b) ?_|refine C9 ?_|refine CG rfl (aa b) rfl ?_|refine C9 ?_)
    refine CE rfl (T0 (λz=>[I z]) (d6 b (O0 ⟨k,o⟩) c).symm) ?_;exact wC
   ·repeat'(first|refine gD ?_|(conv=>whnf);first|with_reducible (first|refine CA (aa b) ?_|refine Bf.D (λp=>?_) (λp=>?_))|refine C9 ?_|refine CG rfl (aa b) rfl ?_|refine C9 ?_)
    ((conv=>whnf);refine CB (i+1) ⟨ω,cV b (Q0 λx=>o x.2) c⟩ ω ?_;(exact wC))
  ·repeat'(first|refine gD ?_|(conv=>whnf);first|with_reducible (first|refine CA (aa b) ?_|refine Bf.D (λp=>?_) (λp=>?_))|refine C9 ?_|refine CG rfl (aa b) rfl ?_|refine C9 ?_)
   ((conv=>whnf);refine CB (i+1) ⟨ω,cV b (Q0 λx=>k x.1) c⟩ ω ?_;(exact wC))
 ·repeat'(first|refine gD ?_|(conv=>whnf);first|refine C9 ?_)
  refine CE rfl (T0 (λz=>[I z]) (eH ω c).symm) ?_;exact wC
theorem Fk(h:ab)(a v:Int):bu {h with Kernel:=kA h.Kernel a v} = (bu h).set 0 (.s .own ((h.Kernel.Machine.Frames.Cells.map (aD .own)).set (ar h.Kernel.Machine.Table (a / 16)).Frame.toNat ((aD .own (nth h.Kernel.Machine.Frames.Cells (fR h.Kernel a))).set 0 (.s .own (((nth h.Kernel.Machine.Frames.Cells (fR h.Kernel a)).map (rI .own)).set (a % 16).toNat (splice (rI .own (nth (nth h.Kernel.Machine.Frames.Cells (fR h.Kernel a)) (a % 16).toNat)) 0 [I v])))))):=by
 simp[bu,kA,setCell,W4,aD,splice,fR,rI]
theorem Bv{α:Type}{p:α->Bool}{xs:List α}{x:α}(a:x∈xs)(b:p x=true):0<=cy p xs:=by
 have:=f7 p xs;rw[show xs.any p=true from C3.2 ⟨x,a,b⟩,C0]at this;exact this
theorem x3(h:ab)(i:Nat)(j v:Int)(e:bp h [])(C:i<h.Objs.length)(D:0<=j/\j<=(nth h.Objs i).Size - 1):aQ Tryz.prog 356 false [.ptr (bu h),.val none [I ((nth h.Objs i).Addr+j)],.val none [I v]]
  [.ptr (bu (if(ar h.Kernel.Machine.Table (((nth h.Objs i).Addr+j) / 16)).Mode=1\/¬(0<=v/\v<=999) then h else {h with Kernel:=kA h.Kernel ((nth h.Objs i).Addr+j) v})),.val none [I ((nth h.Objs i).Addr+j)],.val none [I v]] .one [I (if(ar h.Kernel.Machine.Table (((nth h.Objs i).Addr+j) / 16)).Mode=1 then 2 else if ¬(0<=v/\v<=999) then 3 else 0)]:=by
 obtain⟨E,J,K⟩:=mC e (am C) D;have F:0<=cy (HT ((nth h.Objs i).Addr+j)) h.Objs:=Bv (am C) (O0 ω);have p:=E0 h [] ((nth h.Objs i).Addr+j) e;have r:=bF e.ker;have t:=db h.Kernel.Machine.Table (((nth h.Objs i).Addr+j) / 16) r.1.2;have n:=aG v 0 999;generalize L:(nth h.Objs i).Addr+j=a at *;have b:0<=a/\a<512:=ω
 obtain⟨-,-,-,G,M⟩:=cr e.ker E;have H:=(bh.1 (aF.1 e.ker).2.1).2.2.1;have k:fR h.Kernel a<h.Kernel.Machine.Frames.Cells.length:=by unfold fR;omega
 have d:h.Kernel.Machine.Frames.Cells[(ar h.Kernel.Machine.Table (a / 16)).Frame.toNat]? = some (nth h.Kernel.Machine.Frames.Cells (fR h.Kernel a)):=ah k;have w:=e.lens.row _ (am k);have l:=ah (xs:=nth h.Kernel.Machine.Frames.Cells (fR h.Kernel a)) (i:=(a % 16).toNat) (by rw[w];omega);have B:a.tmod 16=a % 16:=fo b.1;refine fM 42 [(126,[2,0])] [(8,14,[27,28,29,30,31,32,33,34,35,36,37,38,39,40])] [(0,0),(0,0),(0,0)] Tryz.func356 rfl (λu q=>?_);by_cases o:(ar h.Kernel.Machine.Table (a / 16)).Mode=1
 ·rw[C8 (Or.inl o),C8 o]
  repeat'(first|refine gA ?_|(conv=>whnf);first|refine C9 ?_|refine CH (p) (.inl rfl) ?_|refine CF (t) ⟨⟨rfl,CV _⟩,⟨rfl,rfl⟩,trivial⟩ ?_|refine CL (by decide) ?_|refine CJ (pw b) ?_)
  refine CE rfl rfl ?_;exact wC
 rw[C7 (c:=_=(1:Int)) o];by_cases g:0<=v/\v<=999
 ·rw[O0 g]at n
  rw[C7 (c:=¬(0<=v/\v<=999)) (O3 g),C7 (c:=_\/¬(0<=v/\v<=999)) (λy=>y.elim o λy=>y g)]
  repeat'(first|refine gA ?_|(conv=>whnf);first|refine C9 ?_|refine CH (p) (.inl rfl) ?_|refine CF (t) ⟨⟨rfl,CV _⟩,⟨rfl,rfl⟩,trivial⟩ ?_|refine C6 (n) ?_|refine CL (by decide) ?_|refine CJ (pw b) ?_|refine CR B ?_|refine CK G (aa d) ?_|refine CG rfl (aa d) rfl ?_|refine CK ω (aa l) ?_|refine Pu.two rfl rfl (aa d) rfl rfl rfl (aa l) rfl (Q2 _) (Fk h a v) ?_|refine C9 ?_)
  refine CE rfl rfl ?_;exact wC
 ·rw[Q0 g]at n
  rw[C8 (Or.inr g),C8 g]
  repeat'(first|refine gA ?_|(conv=>whnf);first|refine C9 ?_|refine CH (p) (.inl rfl) ?_|refine CF (t) ⟨⟨rfl,CV _⟩,⟨rfl,rfl⟩,trivial⟩ ?_|refine C6 (n) ?_|refine CL (by decide) ?_|refine CJ (pw b) ?_)
  refine CE rfl rfl ?_;exact wC
def wQ(l:a8)(n:Int):aA:=if(n+15) / 16<l.Pages then⟨l.Page+(n+15) / 16,l.Pages - (n+15) / 16⟩ else⟨0,0⟩
theorem w7(l:a8)(n:Int)(d:bP l=true):ao Tryz.prog 386 false [.val (some 3) (a8.enc .imm l),.val none [I n]] (.tup [some 3,some 2,none]) (if 9<=n/\n<=l.Size then a8.enc .own (trimL l n)++aA.enc .own (wQ l n)++[B true] else a8.enc .own l++[I 0,I 0]++[B false]):=by
 have b:=lT l;rw[d]at b;have a:=aG n 9 l.Size;have g:=d;unfold bP at g;rw[C0]at g;by_cases e:9<=n/\n<=l.Size
 ·rw[O0 e]at a
  rw[C8 e];have c:=kQ n;rw[show eI n=(n+15) / 16 by unfold eI;rw[C8 ω]]at c;unfold wQ;by_cases h:(n+15) / 16<l.Pages
  ·rw[C8 h]
   refine fO 43 [(7,261,[37,38,39,40,42,0,1,2,3,5,4,1005,6,1005,7,8])] Tryz.func386 rfl ?_ (.inr ⟨trivial,trivial,trivial,trivial,trivial,trivial,trivial⟩)
   repeat'(first|refine gD ?_|(conv=>whnf);first|refine C9 ?_|refine C6 (b) ?_|refine C6 (a) ?_|refine C6 (c) ?_|refine C9 ?_)
   rfl
  ·rw[C7 h]
   refine fO 43 [(7,261,[37,38,39,40,42,0,1,2,3,5,4,1005,6,1005,7,8])] Tryz.func386 rfl ?_ (.inr ⟨trivial,trivial,trivial,trivial,trivial,trivial,trivial⟩)
   repeat'(first|refine gD ?_|(conv=>whnf);first|refine C9 ?_|refine C6 (b) ?_|refine C6 (a) ?_|refine C6 (c) ?_|refine C9 ?_)
   rfl
 ·rw[Q0 e]at a
  rw[C7 e];refine fO 43 [(7,261,[37,38,39,40,42,0,1,2,3,5,4,1005,6,1005,7,8])] Tryz.func386 rfl ?_ (.inr ⟨trivial,trivial,trivial,trivial,trivial,trivial,trivial⟩)
  repeat'(first|refine gO ?_|(conv=>whnf);first|refine C9 ?_|refine C6 (b) ?_|refine C6 (a) ?_|refine C9 ?_)
  rfl
end Go.Proofs.YtembpgjjnioagaaGreat.Ab
