/- Pages mapped for new spans and large objects: a heap stays whole. No condition. -/
import Derived.Test.YtiopgblagimpmaaGreatKvd
import Derived.Test.YtiopgblagimpmaaGreatKvf
import Derived.Test.YtiopgblagimpmaaGreatKvc
import Derived.Test.YtiopgblagimpmaaGreatKve
set_option linter.unusedVariables false
set_option linter.defProp false
set_option linter.unusedSimpArgs false
set_option linter.constructorNameAsVariable false
namespace Go.Proofs.YtiopgblagimpmaaGreat.Ab
def jg(xs:List a7)(n:Int):Nat->Int
 | 0=>-1
 | i+1=>if n<=(nth xs i).b0/\(jg xs n i<0\/(nth xs i).b0<(nth xs (jg xs n i).toNat).b0) then(i:Nat) else jg xs n i
def hB(xs:List a7)(n:Int):Int:=jg xs n xs.length
def au(xs:List a7)(n:Int):List a7 × Int × Bool:=
 if hB xs n<0 then(xs,-1,false)
 else if(nth xs (hB xs n).toNat).b0=n then(dele xs (hB xs n).toNat,(nth xs (hB xs n).toNat).At,true)
 else(xs.set (hB xs n).toNat ⟨(nth xs (hB xs n).toNat).At+n,(nth xs (hB xs n).toNat).b0 - n⟩,(nth xs (hB xs n).toNat).At,true)
def xh(xs:List a7)(n:Int):∀i,i<=xs.length->jg xs n i = -1\/(0<=jg xs n i/\jg xs n i<i/\n<=(nth xs (jg xs n i).toNat).b0)
 | 0,_=>.inl rfl
 | i+1,b=>by
  have a:=xh xs n i ω;unfold jg;split
  ·rename_i h;right;rw[Z2];exact⟨ω,ω,h.1⟩
  rcases a with h|h
  ·exact .inl h
  exact .inr ⟨h.1,ω,h.2.2⟩
variable{i:Nat}{xs:List a7}
def wS(h:jo xs){j:Nat}(a:i<j)(b:j<xs.length):(nth xs i).At+(nth xs i).b0<(nth xs j).At:=by
 have:=List.pairwise_iff_getElem.1 h.1 i j ω b a
 rwa [<-bg (O2 (show i<xs.length by omega)),<-bg (O2 b)]at this
variable{p:Int}
def wL : RH xs p↔∃j,j<xs.length/\(nth xs j).At<=p/\p<(nth xs j).At+(nth xs j).b0:=by
 unfold RH;constructor
 ·rintro⟨r,b,h⟩
  obtain⟨j,a,rfl⟩:=aM b;exact⟨j,a,h⟩
 rintro⟨j,a,h⟩
 exact⟨_,am a,h⟩
def nk{pages:Int}{n:Int}(h:bC pages xs=true)(T:1<=n)(t:(au xs n).2.2=true) :
  bC pages (au xs n).1=true/\0<=(au xs n).2.1/\(au xs n).2.1+n<=pages/\(∀p,RH (au xs n).1 p↔RH xs p/\¬((au xs n).2.1<=p/\p<(au xs n).2.1+n))/\∀p,(au xs n).2.1<=p->p<(au xs n).2.1+n->RH xs p:=by
 obtain⟨o,u,J⟩:=fV.1 h;have K:=xh xs n xs.length (I3 _);unfold au at t |-;change hB xs n = -1\/_ at K;split at t
 ·cases t
 rename_i w;rw[C9 w];obtain⟨O,P,L⟩:=K.resolve_left ω;change 0<=hB xs n at O;change hB xs n<xs.length at P;change n<=(nth xs (hB xs n).toNat).b0 at L;generalize Q:(hB xs n).toNat=b at L |-;have g:b<xs.length:=ω
 have M:=u _ (am g);have q:∀j,j<xs.length->j≠b->(nth xs j).At+(nth xs j).b0<(nth xs b).At\/(nth xs b).At+(nth xs b).b0<(nth xs j).At:=λj a k=>by
  rcases Nat.lt_or_gt_of_ne k with A|B
  ·exact .inl (wS o A g)
  exact .inr (wS o B a)
 split
 ·rename_i R
  have C:(dele xs b).Sublist xs:=eI ..;refine⟨fV.2 ⟨⟨o.1.sublist C,λy l=>o.2 y (C.subset l)⟩,λy l=>u y (C.subset l),J⟩,M.1,by show(nth xs b).At+n<=pages;omega,λp=>?_,λp D E=>wL.2 ⟨b,g,D,by show p<_;simp only at E;omega⟩⟩;simp only;rw[wL (xs:=xs)];constructor
  ·rintro⟨r,F,f,d⟩
   obtain⟨j,a,k,rfl⟩:=cV.1 F;refine⟨⟨j,a,f,d⟩,λe=>?_⟩;have:=q j a k;omega
  rintro⟨⟨j,a,f,d⟩,G⟩
  exact⟨_,cV.2 ⟨j,a,λe=>by subst e;omega,rfl⟩,f,d⟩
 rename_i R;have c:∀j,nth (xs.set b ⟨(nth xs b).At+n,(nth xs b).b0 - n⟩) j=if j=b then⟨(nth xs b).At+n,(nth xs b).b0 - n⟩ else nth xs j:=λj=>by
  rw[bw];by_cases e:j=b
  ·rw[CC ⟨e.symm,ω⟩,CC e]
  rw[C9 λz=>e z.1.symm,C9 e]
 refine⟨fV.2 ⟨⟨?_,λy l=>?_⟩,λy l=>?_,J⟩,M.1,by show(nth xs b).At+n<=pages;omega,λp=>?_,λp D E=>wL.2 ⟨b,g,D,by simp only at E;omega⟩⟩
 ·rw[List.pairwise_iff_getElem]
  intro i j N a H;rw[<-bg (O2 N),<-bg (O2 a),c,c];simp only[U1]at N a;have S:=wS o H a;split
  ·rename_i e;subst e
   rw[C9 ω];simp only;omega
  split
  ·rename_i e;subst e
   simp only;omega
  exact S
 ·rcases dH l with rfl|⟨j,a,-,rfl⟩
  ·simp only;omega
  exact o.2 _ (am a)
 ·rcases dH l with rfl|⟨j,a,-,rfl⟩
  ·simp only;omega
  exact u _ (am a)
 simp only;rw[wL,wL,U1];constructor
 ·rintro⟨j,a,f,d⟩
  rw[c]at f d;split at f
  ·rename_i e;subst e
   rw[CC rfl]at d;simp only at f d;exact⟨⟨j,a,ω,ω⟩,ω⟩
  rename_i e;rw[C9 e]at d;have:=q j a e;exact⟨⟨j,a,f,d⟩,ω⟩
 rintro⟨⟨j,a,f,d⟩,G⟩
 refine⟨j,a,?_⟩;rw[c];split
 ·rename_i e;subst e
  simp only;omega
 exact⟨f,d⟩
def rE(k:ah):Int:=dd (λu=>!u) k.F.W.a9
def qT(k:ah)(p:Int)(f:Nat):ah:={k with F:=⟨⟨k.F.W.U,k.F.W.a9.set f true⟩,⟨k.F.R.O.set p.toNat ⟨2,(f:Nat)⟩⟩⟩}
def newK(k:ah)(p:Int):ah × Bool:=if refd k=true\/rE k<0 then(bY k,false) else(qT (bY k) p (rE k).toNat,true)
variable{k:ah}
def Fr(h:¬rE k<0):(rE k).toNat<k.F.W.a9.length/\nth k.F.W.a9 (rE k).toNat=false:=by
 unfold rE at h |-;rcases iD (λu=>!u) k.F.W.a9 with e|⟨n,a,e,b⟩
 ·omega
 rw[e,Z2];exact⟨a,by simpa using b⟩
variable{f:Nat}
def Ah(h:aA k=true)(b:f<k.F.W.a9.length)(c:nth k.F.W.a9 f=false)(q:Nat)(d:q<k.F.R.O.length)(g:(nth k.F.R.O q).j≠0):(nth k.F.R.O q).e≠(f:Nat):=by
 obtain⟨j,l,n,i,o⟩:=aD.1 h;intro e;have a:=i f b;rw[c]at a;have:=of_decide_eq_false a.symm;exact this (dX.2 ⟨q,d,g,e⟩)
def PQ(h:aA k=true)(L:0<=p/\p<k.F.R.O.length)(n:(nth k.F.R.O p.toNat).j=0)(o:f<k.F.W.a9.length)(r:nth k.F.W.a9 f=false):aA (qT k p f)=true:=by
 have t:=Ah h o r;obtain⟨u,w,y,A,B⟩:=aD.1 h;obtain⟨C,D,E,F⟩:=aX.1 w;obtain⟨G,H,J⟩:=bx.1 y;have a:∀q,nth (k.F.R.O.set p.toNat ⟨2,(f:Nat)⟩) q=if p.toNat=q then⟨2,(f:Nat)⟩ else nth k.F.R.O q:=λq=>by
  rw[bw];by_cases i:p.toNat=q
  ·rw[CC ⟨i,ω⟩,CC i]
  rw[C9 (λe=>i e.1),C9 i]
 refine aD.2 ⟨u,aX.2 ⟨C,D,by simp only[qT,U1];exact E,λj b=>?_⟩,bx.2 ⟨λj b=>?_,?_,?_⟩,λj b=>?_,B⟩
 ·replace b:j<k.F.W.U.length:=b
  show gQ (nth k.F.W.U j) (nth (k.F.W.a9.set f true) j)=true;have d:=F j b;rw[bw];split
  ·unfold gQ at d |-
   simp only[I0,C0,v4]at d |-;refine⟨d.1,λv K=>?_⟩;have:=d.2 v K;unfold iB at this |-;simp only[I0]at this;rw[this.1];rfl
  exact d
 ·simp only[qT,U1]at b |-
  rw[a];split
  ·unfold kF;rw[C0];simp only;omega
  exact G j b
 ·simp only[qT,U1];exact H
 ·simp only[qT,U1];exact J
 simp only[qT,U1]at b;show nth (k.F.W.a9.set f true) j=_;rw[bw];by_cases e:f=j
 ·subst e
  rw[CC ⟨rfl,b⟩];refine(O0 (dX.2 ⟨p.toNat,?_,?_,?_⟩)).symm
  ·simp only[qT,U1];omega
  ·simp only[qT,a,CC];decide
  simp only[qT,a,CC]
 rw[C9 λz=>e z.1,A j b];refine decide_eq_decide.2 ?_;rw[dX,dX];simp only[qT,U1,a];constructor
 ·rintro⟨q,l,g,c⟩
  refine⟨q,l,?_⟩;rw[C9 λz=>g (by rw[<-z];exact n)];exact⟨g,c⟩
 rintro⟨q,l,g,c⟩
 by_cases z:p.toNat=q
 ·rw[CC z]at c
  simp only at c;omega
 rw[C9 z]at g c;exact⟨q,l,g,c⟩
structure vA(k:ah)(p:Int)(r:ah × Bool):Prop where
 ker:aA r.1=true
 len:r.1.F.R.O.length=k.F.R.O.length
 calls:r.1.Calls=k.Calls+1
 ref:r.1.a0=k.a0
 cells:r.1.F.W.U=k.F.W.U
 no:r.2=false->r.1=bY k
 yes:r.2=true->∃f:Nat,f<k.F.W.a9.length/\nth k.F.W.a9 f=false/\(∀q:Nat,nth r.1.F.R.O q=if(q:Int)=p then⟨2,(f:Nat)⟩ else nth k.F.R.O q)/\∀q,q<k.F.R.O.length->(nth k.F.R.O q).j≠0->(nth k.F.R.O q).e≠(f:Nat)
def vA.of(h:aA k=true)(c:k.Calls≠100000)(f:0<=p/\p<k.F.R.O.length)(g:(nth k.F.R.O p.toNat).j=0):vA k p (newK k p):=by
 unfold newK;split
 ·exact⟨mK h c,rfl,rfl,rfl,rfl,λ_=>rfl,λe=>by cases e⟩
 rename_i d;rw[not_or]at d;obtain⟨a,b⟩:=Fr d.2;refine⟨PQ (mK h c) f g a b,by simp[qT,bY],rfl,rfl,rfl,λe=>(by cases e),λ_=>⟨_,a,b,λq=>?_,λq=>Ah h a b q⟩⟩;simp only[qT,bY,bw];by_cases e:(q:Int)=p
 ·rw[CC ⟨ω,ω⟩,CC e]
 rw[C9 λz=>e ω,C9 e]
def newsK(k:ah)(p:Int):Nat->ah × Nat
 | 0=>(k,0)
 | i+1=>if(newsK k p i).2=i then((newK (newsK k p i).1 (p+(i:Nat))).1,if(newK (newsK k p i).1 (p+(i:Nat))).2=true then i+1 else i) else newsK k p i
structure mc(k:ah)(p:Int)(i:Nat)(r:ah × Nat):Prop where
 ker:aA r.1=true
 len:r.1.F.R.O.length=k.F.R.O.length
 calls:k.Calls<=r.1.Calls/\r.1.Calls<=k.Calls+i
 ref:r.1.a0=k.a0
 cells:r.1.F.W.U=k.F.W.U
 le:r.2<=i
 out:∀q:Nat,¬(p<=q/\(q:Int)<p+r.2)->nth r.1.F.R.O q=nth k.F.R.O q
 new:∀q:Nat,p<=q->(q:Int)<p+r.2->(nth r.1.F.R.O q).j=2/\∀u:Nat,u<k.F.R.O.length->(nth r.1.F.R.O u).j≠0->(nth r.1.F.R.O u).e=(nth r.1.F.R.O q).e->u=q
def mc.of{k:ah}{p:Int}{n:Nat}(h:aA k=true)(G:k.Calls+n<=100000)(H:0<=p/\p+n<=k.F.R.O.length)(C:∀q:Nat,p<=q->(q:Int)<p+n->(nth k.F.R.O q).j=0):∀i,i<=n->mc k p i (newsK k p i)
 | 0,_=>⟨h,rfl,⟨v5 _,by show k.Calls<=k.Calls+((0:Nat):Int);omega⟩,rfl,rfl,I3 _,λ_ _=>rfl,λq o d=>by simp only[newsK]at d;omega⟩
 | i+1,L=>by
  have a:=mc.of h G H C i ω;unfold newsK;split
  case isFalse=>exact⟨a.ker,a.len,⟨a.calls.1,by have:=a.calls.2;omega⟩,a.ref,a.cells,by have:=a.le;omega,a.out,a.new⟩
  rename_i t;generalize newsK k p i=r at a t |-;have J:=a.calls;have y:(nth r.1.F.R.O (p+(i:Nat)).toNat).j=0:=by
   rw[a.out _ ω];exact C _ ω ω
  have s:=vA.of (p:=p+(i:Nat)) a.ker ω ⟨ω,by rw[a.len];omega⟩ y;generalize newK r.1 (p+(i:Nat))=w at s |-;refine⟨s.ker,s.len.trans a.len,⟨by simp only[s.calls];omega,by simp only[s.calls];omega⟩,s.ref.trans a.ref,s.cells.trans a.cells,by simp only;split<;>omega,λq j=>?_,λq o d=>?_⟩
  ·simp only at j |-
   cases e:w.2 with
   | false=>
    rw[s.no e];rw[e]at j;exact a.out q (by rw[t];simpa using j)
   | true=>
    obtain⟨f,-,-,g,-⟩:=s.yes e;rw[e,CC rfl]at j;rw[g,C9 ω];exact a.out q ω
  simp only at d |-;cases e:w.2 with
  | false=>
   rw[s.no e];rw[e]at d;exact a.new q o (by rw[t];simpa using d)
  | true=>
   obtain⟨f,-,-,g,D⟩:=s.yes e;rw[e,CC rfl]at d;have A:q<k.F.R.O.length:=ω
   rw[g];by_cases E:(q:Int)=p+(i:Nat)
   ·rw[CC E]
    refine⟨rfl,λu B c b=>?_⟩;rw[g]at c b;by_cases l:(u:Int)=p+(i:Nat)
    ·omega
    rw[C9 l]at c b;exact absurd b (D u (by rw[a.len];exact B) c)
   rw[C9 E];obtain⟨F,K⟩:=a.new q o ω;refine⟨F,λu B c b=>?_⟩;rw[g]at c b;by_cases l:(u:Int)=p+(i:Nat)
   ·rw[CC l]at b
    exact absurd b.symm (D q (by rw[a.len];exact A) (by rw[F];decide))
   rw[C9 l]at c b;exact K u B c b
def mc.undo{r:ah × Nat}(s:mc k p i r)(h:aA k=true)(d:0<=p/\p+i<=k.F.R.O.length)(e:∀q:Nat,p<=q->(q:Int)<p+i->(nth k.F.R.O q).j=0):aA (unmN r.1 p r.2)=true/\tEq k.F.R (unmN r.1 p r.2).F.R:=by
 have f:=s.le;have g:=mZ s.ker d.1 r.2 (by rw[s.len];omega);refine⟨ik s.ker p r.2,((dS r.1 p r.2).1).trans s.len,λq=>?_⟩;rw[g];split
 ·rename_i a
  have c:=e q a.1 ω;obtain⟨-,-,j,-⟩:=aD.1 h;have b:=(bx.1 j).1 q ω;unfold kF at b;rw[C0]at b;exact⟨⟨λz=>absurd rfl z,λz=>absurd c z⟩,(b.2.2.1 c).symm⟩
 rename_i a;rw[s.out q a];exact⟨Iff.rfl,rfl⟩
variable{n:Nat}{la:List ay}{sp:List ax}
def Pg.add{t h:aI}{O r:List a7}{b:List ax}{d:List ay}(i:Pg t O sp la)(E:h.O.length=t.O.length)(S:p+n<=t.O.length)(hp:0<=p)(j:∀q:Nat,¬(p<=q/\(q:Int)<p+n)->nth h.O q=nth t.O q)(a:∀q:Nat,p<=q->(q:Int)<p+n->(nth h.O q).j=2/\∀u:Nat,u<t.O.length->(nth h.O u).j≠0->(nth h.O u).e=(nth h.O q).e->u=q)(J:∀q,RH r q↔RH O q/\¬(p<=q/\q<p+n))(F:∀q,q∈pgs b d↔q∈pgs sp la\/(p<=q/\q<p+n))(w:∀s∈b,0<=s.Q/\(s∈sp\/(p<=s.Q/\s.Q<p+n)))(K:∀l∈d,l∈la\/∀q∈lpgs l l.a2.toNat,p<=q/\q<p+n):Pg h r b d:=by
 have f:∀q:Nat,q<t.O.length->((nth h.O q).j≠0↔(q:Int)∈pgs b d):=λq c=>by
  rw[F];by_cases e:p<=q/\(q:Int)<p+n
  ·have:=(a q e.1 e.2).1
   exact⟨λ_=>.inr e,λ_=>by rw[this];decide⟩
  rw[j q e,i.own q c];exact⟨.inl,λz=>z.resolve_right e⟩
 refine⟨λl A q c u k L G=>?_,λq c=>?_,λq c=>f q (by rw[<-E];exact c),λq c=>?_,λs P u k M H=>?_⟩
 ·rw[E]at k
  have B:=fC (sp:=b) A c;have C:q<t.O.length:=by
   rcases(F _).1 B with g|g
   ·have:=i.bnd _ g;omega
   omega
  by_cases e:p<=q/\(q:Int)<p+n
  ·exact(a q e.1 e.2).2 u k L G
  have N:=(K l A).resolve_right λg=>e (g _ c)
  by_cases o:p<=u/\(u:Int)<p+n
  ·exact((a u o.1 o.2).2 q C ((f q C).2 B) G.symm).symm
  rw[j q e,j u o]at G;rw[j u o]at L;exact i.one l N q c u k L G
 ·rw[E]
  rcases(F _).1 c with g|g
  ·exact i.bnd _ g
  omega
 ·rw[E]at c
  rw[J];by_cases e:p<=q/\(q:Int)<p+n
  ·have:=(a q e.1 e.2).1
   exact⟨λ_ z=>z.2 e,λ_=>by rw[this];decide⟩
  rw[j q e,i.fre q c];exact⟨λz y=>z y.1,λz y=>z ⟨y,e⟩⟩
 obtain⟨T,U⟩:=w s P;obtain⟨V,W⟩:=w u k;have D:∀y∈b,0<=y.Q->y.Q.toNat<t.O.length/\((y.Q.toNat:Nat):Int)=y.Q/\(nth h.O y.Q.toNat).j≠0:=λy X Y=>by
  have g:=d7 (la:=d) X;have Q:y.Q.toNat<t.O.length:=by
   rcases(F _).1 g with R|R
   ·have:=i.bnd _ R;omega
   omega
  exact⟨Q,ω,(f _ Q).2 (by rw[show((y.Q.toNat:Nat):Int)=y.Q by omega];exact g)⟩
 obtain⟨Z,sc,sd⟩:=D s P T;obtain⟨ub,uc,ud⟩:=D u k V;by_cases es:p<=s.Q/\s.Q<p+n
 ·have:=(a s.Q.toNat ω ω).2 _ ub ud H.symm
  omega
 by_cases o:p<=u.Q/\u.Q<p+n
 ·have:=(a u.Q.toNat ω ω).2 _ Z sd H
  omega
 rw[j _ ω,j _ ω]at H;exact i.mesh s (U.resolve_right es) u (W.resolve_right o) M H
def Ft{a:List ax}{b:List ay}(c:a.Perm sp)(d:b.Perm la):(pgs a b).Perm (pgs sp la):=by
 unfold pgs;exact(c.map _).append (d.flatMap_right _)
def H5(p:Int)(s:ax):Bool:=decide (p<=s.Q)
def QL(p:Int)(l:ay):Bool:=decide (p<=l.Q)
def addS(h:ab)(k:ah)(a:List a7)(p c:Int):ab:={h with G:=k,q:=a,K:=jt (H5 p) h.K ⟨p,c,0⟩}
variable{E:List Int}{h:ab}
def jA(a:aT h E){n:Int}(j:1<=n)(k:(au h.q n).2.2=true):0<=(au h.q n).2.1/\(au h.q n).2.1+n<=(tbl h).O.length/\(∀q:Nat,(au h.q n).2.1<=q->(q:Int)<(au h.q n).2.1+n->(nth (tbl h).O q).j=0)/\∀q:Int,(au h.q n).2.1<=q->q<(au h.q n).2.1+n->q∉pgs h.K h.J:=by
 obtain⟨r,l,f,t,o⟩:=nk a.rng j k;have g:∀q:Nat,(au h.q n).2.1<=q->(q:Int)<(au h.q n).2.1+n->(nth (tbl h).O q).j=0:=λq b c=>by
  have d:q<(tbl h).O.length:=by
   have:(au h.q n).2.1+n<=((tbl h).O.length:Nat):=f;omega
  by_cases e:(nth (tbl h).O q).j=0
  ·exact e
  exact absurd (o q b c) ((a.pg.fre q d).1 e)
 refine⟨l,f,g,λq b c i=>?_⟩;have u:=a.pg.bnd q i;obtain⟨m,rfl⟩:=z3 (show 0<=q by omega);have p:=(a.pg.own m ω).2 i;exact p (g m b c)
def aT.addS{h:ab}{E:List Int}{c:Int}(a:aT h E)(H:0<=c/\c<=3)(F:(au h.q 1).2.2=true){k:ah}(s:vA h.G (au h.q 1).2.1 (k,true)):aT (addS h k (au h.q 1).1 (au h.q 1).2.1 c) E:=by
 obtain⟨U,G,r3,J,r5⟩:=nk a.rng (v5 _) F;obtain⟨-,V,u3,W⟩:=jA a (v5 _) F;generalize (au h.q 1).2.1=p at G r3 J r5 V u3 W s |-;generalize (au h.q 1).1=fr at U J |-;obtain⟨f,f1,f2,K,f4⟩:=s.yes rfl;have M:=(bx.1 (aD.1 a.ker).2.2.1).2.2;change (tbl h).O.length<=32 at M;have X:=a.L;have N:=kT (H5 p) h.K ⟨p,c,0⟩;have O:=Ft N (List.Perm.refl h.J);have w:(pgs (jt (H5 p) h.K ⟨p,c,0⟩) h.J).Perm (p::pgs h.K h.J):=O;have B:p∉pgs h.K h.J:=W p (v5 _) ω;have P:∀z∈h.K,z.Q≠p:=λz g e=>B (by rw[<-e];exact d7 g)
 have i:∀b d,jF (jt (H5 p) h.K ⟨p,c,0⟩) b d↔jF h.K b d:=λb d=>by
  constructor
  ·rintro⟨s,C,A,Q⟩
   rcases cM.1 C with rfl|C
   ·exact absurd A (wc rfl b)
   exact⟨s,C,A,Q⟩
  rintro⟨s,C,A⟩
  exact⟨s,cM.2 (.inr C),A⟩
 exact {a with
   ker:=s.ker
   rng:=by show bC ((k.F.R.O.length:Nat):Int) fr=true;rw[s.len];exact U
   lay:=by
     obtain⟨l1,l2,l3⟩:=dY a.lay;unfold bk;simp only[I0,C0];refine⟨⟨v4.2 λz g=>?_,l2⟩,w.nodup_iff.2 (List.nodup_cons.2 ⟨B,l3⟩)⟩;rcases cM.1 g with rfl|g
     · have R:0<=lim c:=by
         have:=(gI H).1;obtain rfl|rfl|rfl|rfl:c=0\/c=1\/c=2\/c=3:=ω
         all_goals decide
       exact O0 ⟨G,by show p<=31;omega,H.1,H.2,v5 _,R⟩
     exact X.sok z g
   srs:=mb (f:=λz:ax=>z.Q) (y:=⟨p,c,0⟩) a.srs P
   pg:=by
     refine a.pg.add (p:=p) (n:=1) s.len (by exact V) G (λq Y=>?_) (λq q1 q2=>?_) (λq=>J q) (λq=>?_) (λz g=>?_) (λl hl=>.inl hl)
     · exact(K q).trans (C9 ω)
     · have Y:(q:Int)=p:=ω
       have Z:nth k.F.R.O q = ⟨2,(f:Nat)⟩:=(K q).trans (CC Y);refine⟨X0 bh.j Z,λu S t r=>?_⟩;have fu:nth k.F.R.O u=if(u:Int)=p then⟨2,(f:Nat)⟩ else nth h.G.F.R.O u:=K u
       change (nth k.F.R.O u).j≠0 at t;change (nth k.F.R.O u).e=(nth k.F.R.O q).e at r;rw[fu]at t r;rw[Z]at r;by_cases eu:(u:Int)=p
       · omega
       rw[C9 eu]at t r;exact absurd r (f4 u S t)
     · show q∈pgs (jt (H5 p) h.K ⟨p,c,0⟩) h.J↔_
       rw[w.mem_iff,List.mem_cons];constructor
       · rintro(e|e)
         · exact .inr ⟨ω,ω⟩
         exact .inl e
       rintro(e|e)
       · exact .inr e
       exact .inl ω
     rcases cM.1 g with rfl|g
     · exact⟨G,.inr ⟨v5 _,by show p<p+((1:Nat):Int);omega⟩⟩
     exact⟨(aE (X.sok z g)).1,.inl g⟩
   oow:=λo F=>by
     rcases a.oow o F with⟨z,g,A,Q⟩|A
     · exact .inl ⟨z,cM.2 (.inr g),A,Q⟩
     exact .inr A
   hca:=λd hd j hj b D=>(i b j).2 (a.hca d hd j hj b D)
   hqu:=λy T=>(i _ _).2 (a.hqu y T)
   hfl:=λb D=>(i _ _).2 (a.hfl b D)
   hin:=λb D=>(i _ _).2 (a.hin b D)
   mem:=λb=>(a.mem b).trans (by
     show mU h.K h.J b↔mU (jt (H5 p) h.K ⟨p,c,0⟩) h.J b;unfold mU;rw[i])
   job:=λhm=>by
     obtain⟨j1,⟨y,T,e1⟩,⟨u,S,e2⟩⟩:=a.job hm;exact⟨j1,⟨y,cM.2 (.inr T),e1⟩,⟨u,cM.2 (.inr S),e2⟩⟩}
def addL(h:ab)(k:ah)(a:List a7)(p n size t:Int):ab:={h with G:=k,q:=a,J:=jt (QL p) h.J ⟨p,n,size⟩,M:=jt (Pv (16*p)) h.M ⟨h.b,16*p,size,t⟩,b:=h.b+1}
def aT.addL{h:ab}{E:List Int}{size t:Int}{n:Nat}(a:aT h E)(g:9<=size/\size<=1000)(J:(n:Int)=(size+15) / 16)(i:(au h.q n).2.2=true){k:ah}(s:mc h.G (au h.q n).2.1 n (k,n))(hn:h.b<1000000)(ht:0<=t/\t<=h.S.length - 1) :
  aT (addL h k (au h.q n).1 (au h.q n).2.1 n size t) E:=by
 have B:(1:Int)<=n:=ω
 obtain⟨V,K,r3,M,r5⟩:=nk a.rng B i;obtain⟨-,W,u3,H⟩:=jA a B i;generalize (au h.q n).2.1=p at K r3 M r5 W u3 H s |-;generalize (au h.q n).1=fr at V M |-;have N:=(bx.1 (aD.1 a.ker).2.2.1).2.2;change (tbl h).O.length<=32 at N;have O:=a.L;have P:=kT (QL p) h.J ⟨p,n,size⟩;have C:=kT (Pv (16*p)) h.M ⟨h.b,16*p,size,t⟩;have Q:lpgs ⟨p,n,size⟩ ((n:Nat):Int).toNat=lpgs ⟨p,n,size⟩ n:=by rw[Z2]
 have D:(pgs h.K (jt (QL p) h.J ⟨p,n,size⟩)).Perm (lpgs ⟨p,n,size⟩ n++pgs h.K h.J):=by
  refine(Ft (List.Perm.refl h.K) P).trans ?_;unfold pgs;rw[X6];simp only[Q];rw[<-W5,<-W5];exact List.perm_append_comm.append_right _
 have u:∀q,q∈lpgs ⟨p,n,size⟩ n↔p<=q/\q<p+n:=λq=>by
  rw[dq];constructor
  ·rintro⟨j,hj,rfl⟩;exact⟨by show p<=p+(j:Int);omega,by show p+(j:Int)<_;omega⟩
  rintro⟨X,Y⟩;exact⟨(q - p).toNat,ω,by show q=p+_;omega⟩
 have R:(lpgs ⟨p,n,size⟩ n).Nodup:=by
  unfold lpgs List.Nodup;rw[List.pairwise_map];exact List.nodup_range.imp λr e=>r (by simp only at e;omega)
 have r:∀z∈h.J,z.Q≠p:=λz g e=>H p (v5 _) ω (by rw[<-e];exact fC g (dq.2 ⟨0,by have:=aK (O.lok z g);omega,ω⟩))
 have S:¬mU h.K h.J (16*p):=by
  rintro(⟨z,g,d,-⟩|⟨l,c,e⟩)
  ·exact H p (v5 _) ω (by rw[show p=z.Q by have a1:=d.1;have a2:=d.2.1;omega];exact d7 g)
  exact r l c ω
 have F:(16*p)∉E++holders h:=λT=>S ((a.mem _).1 T)
 have U:∀o∈h.M,o.Addr≠16*p:=λo i e=>F (C3.2 (.inr (by unfold holders;simp only[C3];exact .inl (.inl (.inl (O4.2 ⟨o,i,e⟩))))))
 have Z:(E++holders (Ab.addL h k fr p n size t)).Perm ((16*p)::(E++holders h)):=by
  have h0:=C.map (·.Addr);refine List.perm_iff_count.2 λb=>?_
  have d:=h0.count_eq b;simp only[Z5,List.count_cons]at d;simp only[holders,cK,Ab.addL,C6,List.count_cons];omega
 exact {a with
   ker:=s.ker
   rng:=by show bC ((k.F.R.O.length:Nat):Int) fr=true;rw[s.len];exact V
   lay:=by
     obtain⟨l1,l2,l3⟩:=dY a.lay;unfold bk;simp only[I0,C0];refine⟨⟨l1,v4.2 λz w=>?_⟩,D.nodup_iff.2 (List.nodup_append.2 ⟨R,l3,λq G b hb e=>?_⟩)⟩
     · rcases cM.1 w with rfl|w
       · exact O0 ⟨g.1,g.2,J,K,by show p<=32 - (n:Int);omega⟩
       exact O.lok z w
     subst e;have:=(u q).1 G;exact H q this.1 this.2 hb
   srl:=mb (f:=λz:ay=>z.Q) (y:=⟨p,n,size⟩) a.srl r
   pg:=by
     refine a.pg.add (p:=p) (n:=n) s.len (by exact W) K (λq G=>s.out q G) (λq X Y=>s.new q X Y) (λq=>M q) (λq=>?_) (λz g=>⟨(aE (O.sok z g)).1,.inl g⟩) (λl c=>?_)
     · show q∈pgs h.K (jt (QL p) h.J ⟨p,n,size⟩)↔_
       rw[D.mem_iff,C3,u];exact Or.comm
     rcases cM.1 c with rfl|c
     · exact .inr λq G=>(u q).1 (by simpa using G)
     exact .inl c
   nums:=A4 a.nums hn
   osr:=mb (f:=λo:aY=>o.Addr) (y:=⟨h.b,16*p,size,t⟩) a.osr U
   onu:=λo i=>by
     rcases cM.1 i with rfl|i
     · have:=a.nums
       unfold cr at this;rw[C0]at this;exact⟨by show 1<=h.b;omega,by show h.b<=h.b+1 - 1;omega,ht⟩
     have:=a.onu o i;exact⟨this.1,by show o.Id<=h.b+1 - 1;omega,this.2.2⟩
   oid:=by
     show((jt (Pv (16*p)) h.M ⟨h.b,16*p,size,t⟩).map (·.Id)).Nodup;rw[(C.map _).nodup_iff,Z5];refine List.nodup_cons.2 ⟨λT=>?_,a.oid⟩;obtain⟨o,i,e⟩:=O4.1 T;have:=(a.onu o i).2.1;simp only at e;omega
   oow:=λo A=>by
     rcases cM.1 A with rfl|A
     · exact .inr ⟨_,cM.2 (.inl rfl),rfl,rfl⟩
     rcases a.oow o A with d|⟨l,c,d⟩
     · exact .inl d
     exact .inr ⟨l,cM.2 (.inr c),d⟩
   nd:=Z.nodup_iff.2 (List.nodup_cons.2 ⟨F,a.nd⟩)
   mem:=λb=>by
     rw[Z.mem_iff,List.mem_cons,a.mem b];show _↔mU h.K (jt (QL p) h.J ⟨p,n,size⟩) b;unfold mU;constructor
     · rintro(rfl|d|⟨l,c,e⟩)
       · exact .inr ⟨_,cM.2 (.inl rfl),rfl⟩
       · exact .inl d
       exact .inr ⟨l,cM.2 (.inr c),e⟩
     rintro(d|⟨l,c,e⟩)
     · exact .inr (.inl d)
     rcases cM.1 c with rfl|c
     · exact .inl e
     exact .inr (.inr ⟨l,c,e⟩)}
structure JK(h h':ab):Prop where
 job:h'.Z=h.Z
 msh:h'.u=h.u
 sp:∀s∈h.K,fg h s.Q=true->∃s'∈h'.K,s'.Q=s.Q/\∀u,meshable s u=true->meshable s' u=true
 ent:∀q:Nat,(nth (tbl h').O q).j≠0->((nth (tbl h).O q).j≠0/\(nth (tbl h').O q).e=(nth (tbl h).O q).e)\/∀u:Nat,(nth (tbl h').O u).j≠0->(nth (tbl h').O u).e=(nth (tbl h').O q).e->u=q
def JK.refl(h:ab):JK h h:=⟨rfl,rfl,λs a _=>⟨s,a,rfl,λ_ z=>z⟩,λ_ b=>.inl ⟨b,rfl⟩⟩
variable{h':ab}
def JK.pg(k:JK h h')(p:Int):fg h' p=fg h p:=by unfold fg;rw[k.job,k.msh]
def JK.trans{h1 g:ab}(a:JK h h1)(b:JK h1 g):JK h g:=by
 refine⟨b.job.trans a.job,b.msh.trans a.msh,λs o i=>?_,λq j=>?_⟩
 ·obtain⟨p,r,k,t⟩:=a.sp s o i
  obtain⟨w,y,A,B⟩:=b.sp p r (by rw[a.pg,k];exact i);exact⟨w,y,A.trans k,λu c=>B u (t u c)⟩
 rcases b.ent q j with⟨d,l⟩|d
 ·rcases a.ent q d with⟨e,C⟩|e
  ·exact .inl ⟨e,l.trans C⟩
  refine .inr λu c n=>?_
  rcases b.ent u c with⟨f,D⟩|f
  ·exact e u f (by rw[<-D,<-l];exact n)
  exact(f q j n.symm).symm
 exact .inr d
def oG.keep(f:0<=p)(d:(nth (tbl h').O p.toNat).j≠0)(g:oG (tbl h) p)(k:JK h h'):oG (tbl h') p:=λq e c=>by
 rcases k.ent p.toNat d with⟨n,i⟩|a
 ·rcases k.ent q e with⟨j,l⟩|b
  ·exact g q j (by rw[<-l,c,i])
  have:=b p.toNat d c.symm;omega
 have:=a q e c;omega
def aT.mapped(a:aT h E){s:ax}(b:s∈h.K):0<=s.Q/\s.Q<(tbl h).O.length/\(nth (tbl h).O s.Q.toNat).j≠0:=by
 have c:=(aE (a.L.sok s b)).1;have d:=a.pg.bnd _ (d7 (la:=h.J) b);refine⟨c,d,(a.pg.own s.Q.toNat ω).2 ?_⟩;rw[show((s.Q.toNat:Nat):Int)=s.Q by omega];exact d7 b
def JI.keep(l:JI h)(p:aT h' E)(k:JK h h'):JI h':=by
 have d:h.u=true->∃a∈h'.K,∃b∈h'.K,a.Q=h.Z.Y.a5/\b.Q=h.Z.Y.a4/\meshable a b=true:=λc=>by
  obtain⟨a,n,b,o,f,g,e⟩:=l.sp c;obtain⟨q,t,u,w⟩:=k.sp a n (by unfold fg;rw[c,f];simp);obtain⟨y,A,B,C⟩:=k.sp b o (by unfold fg;rw[c,g];simp);refine⟨q,t,y,A,u.trans f,B.trans g,?_⟩;have r:=w b e;rw[gK]at r |-;exact C q r
 refine⟨λc=>?_,λc=>?_,λc=>?_,λc=>?_⟩
 ·rw[k.msh]at c;rw[k.job];exact l.ph c
 ·rw[k.msh]at c;rw[k.job];exact d c
 ·rw[k.msh]at c
  obtain⟨a,n,b,o,f,g,e⟩:=d c;obtain⟨i,D,j⟩:=p.mapped n;rw[k.job];rw[f]at i j;exact(l.sk c).keep i j k
 rw[k.msh]at c;obtain⟨a,n,b,o,f,g,e⟩:=d c;obtain⟨i,D,j⟩:=p.mapped o;rw[k.job];rw[g]at i j;exact(l.sm c).keep i j k
def JK.less(h1:h'.Z=h.Z)(c:h'.u=h.u)(d:h'.K=h.K)(b:∀q:Nat,(nth (tbl h').O q).j≠0->nth (tbl h').O q=nth (tbl h).O q):JK h h':=
 ⟨h1,c,λs e _=>⟨s,by rw[d];exact e,rfl,λ_ z=>z⟩,λq a=>.inl ⟨by rw[<-b q a];exact a,by rw[b q a]⟩⟩
def JK.eq(h1:h'.Z=h.Z)(a:h'.u=h.u)(b:h'.K=h.K)(c:tbl h'=tbl h):JK h h':=.less h1 a b λq _=>by rw[c]
def JK.clrS{h:ab}{E:List Int}{a:Int}{i:Nat}(f:aT h E)(c:i<h.K.length)(d:eC (nth h.K i) a):JK h (clrS h i a):=by
 refine⟨rfl,rfl,λs g _=>?_,λq k=>.inl ⟨k,rfl⟩⟩;obtain⟨j,l,rfl⟩:=aM g;by_cases e:j=i
 ·subst e
  have b:=f.L.sok _ (am c);exact⟨_,iP _ c,rfl,λu n=>zZ b (pS b ⟨d.1,d.2.1⟩) n⟩
 exact⟨_,jT _ l e,rfl,λ_ z=>z⟩
def JK.giveP{h:ab}{E:List Int}{i:Nat}(d:aT h E)(f:i<h.K.length)(c:fg h (nth h.K i).Q=false):JK h (giveP h i):=by
 obtain⟨g,k,-⟩:=d.mapped (am f);refine⟨rfl,rfl,λs l a=>?_,λq b=>.inl ?_⟩
 ·obtain⟨j,n,rfl⟩:=aM l
  exact⟨_,cV.2 ⟨j,n,λe=>(by subst e;rw[c]at a;cases a),rfl⟩,rfl,λ_ z=>z⟩
 have o:=qR d.ker (p:=(nth h.K i).Q) ⟨g,k⟩ q;change (nth (cy h.G (nth h.K i).Q).F.R.O q).j≠0 at b;show(nth h.G.F.R.O q).j≠0/\(nth (cy h.G (nth h.K i).Q).F.R.O q).e=(nth h.G.F.R.O q).e;rw[o]at b |-;split at b
 ·exact absurd rfl b
 rename_i e;rw[C9 e];exact⟨b,rfl⟩
def JK.freeS{h:ab}{E:List Int}{a:Int}{i:Nat}(c:aT h (a::E))(b:i<h.K.length)(d:eC (nth h.K i) a):JK h (freeS h i a):=by
 have g:=c.give b d;have f:=JK.clrS c b d;unfold Ab.freeS;split
 ·rename_i e
  have j:nth (Ab.clrS h i a).K i=kq (nth h.K i) (cN (nth h.K i) a):=by unfold Ab.clrS;simp only[bw,true_and];rw[CC b]
  exact f.trans (JK.giveP (h:=Ab.clrS h i a) g (by unfold Ab.clrS;simp only[U1];exact b) (by rw[j];exact e.2))
 exact f
def JK.freeA{h:ab}{E:List Int}{a:Int}(b:aT h (a::E)):JK h (freeA h a):=by
 obtain⟨c,d,-⟩:=b.at (b.hin a (Z1 ..));exact JK.freeS b c d
def JK.recyc{h:ab}{E:List Int}{a:Int}{t:Nat}(b:aT h (a::E)):JK h (recyc t h a):=by
 unfold Ab.recyc;split
 ·exact JK.eq rfl rfl rfl rfl
 exact JK.freeA b
def JK.recycs{t:Nat}{E:List Int} : ∀{az:List Int}{h:ab},aT h (az++E)->t<h.S.length->JK h (recycs t h az)
 | [],h,_,_=>JK.refl h
 | a::az,h,b,c=>(JK.recyc (t:=t) b).trans (JK.recycs (az:=az) (h:=Ab.recyc t h a) (b.recyc c) (by rw[(lA t h a).1];exact c))
def JK.freeAs{E:List Int} : ∀{az:List Int}{h:ab},aT h (az++E)->JK h (freeAs h az)
 | [],h,_=>JK.refl h
 | a::az,h,b=>(JK.freeA b).trans (JK.freeAs (az:=az) (h:=Ab.freeA h a) b.freeA)
def JK.flushN{t:Nat}{h:ab}(c:aT h [])(d:t<h.S.length):∀{k:Nat},k<=4->JK h (flushN t h k).1
 | 0,_=>JK.refl h
 | k+1,e=>by
  obtain⟨h1,f,-⟩:=jq c d (k:=k) ω;have a:t<(Ab.flushN t h k).1.S.length:=ω
  have b:k<(nth (Ab.flushN t h k).1.S t).a.length:=by rw[(eL (h1.cach _ (am a))).1];omega
  exact JK.trans (h1:=Ab.spilt (Ab.flushN t h k).1 t k) ((JK.flushN c d (k:=k) ω).trans (JK.eq rfl rfl rfl rfl)) (JK.freeAs (h1.spilt a b))
def tD(a:aT h E){k:Nat}(b:k<h.J.length):0<=(nth h.J k).Q/\(nth h.J k).Q+((nth h.J k).a2.toNat:Nat)<=(tbl h).O.length:=by
 have c:=aK (a.L.lok _ (am b));have d:=a.pg.bnd _ (fC (sp:=h.K) (am b) (dq.2 ⟨(nth h.J k).a2.toNat - 1,ω,rfl⟩));exact⟨ω,ω⟩
def JK.freeL{h:ab}{E:List Int}{i k:Nat}(b:aT h E)(c:k<h.J.length):JK h (freeL h i k):=by
 obtain⟨d,f⟩:=tD b c;refine JK.less rfl rfl rfl λq a=>?_
 have g:=mZ b.ker d (nth h.J k).a2.toNat f q;change (nth (unmN h.G (nth h.J k).Q (nth h.J k).a2.toNat).F.R.O q).j≠0 at a;show nth (unmN h.G (nth h.J k).Q (nth h.J k).a2.toNat).F.R.O q=nth h.G.F.R.O q;rw[g]at a |-;split at a
 ·exact absurd rfl a
 rename_i e;rw[C9 e]
def JK.freeOb{h:ab}{t i:Nat}(a:aT h [])(c:i<h.M.length)(d:t<h.S.length):JK h (freeOb h t i).1:=by
 unfold Ab.freeOb;split
 ·rename_i b
  obtain⟨l,e,h1,-⟩:=(dc a (am c)).1 b;exact JK.freeL a (pU e h1).1
 rename_i b;split
 ·exact JK.refl h
 have h1:=a.inQuar c b;exact JK.trans (h1:=Ab.inQuar h i) (JK.eq rfl rfl rfl rfl) (JK.recycs (E:=[]) (by rw[List.append_nil];exact h1) d)
def JK.take{k sd:Int}(b:fg h (nth h.K i).Q=false):JK h {h with c1:=sd,K:=h.K.set i (r6 (nth h.K i) k)}:=by
 refine⟨rfl,rfl,λs c a=>?_,λq d=>.inl ⟨d,rfl⟩⟩;obtain⟨j,f,rfl⟩:=aM c;exact⟨_,jT _ f λe=>(by subst e;rw[b]at a;cases a),rfl,λ_ z=>z⟩
def td{t:aI}{q:Nat}(h:(nth t.O q).j≠0):q<t.O.length:=by
 by_cases e:q<t.O.length
 ·exact e
 exfalso;apply h;unfold nth;rw[X2,W2 ω]
 rfl
def JK.addS{h:ab}{k:ah}{l:List a7}{p c:Int}(s:vA h.G p (k,true)):JK h (addS h k l p c):=by
 obtain⟨f,t,w,d,n⟩:=s.yes rfl;have b:k.F.R.O.length=h.G.F.R.O.length:=s.len;refine⟨rfl,rfl,λz o _=>⟨z,cM.2 (.inr o),rfl,λ_ y=>y⟩,λq g=>?_⟩;change (nth k.F.R.O q).j≠0 at g;show((nth h.G.F.R.O q).j≠0/\(nth k.F.R.O q).e=(nth h.G.F.R.O q).e)\/∀u:Nat,(nth k.F.R.O u).j≠0->(nth k.F.R.O u).e=(nth k.F.R.O q).e->u=q
 by_cases e:(q:Int)=p
 ·refine .inr λu i a=>?_
  have j:=td i;have f3u:=d u;have f3q:=d q;simp only at f3u f3q;rw[CC e]at f3q;rw[f3q]at a;by_cases r:(u:Int)=p
  ·omega
  rw[C9 r]at f3u;rw[f3u]at i a;exact absurd a (n u (by rw[<-b];exact j) i)
 have f3q:=d q;simp only at f3q;rw[C9 e]at f3q;rw[f3q]at g |-;exact .inl ⟨g,rfl⟩
def JK.addL{h:ab}{k:ah}{g:List a7}{p size t:Int}{n:Nat}(s:mc h.G p n (k,n)):JK h (addL h k g p n size t):=by
 have a:k.F.R.O.length=h.G.F.R.O.length:=s.len;refine⟨rfl,rfl,λz i _=>⟨z,i,rfl,λ_ y=>y⟩,λq b=>?_⟩;change (nth k.F.R.O q).j≠0 at b;show((nth h.G.F.R.O q).j≠0/\(nth k.F.R.O q).e=(nth h.G.F.R.O q).e)\/∀u:Nat,(nth k.F.R.O u).j≠0->(nth k.F.R.O u).e=(nth k.F.R.O q).e->u=q
 by_cases e:p<=q/\(q:Int)<p+n
 ·exact .inr λu d c=>(s.new q e.1 e.2).2 u (by rw[<-a];exact td d) d c
 have f:=s.out q e;simp only at f;rw[f]at b |-;exact .inl ⟨b,rfl⟩
def tA(h:ab):∀{n:Nat},n<=h.K.length->∀s∈mg h n,(aV h s.Q).length=1
 | 0,_,s,a=>by cases a
 | n+1,b,s,a=>by
  unfold mg at a;split at a
  ·rename_i e
   rcases C3.1 a with a|a
   ·exact tA h ω s a
   unfold Af at e;simp only[I0,C0]at e;rw[O1.1 a];exact e.2
  exact tA h ω s a
def aT.sole(e:aT h E){s:ax}(f:s∈h.K)(h1:(aV h s.Q).length=1):oG (tbl h) s.Q:=λq a g=>by
 obtain⟨k,l,b⟩:=e.mapped f;have i:s.Q=((s.Q.toNat:Nat):Int):=ω
 rw[i,f8 (by show s.Q.toNat<(tbl h).O.length;omega) b]at h1;obtain⟨z,j⟩:=List.length_eq_one_iff.1 h1;have c:(s.Q.toNat:Int)∈pagesOn (tbl h) (nth (tbl h).O s.Q.toNat).e:=eP.2 ⟨ω,b,rfl⟩;have d:(q:Int)∈pagesOn (tbl h) (nth (tbl h).O s.Q.toNat).e:=eP.2 ⟨td a,a,g⟩;rw[j]at c d;simp only[O1]at c d;omega
def Gz(hi:aT h [])(l:h.u=false):aT (started h).1 []/\JI (started h).1:=by
 have F:=hi.nums;unfold cr at F;rw[C0]at F;have L:=(mT (bE h).length (show 0<=h.c1/\h.c1<=1073741823 by omega) ((bE h).length - 1)).2;have n:=nr (bE h) (show 0<=h.c1/\h.c1<=1073741823 by omega);have c:cr {h with c1:=(shuf (bE h).length h.c1).2} = true:=by
  unfold cr;rw[C0];unfold shuf;simp only;omega
 cases o:lX (bE h) h.c1 with
 | nil=>
  have f:Ab.started h=({h with c1:=(shuf (bE h).length h.c1).2},false):=by unfold Ab.started;rw[o]
  rw[f];exact⟨{hi with nums:=c},⟨λe=>by simp[l]at e,λe=>by simp[l]at e,λe=>by simp[l]at e,λe=>by simp[l]at e⟩⟩
 | cons q Q=>
  obtain⟨R,S,g⟩:=n q (by rw[o];exact Z1 ..);have f:Ab.started h=({h with c1:=(shuf (bE h).length h.c1).2,u:=true,Z:=tH (dr (nth (bE h) q.A.toNat) (nth (bE h) q.B.toNat))},true):=by unfold Ab.started;rw[o]
  rw[f];have d:∀s∈bE h,s∈h.K/\oG (tbl h) s.Q:=λs M=>by
   have G:=List.mem_of_mem_take M;have H:=mV h (I3 _) s G;exact⟨H,hi.sole H (tA h (I3 _) s G)⟩
  have j:=d _ (am (xs:=bE h) (i:=q.A.toNat) ω);have k:=d _ (am (xs:=bE h) (i:=q.B.toNat) ω);generalize nth (bE h) q.A.toNat=a at g j |-;generalize nth (bE h) q.B.toNat=b at g k |-;obtain⟨N,T,U⟩:=tl g;have p:(dr a b).a5=a.Q/\(dr a b).a4=b.Q\/(dr a b).a5=b.Q/\(dr a b).a4=a.Q:=by
   unfold dr;split
   ·exact .inr ⟨rfl,rfl⟩
   exact .inl ⟨rfl,rfl⟩
  have r:jN (tH (dr a b))=true:=d4.2 ⟨N,by show(0:Int)<=0;omega,by show(0:Int)<=5;omega,by show(0:Int)<=0;omega,by show(0:Int)<=(((dr a b).U.length:Nat):Int);omega⟩;have t:∃x∈h.K,∃y∈h.K,x.Q=(dr a b).a5/\y.Q=(dr a b).a4/\meshable x y=true/\oG (tbl h) x.Q/\oG (tbl h) y.Q:=by
   rcases p with⟨u,w⟩|⟨u,w⟩
   ·exact⟨a,j.1,b,k.1,u.symm,w.symm,g,j.2,k.2⟩
   exact⟨b,k.1,a,j.1,u.symm,w.symm,by rw[gK];exact g,k.2,j.2⟩
  obtain⟨x,J,y,K,C,D,E,O,P⟩:=t;exact⟨{hi with nums:=c,job:=λ_=>⟨r,⟨x,J,C⟩,⟨y,K,D⟩⟩,noj:=λe=>by cases e},⟨λ_=>⟨by show(0:Int)<=0;omega,by show(0:Int)<=3;omega⟩,λ_=>⟨x,J,y,K,C,D,E⟩,λ_=>by show oG (tbl h) (dr a b).a5;rw[<-C];exact O,λ_=>by show oG (tbl h) (dr a b).a4;rw[<-D];exact P⟩⟩
def fS(m:aJ)(f:Nat):aJ:=⟨m.T.set f ((nth m.T f).drop 1),m.y.set (nth (nth m.T f) 0).To.toNat (nth m.y (nth (nth m.T f) 0).To.toNat++[(nth (nth m.T f) 0).Addr])⟩
def lI(m:aJ)(t:Nat):aJ:=⟨m.T,m.y.set t []⟩
def dQ(m:aJ)(f:Nat)(p:de):aJ:=⟨m.T.set f (nth m.T f++[p]),m.y⟩
def df{m:aJ} : bu m=true↔(1<=m.T.length/\m.T.length<=4/\m.y.length=m.T.length)/\(∀i,i<m.T.length->(∀p∈nth m.T i,0<=p.To/\p.To<=(m.T.length:Int) - 1/\0<=p.Addr)/\∀a∈nth m.y i,0<=a)/\br m m.T.length<=30:=by
 unfold bu;simp only[I0,C0,cF,gL,v4,nI,QI];exact and_assoc
def pf(m:aJ)(f t:Nat)(x:List de)(y:List Int)(g:f<m.T.length)(h:t<m.y.length):∀n:Nat,br ⟨m.T.set f x,m.y.set t y⟩ n=br m n+(if f<n then(x.length:Int) - ((nth m.T f).length:Nat) else 0)+(if t<n then(y.length:Int) - ((nth m.y t).length:Nat) else 0)
 | 0=>by simp[br]
 | n+1=>by
  have i:=pf m f t x y g h n;have j:(nth (m.T.set f x) n).length=if f=n then x.length else(nth m.T n).length:=by
   rw[bw];by_cases e:f=n
   ·rw[CC ⟨e,ω⟩,CC e]
   rw[C9 λz=>e z.1,C9 e]
  have k:(nth (m.y.set t y) n).length=if t=n then y.length else(nth m.y n).length:=by
   rw[bw];by_cases e:t=n
   ·rw[CC ⟨e,ω⟩,CC e]
   rw[C9 λz=>e z.1,C9 e]
  simp only[br,i,j,k];by_cases d:f=n
  ·subst d
   by_cases b:t=f
   ·subst b
    simp only[if_true,Nat.lt_irrefl,if_false,Nat.lt_succ_self];omega
   simp only[if_true,Nat.lt_irrefl,if_false,Nat.lt_succ_self,C9 b];by_cases a:t<f
   ·rw[CC a,CC (show t<f+1 by omega)];omega
   rw[C9 a,C9 (show ¬t<f+1 by omega)];omega
  by_cases b:t=n
  ·subst b
   simp only[if_true,Nat.lt_irrefl,if_false,Nat.lt_succ_self,C9 d];by_cases a:f<t
   ·rw[CC a,CC (show f<t+1 by omega)];omega
   rw[C9 a,C9 (show ¬f<t+1 by omega)];omega
  simp only[C9 d,C9 b];by_cases a:f<n
  ·rw[CC a,CC (show f<n+1 by omega)]
   by_cases c:t<n
   ·rw[CC c,CC (show t<n+1 by omega)];omega
   rw[C9 c,C9 (show ¬t<n+1 by omega)];omega
  rw[C9 a,C9 (show ¬f<n+1 by omega)];by_cases c:t<n
  ·rw[CC c,CC (show t<n+1 by omega)];omega
  rw[C9 c,C9 (show ¬t<n+1 by omega)];omega
variable{α:Type}
def Qn[Inhabited α]{xs:List α}(h:i<xs.length):xs.set i (nth xs i)=xs:=by
 rw[<-U2.1 (ao h) |>.2];exact List.set_getElem_self h
def Gn{m:aJ}(h:bu m=true)(d:f<m.T.length)(n:0<(nth m.T f).length):bu (fS m f)=true:=by
 obtain⟨⟨o,q,r⟩,g,y⟩:=df.1 h;obtain⟨t,A⟩:=g f d;have c:=t _ (am n);have u:(nth (nth m.T f) 0).To.toNat<m.y.length:=ω
 refine df.2 ⟨⟨?_,?_,?_⟩,λi j=>?_,?_⟩
 ·simp only[fS,U1];exact o
 ·simp only[fS,U1];exact q
 ·simp only[fS,U1];exact r
 ·simp only[fS,U1]at j |-
  obtain⟨k,l⟩:=g i j;simp only[bw];refine⟨λp c=>?_,λa b=>?_⟩
  ·split at c
   ·rename_i e;rw[<-e.1]at k
    refine(g f d).1 p (List.mem_of_mem_drop c)
   exact k p c
  split at b
  ·rename_i e
   rcases C3.1 b with b|b
   ·rw[e.1]at b;exact l a b
   rw[O1.1 b];exact c.2.2
  exact l a b
 have w:=pf m f (nth (nth m.T f) 0).To.toNat ((nth m.T f).drop 1) (nth m.y (nth (nth m.T f) 0).To.toNat++[(nth (nth m.T f) 0).Addr]) d u m.T.length;simp only[fS,U1];rw[w,CC d,CC ω,V3,U3,List.length_singleton];omega
variable{t:Nat}
def PK{m:aJ}(h:bu m=true)(d:t<m.y.length):bu (lI m t)=true:=by
 obtain⟨⟨e,f,g⟩,j,o⟩:=df.1 h;refine df.2 ⟨⟨e,f,?_⟩,λi k=>?_,?_⟩
 ·simp only[lI,U1];exact g
 ·obtain⟨l,n⟩:=j i k
  simp only[lI,bw];refine⟨l,λa b=>?_⟩;split at b
  ·cases b
  exact n a b
 have c:=pf m t t (nth m.T t) [] ω d m.T.length;rw[Qn ω]at c;show br ⟨m.T,m.y.set t []⟩ m.T.length<=30;rw[c,CC ω,CC ω,List.length_nil];omega
def kX{m:aJ}(h:bu m=true)(b:Int):(aN m).count b=(m.T.flatMap λl=>l.map (·.Addr)).count b+(m.y.flatMap λx=>x).count b:=by
 unfold aN;rw[CC h,C6,lK]
def aT.mailed{c:List Int}{m:aJ}(d:aT h E)(i:bu m=true)(j:m.T.length=h.w.T.length)(k:∀b,c.count b+(aN m).count b=E.count b+(aN h.w).count b)(f:∀a,a∈c\/a∈aN m->jF h.K a (-1)):aT {h with w:=m} c:=by
 have g:(E++holders h).Perm (c++holders {h with w:=m}):=by
  refine List.perm_iff_count.2 λb=>?_
  have l:=k b;simp only[holders,cK,C6];omega
 exact {d with
   mail:=i
   nc:=d.nc.trans j.symm
   hfl:=λa e=>f a (.inr e)
   hin:=λa e=>f a (.inl e)
   nd:=g.nodup_iff.1 d.nd
   mem:=λb=>by rw[<-g.mem_iff];exact d.mem b}
def G5{d:List Int}{m:aJ}(f:aT h E)(g:∀b,d.count b+(aN m).count b=E.count b+(aN h.w).count b):∀a,a∈d\/a∈aN m->jF h.K a (-1):=λa c=>by
 have i:=g a;have j:0<d.count a+(aN m).count a:=by
  rcases c with c|c
  ·have:=List.count_pos_iff.2 c;omega
  have:=List.count_pos_iff.2 c;omega
 by_cases e:0<E.count a
 ·exact f.hin a (List.count_pos_iff.1 e)
 exact f.hfl a (List.count_pos_iff.1 ω)
def aT.deliv(a:aT h E)(e:f<h.w.T.length)(d:0<(nth h.w.T f).length):aT {h with w:=fS h.w f} E:=by
 have c:=Gn a.mail e d;obtain⟨⟨q,r,t⟩,j,u⟩:=df.1 a.mail;have k:=(j f e).1 _ (am d);have g:∀b,E.count b+(aN (fS h.w f)).count b=E.count b+(aN h.w).count b:=λb=>by
  rw[kX c,kX a.mail];have i:=iO (λl:List de=>l.map (·.Addr)) b h.w.T f ((nth h.w.T f).drop 1) e;have n:=iO (λx:List Int=>x) b h.w.y (nth (nth h.w.T f) 0).To.toNat (nth h.w.y (nth (nth h.w.T f) 0).To.toNat++[(nth (nth h.w.T f) 0).Addr]) ω;have o:(nth h.w.T f).map (·.Addr)=(nth (nth h.w.T f) 0).Addr::((nth h.w.T f).drop 1).map (·.Addr):=by
   generalize nth h.w.T f=l at d
   match l,d with
   | p::l,_=>rfl
  simp only[fS];rw[o]at i;simp only[List.count_cons]at i;simp only[C6,List.count_singleton]at n;omega
 exact a.mailed c (by simp[fS]) g (G5 a g)
def aT.coll(c:aT h E)(d:t<h.w.y.length):aT {h with w:=lI h.w t} (nth h.w.y t++E):=by
 have a:=PK c.mail d;have e:∀b,(nth h.w.y t++E).count b+(aN (lI h.w t)).count b=E.count b+(aN h.w).count b:=λb=>by
  rw[kX a,kX c.mail];have f:=iO (λx:List Int=>x) b h.w.y t [] d;simp only[List.count_nil]at f;simp only[lI,C6];omega
 exact c.mailed a rfl e (G5 c e)
def aT.send{p:de}(c:aT h (p.Addr::E))(e:f<h.w.T.length)(a:bu (dQ h.w f p)=true):aT {h with w:=dQ h.w f p} E:=by
 have d:∀b,E.count b+(aN (dQ h.w f p)).count b=(p.Addr::E).count b+(aN h.w).count b:=λb=>by
  rw[kX a,kX c.mail];have g:=iO (λl:List de=>l.map (·.Addr)) b h.w.T f (nth h.w.T f++[p]) e;simp only[X5,Z5,List.map_nil,C6,List.count_singleton]at g;simp only[dQ,List.count_cons];omega
 exact c.mailed a (by simp[dQ]) d (G5 c d)
def rX(now:Int):List aO->Nat
 | []=>0
 | x::xs=>if x.b6<now - 100 then rX now xs+1 else 0
def aged(h:ab)(n:Int):ab:={h with b3:=h.b3+n,a6:=⟨h.a6.c0,h.a6.a1.drop (rX (h.b3+n) h.a6.a1)⟩}
def oh(h:ab)(n:Int):List Int:=(h.a6.a1.take (rX (h.b3+n) h.a6.a1)).map (·.Addr)
def tick(h:ab)(n:Int):ab:=freeAs (aged h n) (oh h n)
def p8(x:aO)(xs:List aO):∀n,quarCells (x::xs) (n+1)=csz x.d+quarCells xs n
 | 0=>by simp only[quarCells];show 0+csz x.d=csz x.d+0;omega
 | n+1=>by
  rw[iQ,p8 x xs n,iQ];show csz x.d+quarCells xs n+csz (nth xs n).d=_;omega
def Rx(k:Int):0<=csz k:=by
 unfold csz;split
 ·exact Int.le_of_lt (Int.pow_pos (by decide))
 decide
def Je:∀(l:List aO)(k:Nat),qc (l.drop k)<=qc l
 | [],k=>by simp
 | x::xs,0=>v5 _
 | x::xs,k+1=>by
  have a:=Je xs k;have b:=Rx x.d;have c:qc (x::xs)=csz x.d+qc xs:=p8 x xs xs.length;show qc (xs.drop k)<=qc (x::xs);omega
def aT.aged{h:ab}{E:List Int}{n:Int}(a:aT h E)(t:0<=n)(u:h.b3+n<=1000000):aT (aged h n) (oh h n++E):=by
 obtain⟨i,j,k,o,p,q⟩:=iW.1 a.quar;have c:=a.nums;unfold cr at c;rw[C0]at c;have e:=List.drop_sublist (rX (h.b3+n) h.a6.a1) h.a6.a1;have g:(E++holders h).Perm ((oh h n++E)++holders (Ab.aged h n)):=by
  refine List.perm_iff_count.2 λb=>?_
  have r:=X0 (λl:List aO=>(l.map (·.Addr)).count b) (List.take_append_drop (rX (h.b3+n) h.a6.a1) h.a6.a1);simp only[X5,C6]at r;simp only[holders,cK,Ab.aged,oh,C6];omega
 exact {a with
   nums:=by unfold cr;rw[C0];simp only[Ab.aged];omega
   quar:=iW.2 ⟨λy d=>i y (e.subset d),j.sublist e,k.sublist (e.map _),o,p,t5 (Je _ _) q⟩
   snc:=λy d=>by
     have:=a.snc y (e.subset d);show y.b6<=h.b3+n;omega
   hqu:=λy d=>a.hqu y (e.subset d)
   hin:=λb f=>by
     rcases C3.1 f with f|f
     · obtain⟨y,d,rfl⟩:=O4.1 f
       exact(a.hqu y (List.mem_of_mem_take d)).any
     exact a.hin b f
   nd:=g.nodup_iff.1 a.nd
   mem:=λb=>by rw[<-g.mem_iff];exact a.mem b}
def aT.tick{h:ab}{n:Int}(a:aT h [])(b:0<=n)(c:h.b3+n<=1000000):aT (tick h n) []/\JK h (tick h n):=by
 have h1:=a.aged b c;exact⟨aT.freeAs h1,JK.trans (h1:=Ab.aged h n) (JK.eq rfl rfl rfl rfl) (JK.freeAs h1)⟩
def collect(h:ab)(t:Nat):ab:=recycs t {h with w:=lI h.w t} (nth h.w.y t)
def aT.collect{h:ab}{t:Nat}(a:aT h [])(b:t<h.S.length):aT (collect h t) []/\JK h (collect h t):=by
 have h1:=a.coll (t:=t) (by rw[(df.1 a.mail).1.2.2,<-a.nc];exact b);exact⟨aT.recycs h1 b,JK.trans (h1:={h with w:=lI h.w t}) (JK.eq rfl rfl rfl rfl) (JK.recycs h1 b)⟩
def wE(h:ab)(t i:Nat):ab:={h with G:=dN h.G (nth h.M i).Addr (csz (aG (nth h.M i).o)).toNat,M:=dele h.M i,w:=dQ h.w t ⟨(nth h.M i).a3,(nth h.M i).Addr⟩}
def freeT(h:ab)(t i:Nat):ab × Int:=
 if aG (nth h.M i).o<0 then(freeL h i (sI h (nth h.M i).Addr),0)
 else if(ac (tbl h) ((nth h.M i).Addr / 16)).j=1 then(h,5)
 else if(nth h.M i).a3=t then(vt h t i,0)
 else if bu (dQ h.w t ⟨(nth h.M i).a3,(nth h.M i).Addr⟩)=true then(wE h t i,0) else(h,5)
def tS(e:(nth h.M i).a3=t):freeT h t i=freeOb h t i:=by
 unfold freeT freeOb;rw[CC e]
def aT.freeT{h:ab}{t i:Nat}(a:aT h [])(b:i<h.M.length)(c:t<h.S.length):aT (freeT h t i).1 []/\JK h (freeT h t i).1:=by
 by_cases e:(nth h.M i).a3=t
 ·rw[tS e];exact⟨a.freeOb b c,JK.freeOb a b c⟩
 have d:=a.freeOb b c;have f:=JK.freeOb a b c;unfold Ab.freeOb at d f;unfold Ab.freeT;split
 ·rename_i g
  rw[CC g]at d f;exact⟨d,f⟩
 rename_i g;rw[C9 g]at d f;split
 ·exact⟨a,JK.refl h⟩
 split
 ·rename_i j
  obtain⟨⟨s,l,n,o⟩,u⟩:=(dc a (am b)).2 g;have q:=a.dropO b (jF.any ⟨s,l,n,.inr o⟩);have r:=q.cells (k:=dN h.G (nth h.M i).Addr (csz (aG (nth h.M i).o)).toNat) (Eg a.ker _ _) rfl;exact⟨aT.send (p:=⟨(nth h.M i).a3,(nth h.M i).Addr⟩) r (by show t<h.w.T.length;rw[<-a.nc];exact c) j,JK.eq rfl rfl rfl rfl⟩
 exact⟨a,JK.refl h⟩
def dK(k:ah)(a v:Int):ah:=setCell k (co k a) (a % 16) v
variable{a:Int}
def xF(h:aA k=true){v:Int}(b:(ac k.F.R (a / 16)).j≠0)(c:0<=v/\v<=999):aA (dK k a v)=true:=by
 obtain⟨d,e,-⟩:=gC h b;exact qG h (f:=co k a) d e c
def aT.store{v:Int}(b:aT h [])(c:(ac h.G.F.R (a / 16)).j≠0)(d:0<=v/\v<=999):aT {h with G:=dK h.G a v} []/\JK h {h with G:=dK h.G a v}:=
 ⟨b.cells (xF b.ker c d) rfl,JK.eq rfl rfl rfl rfl⟩
open Go.RowKit
set_option maxRecDepth 20000
set_option maxHeartbeats 4000000
def Qk{xs:List Int}{x:Int}(h:dn xs.length (λj=>decide (nth xs j≠x))=true):x∉xs:=λb=>by
 obtain⟨j,a⟩:=List.mem_iff_getElem?.1 b;have:=eZ h (U2.1 a).1;rw[bg a]at this;simp at this
def ES(xs:List Int)(x:Int)(g:xs.length<=4611686018427387904):zzA 353 false [.val none (aF .V xs),.val none [I x]] .one [B (decide (x∈xs))]:=by
 refine fO 18 [] Tryz.func353 rfl ?_
 repeat'(first|refine gP ?_|fail)
 (conv=>whnf)
 refine CG (ι:=Nat) (λi=>[(0,.H .one (aF .V xs)),(1,.H .one [I (x)]),(5,.H .one [I ((i:Nat):Int)])]) (λi=>i<=xs.length/\dn i (λj=>decide (nth xs j≠x))=true) (λi=>xs.length - i) 0 ?_ ⟨W0 _,rfl⟩ λi a=>?_
 ·exact wB
 obtain⟨a,b⟩:=a;by_cases c:i<xs.length
 ·have d:=ao c
  by_cases e:nth xs i=x
  ·repeat'(first|refine gB ?_|(conv=>whnf);first|with_reducible refine CD (aa d) ?_)
   exact X0 (λz=>[B z]) ((by symm;exact O0 (by rw[<-e];exact am c)))
  repeat'(first|refine gB ?_|(conv=>whnf);first|with_reducible refine CD (aa d) ?_)
  ((conv=>whnf);refine CE (i+1) ⟨ω,bQ b (O0 e)⟩ ω ?_;(exact wB))
 repeat'(first|refine gE ?_|fail)
 obtain rfl:i=xs.length:=ω
 exact X0 (λz=>[B z]) ((by symm;exact U0 (Qk b)))
theorem bK.more{M c:af}{w d:World}(h:bK M w d)(f:∀b o,M b o->c b o):bK c w d:=
 ⟨h.os,h.tape,h.output,h.size,λb a e=>h.blk b a ψ,λb o a e=>h.cel b o a ψ,λb o a e=>h.fro b o a ψ⟩
variable{rcs c:List C}
theorem aR.wk{P:Program}{sh:Bool}{u:List C}{A B:List MA}{k:Kd}(h:aR P f sh A (.ptr c::B) k rcs)(D:L9 c u):aR P f sh A (.ptr u::B) k rcs:=by
 refine⟨h.has,λw S V i E F l G=>(h.run w S V i E F l G).mono λe w1 H=>?_⟩;obtain⟨v,J,K,X,L,M,N,n,p,a,q,r,b,O,Q,y⟩:=H;refine⟨v,J,K,X,L,M,N,n,p,a,q,r,b,O,Q,?_⟩;cases i with
 | nil=>exact y.elim
 | cons v0 i=>
  obtain⟨⟨R,Y,T,U,W,⟨g,o,Z,e2⟩,d⟩,t⟩:=y;refine⟨⟨R,Y,T,U,W,⟨g,o,Z,λj hj=>e2 j (by grind [rW])⟩,B2 D d⟩,t⟩
def aR.frame{P:Program}{sh:Bool}{c' r:List C}{A B:List MA}{k:Kd}(h:aR P f sh (.ptr c::A) (.ptr c'::B) k rcs)(hl:c'.length=c.length):aR P f sh (.ptr (c++r)::A) (.ptr (c'++r)::B) k rcs:=by
 refine⟨h.has,λw S V vs hS hV hVd hA=>?_⟩;cases vs with
 | nil=>exact hA.elim
 | cons v0 vs=>
 obtain⟨⟨X1,Y,hX1,hY,O,⟨g,q,rfl,u⟩,ff,hf1,J,hf3⟩,hA'⟩:=hA;have hlen:(c++r).length=c.length+r.length:=U3
 let V0:af:=piece g q ff 0 c.length
 let W:Nat->af:=MI V0 (λi=>V (i+1))
 have hcX:∀o,q<=o->o<q+(c++r).length->X1 g o:=λo l a=>by
  have:=(u (o - q) ω).1
  rwa [show q+(o - q)=o by omega]at this
 have hV0:∀b o,V0 b o->V 0 b o:=λb o p=>by
  rcases p with⟨rfl,l,a⟩|⟨j,-,a,Q⟩
  ·exact hX1 _ _ (hcX o ω ω)
  exact hY _ _ (J j ω b o Q)
 have K:∀i b o,W i b o->V i b o:=λi b o p=>by
  cases i with
  | zero=>exact hV0 b o p
  | succ i=>exact p
 have hA2:Pt w S W (.ptr c::A) (.pointer (some ⟨g,q,none⟩)::vs):=by
  refine⟨?_,hA'⟩;have:=tM (lo:=0) (n:=c.length) (cs:=c++r) ω u hf1 J hf3 O;rw[show bF (c++r) 0 c.length=c by simp[bF]]at this;simp only[Z6,Nat.add_zero]at this;exact this
 refine(h.run w S W _ hS (λi b o p=>hV i b o (K i b o p)) (λi i' D b o l a=>hVd i i' D b o (K i b o l) (K i' b o a)) hA2).mono λe w1 hv=>?_
 obtain⟨v,he,hk,X,V',S1,hX,E,hS1,hVd',hXV,hXS,hVS1,hh,hr,hm⟩:=hv;have H:∀b o,(∃i,W i b o)->∃i,V i b o:=λb o ⟨i,Z⟩=>⟨i,K i b o Z⟩
 let R:af:=λb o=>V 0 b o/\¬V0 b o
 have hRW:∀b o,R b o->¬∃i,W i b o:=λb o y ⟨i,Z⟩=>by
  cases i with
  | zero=>exact y.2 Z
  | succ i=>exact hVd 0 (i+1) ω b o y.1 Z
 have F:∀b o,R b o->b<w.heap.size:=λb o y=>(hV 0 b o y.1).1
 have t:∀b o,R b o->¬((∃i,W i b o)\/(b<w1.heap.size/\w.heap.size<=b)):=λb o y p=>by
  rcases p with p|p
  ·exact hRW b o y p
  have:=F b o y;omega
 have hRsame:bn R w w1:=λb o y=>⟨hk.cel b o (F b o y) (hRW b o y),hk.fro b o (F b o y) (hRW b o y)⟩
 have hRS1:∀b o,R b o->¬S1 b o:=λb o y hs=>by
  rcases hS1 b o hs with⟨-,l⟩|l
  ·exact(hV 0 b o y.1).2 l
  exact t b o y l
 have hSsame:bn S w w1:=λb o hb=>⟨hk.cel b o (hS b o hb) (λ⟨i,Z⟩=>(hV i b o (K i b o Z)).2 hb),hk.fro b o (hS b o hb) (λ⟨i,Z⟩=>(hV i b o (K i b o Z)).2 hb)⟩
 have hRc:∀j,c.length<=j->j<(c++r).length->R g (q+j):=λj l a=>by
  refine⟨hX1 _ _ (u j a).1,λp=>?_⟩;rcases p with⟨-,Q,h4⟩|⟨N,Q,h4,h5⟩
  ·omega
  exact O _ _ (u j a).1 (J N ω _ _ h5)
 have L:∀j,c.length<=j->j<(c++r).length->∀b o,ff j b o->R b o:=λj l a b o p=>by
  refine⟨hY _ _ (J j a b o p),λhp=>?_⟩;rcases hp with⟨rfl,Q,h4⟩|⟨N,Q,h4,h5⟩
  ·exact O _ _ (hcX o ω ω) (J j a _ _ p)
  exact hf3 j N a ω ω b o p h5
 let U:Nat->af:=MI (λb o=>V' 0 b o\/R b o) (λi=>V' (i+1))
 have hU:∀i b o,U i b o->V' i b o\/(i=0/\R b o):=λi b o p=>by
  cases i with
  | zero=>exact p.imp id (λh=>⟨rfl,h⟩)
  | succ i=>exact .inl p
 refine⟨v,he,hk.more H,X,U,S1,λb o p=>(hX b o p).imp (H b o) id,λi b o p=>?_,λb o p=>(hS1 b o p).imp id (Or.imp (H b o) id),λi i' D b o l a=>?_,λi b o l a=>?_,hXS,λi b o l a=>?_,hh,hr,?_,hm.2⟩
 ·rcases hU i b o p with l|⟨-,l⟩
  ·exact(E i b o l).imp (H b o) id
  exact .inl ⟨0,l.1⟩
 ·rcases hU i b o l with l|⟨e1,l⟩
  ·rcases hU i' b o a with a|⟨e2,a⟩
   ·exact hVd' i i' D b o l a
   exact t b o a (E i b o l)
  rcases hU i' b o a with a|⟨e2,a⟩
  ·exact t b o l (E i' b o a)
  exact D ω
 ·rcases hU i b o a with a|⟨-,a⟩
  ·exact hXV i b o l a
  exact t b o a (hX b o l)
 ·rcases hU i b o l with l|⟨-,l⟩
  ·exact hVS1 i b o l a
  exact hRS1 b o l a
 obtain⟨Xa,Ya,ha1,ha2,ha3,⟨ga,oa,hea,ha4⟩,fa,ha5,ha6,ha7⟩:=(show qi w1 (λb o=>S b o\/S1 b o) (V' 0) (.ptr c') (.pointer (some ⟨g,q,none⟩)) from hm.1)
 obtain⟨rfl,rfl⟩ : g=ga/\q=oa:=by simpa using hea
 have G:(c'++r).length=c.length+r.length:=by rw[U3,hl]
 show qi w1 (λb o=>S b o\/S1 b o) (λb o=>V' 0 b o\/R b o) (.ptr (c'++r)) (.pointer (some ⟨g,q,none⟩));have faV:∀j,j<c.length->∀b o,fa j b o->V' 0 b o:=λj M b o p=>ha2 _ _ (ha6 j ω b o p)
 refine⟨λb o=>Xa b o\/(R b o/\∃j,c.length<=j/\j<(c++r).length/\b=g/\o=q+j),λb o=>Ya b o\/∃j,c.length<=j/\j<(c++r).length/\ff j b o,λb o p=>?_,λb o p=>?_,λb o l a=>?_,⟨g,q,rfl,λj M=>?_⟩,λj=>if j<c.length then fa j else ff j,λj d M=>?_,λj M b o p=>?_,λj N M hj' D b o l a=>?_⟩
 ·exact p.imp (ha1 b o) (·.1)
 ·rcases p with p|⟨j,l,a,Q⟩
  ·exact .inl (ha2 b o p)
  exact .inr (L j l a b o Q)
 ·rcases l with l|⟨l,j,j1,j2,rfl,rfl⟩
  ·rcases a with a|⟨j,j1,j2,j3⟩
   ·exact ha3 b o l a
   exact t b o (L j j1 j2 b o j3) (E 0 b o (ha1 b o l))
  rcases a with a|⟨N,j3,j4,j5⟩
  ·exact t _ _ l (E 0 _ _ (ha2 _ _ a))
  exact O _ _ (u j j2).1 (J N j4 _ _ j5)
 ·rw[G]at M
  by_cases hc:j<c.length
  ·have:=ha4 j ω
   exact⟨.inl this.1,this.2⟩
  have y:=hRc j ω ω;have hs:=hRsame _ _ y;have T:=u j ω;refine⟨.inr ⟨y,j,ω,ω,rfl,rfl⟩,?_,?_⟩
  ·rw[hs.1];exact T.2.1
  rw[hs.2];exact T.2.2
 ·dsimp only
  by_cases hc:j<c.length
  ·rw[CC hc]
   rw[V4 ω]at M;exact ha5 j d M
  rw[C9 hc];rw[W4 ω,hl]at M;have hj2:(c++r)[j]? = some d:=by rw[W4 ω];exact M
  have hjl:=(U2.1 hj2).1;have Q:=(hf1 j d hj2).keep hSsame (λb o p=>hRsame b o (L j ω hjl b o p));have T:=(hRsame _ _ (hRc j ω hjl)).1;have:ch w1 .box (.pointer (some ⟨g,q,none⟩)) j=ch w .box (.pointer (some ⟨g,q,none⟩)) j:=by
   simp only[ch];rw[T]
  rw[this];exact Q.mono (λ_ _ h=>.inl h) (λ_ _ h=>h)
 ·rw[G]at M
  split at p
  ·rename_i hc;exact .inl (ha6 j ω b o p)
  exact .inr ⟨j,ω,ω,p⟩
 rw[G]at M hj';split at l
 ·rename_i c1
  split at a
  ·exact ha7 j N ω ω D b o l a
  exact t b o (L N ω ω b o a) (E 0 b o (faV j c1 b o l))
 split at a
 ·rename_i c1;exact t b o (L j ω ω b o l) (E 0 b o (faV N c1 b o a))
 exact hf3 j N ω ω D b o l a
mutual
def RV:∀c:C,fz (fz c)=fz c
 | .v x=>by simp[fz]
 | .s o rows=>by simp only[fz];rw[JM rows]
 | .x=>by simp[fz]
 | .z=>by simp[fz]
 | .m _=>by simp[fz]
 | .it _ _=>by simp[fz]
def JM:∀a:List (List C),fzR (fzR a)=fzR a
 | []=>rfl
 | r::a=>by simp only[fzR];rw[pI r,JM a]
def pI:∀cs:List C,ef (ef cs)=ef cs
 | []=>rfl
 | c::cs=>by simp only[ef];rw[RV c,pI cs]
end
def ot(k:ah)(a:aA k=true)(e:k.Calls≠100000):zzB 484 false [.ptr (ah.enc .own k)] [.ptr (ah.enc .own (bY k))] .one [B (!refd k)]:=by
 have b:=bj a;have c:=(aD.1 a).2.2.2.2;have d:=ES k.a0 k.Calls (by have:=b.2;omega);refine fM 22 [] [(2,9,[11,12,13,14,15,16,17,18,19])] [(0,0)] Tryz.func484 rfl (λu q=>?_)
 repeat'(first|refine gP ?_|(conv=>whnf);first|refine CF (d) ⟨⟨rfl,eY _⟩,⟨rfl,X0 (λz=>[I z]) ω⟩,trivial⟩ ?_)
 refine CJ rfl ?_ ?_
 ·rfl
 exact wB
def oz(k:ah)(p m:Int)(a:aA k=true)(j:k.Calls≠100000)(d:(ac k.F.R p).j≠0)(l:m=1\/m=2):zzB 575 false [.ptr (ah.enc .own k),.val none [I p],.val none [I m]] [.ptr (ah.enc .own (jR k p m).1),.val none [I p],.val none [I m]] .one [B (jR k p m).2]:=by
 have n:=bj a;have b:=ot k a j;have g:=eM (bY k) p n.1.2;have c:=aH m 1 2;rw[O0 ω]at c;obtain⟨o,t,w,-⟩:=bS a d;have h:=ao (xs:=k.F.R.O) (i:=p.toNat) ω;have r:¬(ac (bY k).F.R p).j=0:=d;unfold jR;cases e:refd k<;>rw[e]at b
 ·rw[C9 (by simp),Ll]
  refine fM 31 [(484,[2])] [] [(0,0),(0,0),(0,0)] Tryz.func575 rfl (λu q=>?_)
  repeat'(first|refine gB ?_|(conv=>whnf);first|refine CK (b) (.inl rfl) ?_|refine CF (g) ⟨CS (bY k),⟨rfl,rfl⟩,trivial⟩ ?_|refine C8 (c) ?_|refine CN o (aa h) ?_|refine CP rfl rfl (aa h) rfl (I1 rfl) rfl ?_)
  refine CJ rfl ?_ ?_
  ·rfl
  exact wB
 rw[CC rfl];refine fM 31 [(484,[2])] [] [(0,0),(0,0),(0,0)] Tryz.func575 rfl (λu q=>?_)
 repeat'(first|refine gB ?_|(conv=>whnf);first|refine CK (b) (.inl rfl) ?_|refine CF (g) ⟨CS (bY k),⟨rfl,rfl⟩,trivial⟩ ?_|refine C8 (c) ?_)
 refine CJ rfl ?_ ?_
 ·rfl
 exact wB
def Rw.two{off k j d e b:Nat}{K:List C->Nat->Prop}{o f:dJ}{rows rows2:List (List C)}{r a:List C}(h1:c[off]? = some (.s o rows))(g:rows[i]? = some r)(h:r.length=k)(l:r[j]? = some (.s f rows2))(n:rows2[d]? = some a)(p:a.length=e)(q:K a b):Rw c off [(i,k,j),(d,e,b)] K:=
 Rw.mk (r:=a) (j:=b) (by simp[cj,h1,g,h,l,n,p]) q
def zo(k:ah)(a b c:Int)(h:aA k=true)(F:(ac k.F.R a).j≠0)(G:(ac k.F.R b).j≠0)(g:0<=c/\c<=15):zzB 576 false [.ptr (ah.enc .own k),.val none [I a],.val none [I b],.val none (aF .V [c])] [.ptr (ah.enc .own (ss k a b c)),.val none [I a],.val none [I b],.val none (aF .V [c])] .one [B true]:=by
 have w:=bj h;have H:=eM k a w.1.2;have J:=eM k b w.1.2;have y:=aH c 0 15;rw[O0 g]at y;obtain⟨K,O,L,C,P⟩:=bS h F;obtain⟨M,Q,D,E,R⟩:=bS h G;have N:=(aX.1 (aD.1 h).2.1).2.2.1;have S:=row16 h (f:=bL k a) (by unfold bL;omega);have T:=row16 h (f:=bL k b) (by unfold bL;omega);have d:k.F.W.U[(ac k.F.R a).e.toNat]? = some (nth k.F.W.U (bL k a)):=ao ω;have e:k.F.W.U[(ac k.F.R b).e.toNat]? = some (nth k.F.W.U (bL k b)):=ao ω;have l:=ao (xs:=nth k.F.W.U (bL k a)) (i:=c.toNat) ω;have o:=ao (xs:=nth k.F.W.U (bL k b)) (i:=c.toNat) ω;have p:=ao (xs:=k.F.R.O) (i:=a.toNat) ω;have r:=ao (xs:=k.F.R.O) (i:=b.toNat) ω;rw[L]at C d;rw[D]at E e;have t:[c][0]? = some c:=rfl;refine fM 90 [] [(13,28,[61,62,63,64,65,66,67,68,69,70,71,72,73,74,75,76,77,78,79,80,81,82,83,84,85,86,87,88])] [(0,0),(0,0),(0,0),(0,0)] Tryz.func576 rfl (λu q=>?_)
 repeat'(first|refine gB ?_|(conv=>whnf);first|refine CB ?_|refine CF (H) ⟨CS k,⟨rfl,rfl⟩,trivial⟩ ?_|refine CF (J) ⟨CS k,⟨rfl,rfl⟩,trivial⟩ ?_)
 (conv=>whnf)
 refine CG (ι:=Nat) (λn=>[(0,.H .box (ah.enc .own k)),(1,.H .one [I (a)]),(2,.H .one [I (b)]),(3,.H .one (aF .V [c])),(9,.H .one [I ((n:Nat):Int)])]) (λn=>n<=1) (λn=>1 - n) (0) ?_ (W0 _) λn U=>?_
 ·exact wB
 by_cases V:n<1
 ·obtain rfl:n=0:=ω
  repeat'(first|refine gE ?_|(conv=>whnf);first|refine CB ?_|refine CN (by decide) (aa t) ?_|refine C8 (y) ?_)
  ((conv=>whnf);refine CE 1 ω ω ?_;(exact wB))
 obtain rfl:n=1:=ω
 repeat'(first|refine gE ?_|(conv=>whnf);first|refine CB ?_|refine CN K (aa p) ?_|refine CN M (aa r) ?_|refine CH rfl (aa p) rfl ?_|refine CH rfl (aa r) rfl ?_)
 (conv=>whnf)
 refine CG (ι:=Nat) (λj=>[(0,.H .box (ah.enc .own (QR k a b c j))),(3,.H .one (aF .V [c])),(10,.H .one [I ((nth k.F.R.O a.toNat).e)]),(11,.H .one [I ((nth k.F.R.O b.toNat).e)]),(12,.H .one [I ((j:Nat):Int)])]) (λj=>j<=1) (λj=>1 - j) (0) ?_ (W0 _) λj W=>?_
 ·exact wB
 by_cases X:j<1
 ·obtain rfl:j=0:=ω
  repeat'(first|refine gE ?_|(conv=>whnf);first|refine CB ?_|refine CN (by decide) (aa t) ?_|refine CN C (aa d) ?_|refine CN E (aa e) ?_|refine CN g.1 (aa l) ?_|refine CN g.1 (aa o) ?_|refine CH rfl (aa e) rfl ?_|refine CH rfl (aa d) rfl ?_|refine Rw.two rfl (aa d) rfl rfl (aa l) rfl ?_|refine Pu.two rfl rfl (aa e) rfl rfl rfl (aa o) rfl (I3 _) rfl ?_)
  ((conv=>whnf);refine CE 1 ω ω ?_)
  rw[show QR k a b c 1=ss k a b c from rfl];unfold ss;rw[Fa,show bL k b=(nth k.F.R.O b.toNat).e.toNat by unfold bL;rw[D]];exact wB
 obtain rfl:j=1:=ω
 repeat'(first|refine gE ?_|(conv=>whnf);first|refine CB ?_)
 refine CJ rfl ?_ ?_
 ·rfl
 exact wB
def Hm(k:ah)(p o:Int)(a:aA k=true)(y:k.Calls≠100000)(g:(ac k.F.R p).j≠0)(h:(ac k.F.R o).j≠0)(C:p≠o):zzB 577 false [.ptr (ah.enc .own k),.val none [I p],.val none [I o]] [.ptr (ah.enc .own (vJ k p o).1),.val none [I p],.val none [I o]] .one [B (vJ k p o).2]:=by
 have b:=bj a;have c:=ot k a y;have j:=eM (bY k) p b.1.2;have l:=eM (bY k) o b.1.2;obtain⟨D,K,E,n,r⟩:=bS a g;obtain⟨F,L,M,N,O⟩:=bS a h;have G:=(aX.1 (aD.1 a).2.1).2.2.1;have d:=ao (xs:=k.F.R.O) (i:=p.toNat) ω;have t:=ao (xs:=k.F.R.O) (i:=o.toNat) ω;have H:¬(ac (bY k).F.R p).j=0:=g;have J:¬(ac (bY k).F.R o).j=0:=h;rw[E]at n r;have w:=rC (vI (bY k) p.toNat ⟨2,(nth k.F.R.O o.toNat).e⟩) (nth k.F.R.O p.toNat).e (Nf _ _ b.1.2) ⟨n,by show _<((k.F.W.U.length:Nat):Int);omega,r⟩;rw[NX]at w;unfold vJ;cases e:refd k<;>rw[e]at c
 ·rw[C9 (by simp)]
  refine fM 60 [(484,[2]),(486,[2,0])] [(4,274,[38,39,40,41,42,43,44,45,46,47,48,49,50,51,52,53,54,56,0,1,2,3,4,5,6,7,8,9,10,11,12,13,14,15,16,17,1000,1001,1002,1003,1004,1005,1006,18,19])] [(0,0),(0,0),(0,0)] Tryz.func577 rfl (λu q=>?_)
  repeat'(first|refine gB ?_|(conv=>whnf);first|refine CB ?_|refine CK (c) (.inl rfl) ?_|refine CF (j) ⟨CS (bY k),⟨rfl,rfl⟩,trivial⟩ ?_|refine CF (l) ⟨CS (bY k),⟨rfl,rfl⟩,trivial⟩ ?_|refine CN D (aa d) ?_|refine CN F (aa t) ?_|refine CH rfl (aa d) rfl ?_|refine CH rfl (aa t) rfl ?_|refine CP rfl rfl (aa d) rfl (I1 rfl) rfl ?_|refine CK (w) (.inl rfl) ?_)
  refine CJ rfl ?_ ?_
  ·rfl
  exact wB
 rw[CC rfl];refine fM 60 [(484,[2]),(486,[2,0])] [(4,274,[38,39,40,41,42,43,44,45,46,47,48,49,50,51,52,53,54,56,0,1,2,3,4,5,6,7,8,9,10,11,12,13,14,15,16,17,1000,1001,1002,1003,1004,1005,1006,18,19])] [(0,0),(0,0),(0,0)] Tryz.func577 rfl (λu q=>?_)
 repeat'(first|refine gB ?_|(conv=>whnf);first|refine CB ?_|refine CK (c) (.inl rfl) ?_|refine CF (j) ⟨CS (bY k),⟨rfl,rfl⟩,trivial⟩ ?_|refine CF (l) ⟨CS (bY k),⟨rfl,rfl⟩,trivial⟩ ?_)
 refine CJ rfl ?_ ?_
 ·rfl
 exact wB
def yX(m:aU)(a:Int)(d:aU.sml m)(c:0<=a/\a<512):zzA 590 false [.val (some 3) (aU.enc .V m),.val none [I a]] (.tup [some 2,none]) (bh.enc .own (ac m.R (a / 16))++[I (a % 16)]):=by
 have e:=cz m.R (a / 16) d.2;have b:a.tmod 16=a % 16:=eG c.1;refine fO 16 [] Tryz.func590 rfl ?_ (.inr ⟨trivial,trivial,trivial,trivial⟩)
 repeat'(first|refine gE ?_|(conv=>whnf);first|refine CB ?_|refine C8 (e) ?_|refine CM (kD c) ?_|refine CO (by decide) ?_|refine CR b ?_)
 rfl
def Hn(m:aU)(a v:Int)(o:dD m=true)(e:aU.sml m)(p:0<=a/\a<512)(q:0<=v/\v<=999)(r:(ac m.R (a / 16)).j≠0->0<=(ac m.R (a / 16)).e/\(ac m.R (a / 16)).e<m.W.U.length/\(nth m.W.U (ac m.R (a / 16)).e.toNat).length=16):zzA 588 false [.val (some 3) (aU.enc .V m),.val none [I a],.val none [I v]] (.tup [some 3,none]) (aU.enc .own (iL m a v).1++[I (iL m a v).2]):=by
 have c:=oK m e;rw[o]at c;have g:=sM m e;have h:=yX m a e p;have d:=aH v 0 999;rw[O0 q]at d;have b:=aU.enc_fr (iL m a v).1;unfold iL at b |-;by_cases j:(ac m.R (a / 16)).j=0
 ·rw[CC j]at b |-
  refine fO 47 [] Tryz.func588 rfl ?_ (.inr (aQ b ⟨trivial,trivial⟩))
  repeat'(first|refine gB ?_|(conv=>whnf);first|refine CB ?_|refine C8 (c) ?_|refine C8 (g) ?_|refine C8 (h) ?_|refine C8 (d) ?_)
  rfl
 rw[C9 j]at b |-;by_cases l:(ac m.R (a / 16)).j=1
 ·rw[CC l]at b |-
  refine fO 47 [] Tryz.func588 rfl ?_ (.inr (aQ b ⟨trivial,trivial⟩))
  repeat'(first|refine gB ?_|(conv=>whnf);first|refine CB ?_|refine C8 (c) ?_|refine C8 (g) ?_|refine C8 (h) ?_|refine C8 (d) ?_)
  rfl
 rw[C9 l]at b |-;obtain⟨t,u,w⟩:=r j;have k:=ao (xs:=m.W.U) (i:=(ac m.R (a / 16)).e.toNat) ω;have n:=ao (xs:=nth m.W.U (ac m.R (a / 16)).e.toNat) (i:=(a % 16).toNat) ω;simp only at b |-;rw[HD]at b |-;refine fO 47 [] Tryz.func588 rfl ?_ (.inr (aQ b ⟨trivial,trivial⟩))
 repeat'(first|refine gB ?_|(conv=>whnf);first|refine CB ?_|refine C8 (c) ?_|refine C8 (g) ?_|refine C8 (h) ?_|refine C8 (d) ?_|refine CN t (aa k) ?_|refine CN ω (aa n) ?_|refine CH rfl (aa k) rfl ?_|refine Pu.two rfl rfl (aa k) rfl rfl rfl (aa n) rfl (I3 _) rfl ?_)
 rfl
def mI{j:cL} : jmay k j=true↔(aA k=true/\k.Calls≠100000)/\jN j=true/\(ac k.F.R j.Y.a5).j≠0/\(ac k.F.R j.Y.a4).j≠0/\(ac k.F.R j.Y.a5).e≠(ac k.F.R j.Y.a4).e:=by
 unfold jmay;simp only[I0,C0]
def mW{p:cC}(h:eR p=true):p.U.length<=16:=by
 unfold eR at h;simp only[I0]at h;have a:∀i,i<p.U.length->(i:Int)<=nth p.U i:=λi=>by
  induction i with
  | zero=>
   intro a;have:=eZ h.1 a;unfold mw at this;rw[C0]at this;exact this.1
  | succ i b=>
   intro a;have c:=b ω;have:=eZ h.1 a;unfold mw at this;rw[C0]at this;have d:=this.2.2.resolve_left ω;rw[Nat.add_sub_cancel]at d;omega
 by_cases e:p.U.length<=16
 ·exact e
 exfalso;have c:=a 16 ω;have:=eZ h.1 (show 16<p.U.length by omega);unfold mw at this;rw[C0]at this;omega
def K4{j:cL}(h:jN j=true):cL.sml j:=by
 have:=mW (d4.1 h).1;show j.Y.U.length<=1048576;omega
def tn(h:aA k=true):dD k.F=true:=by
 unfold aA at h;simp only[I0]at h;exact h.1.2
def Bx(k:ah)(j:cL)(p:jmay k j=true)(g:j.b2=3):zzB 578 false [.ptr (ah.enc .own k),.ptr (yF j)] [.ptr (ah.enc .own (jstep k j).1),.ptr (yF (jstep k j).2)] (.tup []) []:=by
 obtain⟨⟨a,r⟩,t,c,d,w⟩:=mI.1 p;obtain⟨h,H,J,K,L⟩:=d4.1 t;have y:=bj a;obtain⟨M,N,O,B,P⟩:=bS a c;have l:=(bx.1 (aD.1 a).2.2.1).2.2;have C:=mW h;have D:=(aX.1 (aD.1 a).2.1).2.2.1;unfold jstep;rw[C9 ω,C9 ω,C9 ω,CC g];by_cases n:0<j.b
 ·rw[CC n]
  have o:=fZ h (i:=(j.b - 1).toNat) ω;have E:=ao (xs:=j.Y.U) (i:=(j.b - 1).toNat) ω;have F:0<=j.Y.a5*16+nth j.Y.U (j.b - 1).toNat/\j.Y.a5*16+nth j.Y.U (j.b - 1).toNat<512:=ω
  have G:(j.Y.a5*16+nth j.Y.U (j.b - 1).toNat) / 16=j.Y.a5:=ω
  have b:=Hn k.F (j.Y.a5*16+nth j.Y.U (j.b - 1).toNat) 0 (tn a) y.1 F ω (λ_=>by rw[G];exact⟨B,ω,row16 a (f:=bL k j.Y.a5) (by unfold bL;omega)⟩);generalize (iL k.F (j.Y.a5*16+nth j.Y.U (j.b - 1).toNat) 0).1=m at b |-;generalize (iL k.F (j.Y.a5*16+nth j.Y.U (j.b - 1).toNat) 0).2=e at b;refine fM 59 [(575,[2,0,0])] [(2,283,[20,21,22,23,24,25,26,27,28,29,30,31,32,33,34,35,36,37,38,39,40,41,42,19,43,44,4,0,1,2,3,4,5,6,7,8,9,10,11,12,13,14,15,16,17,18,19,20,21,22,23,24,25,26,27,1025,28])] [(0,0),(1,0)] Tryz.func578 rfl (λu q=>?_) (.inr trivial)
  repeat'(first|refine gE ?_|(conv=>whnf);first|refine CB ?_|refine CF (b) ⟨⟨rfl,aU.enc_fz k.F⟩,⟨rfl,rfl⟩,⟨rfl,rfl⟩,trivial⟩ ?_|refine CN ω (aa E) ?_|refine CB ?_)
  refine CJ rfl rfl ?_;exact wC
 rw[C9 n];have b:=oz k j.Y.a4 2 a r d (.inr rfl);cases e:(jR k j.Y.a4 2).2<;>rw[e]at b
 ·refine fM 59 [(575,[2,0,0])] [(2,283,[20,21,22,23,24,25,26,27,28,29,30,31,32,33,34,35,36,37,38,39,40,41,42,19,43,44,4,0,1,2,3,4,5,6,7,8,9,10,11,12,13,14,15,16,17,18,19,20,21,22,23,24,25,26,27,1025,28])] [(0,0),(1,0)] Tryz.func578 rfl (λu q=>?_) (.inr trivial)
  repeat'(first|refine gE ?_|(conv=>whnf);first|refine CB ?_|refine CK (b) (.inl rfl) ?_)
  refine CJ rfl rfl ?_;rw[<-g];exact wC
 refine fM 59 [(575,[2,0,0])] [(2,283,[20,21,22,23,24,25,26,27,28,29,30,31,32,33,34,35,36,37,38,39,40,41,42,19,43,44,4,0,1,2,3,4,5,6,7,8,9,10,11,12,13,14,15,16,17,18,19,20,21,22,23,24,25,26,27,1025,28])] [(0,0),(1,0)] Tryz.func578 rfl (λu q=>?_) (.inr trivial)
 repeat'(first|refine gE ?_|(conv=>whnf);first|refine CB ?_|refine CK (b) (.inl rfl) ?_)
 refine CJ rfl rfl ?_;exact wC
def D7(k:ah)(j:cL)(g:jmay k j=true):zzB 529 false [.ptr (ah.enc .own k),.ptr (yF j)] [.ptr (ah.enc .own (jstep k j).1),.ptr (yF (jstep k j).2)] (.tup []) []:=by
 obtain⟨⟨h,p⟩,B,c,b,l⟩:=mI.1 g;obtain⟨r,F,G,H,J⟩:=d4.1 B;have n:j.Y.a4≠j.Y.a5:=λe=>l (by rw[e])
 have C:=mW r;by_cases d:j.b2=0
 ·have a:=oz k j.Y.a4 1 h p b (.inl rfl)
  unfold jstep;rw[CC d];cases e:(jR k j.Y.a4 1).2<;>rw[e]at a
  ·refine fM 80 [(575,[2,0,0]),(576,[2,0,0,0]),(577,[2,0,0]),(578,[2,2])] [(7,7,[27,28,29,30,31,32,33]),(9,14,[38,39,40,41,42,43,44,45,46,47,48,49,50,51])] [(0,0),(1,0)] Tryz.func529 rfl (λu q=>?_) (.inr trivial)
   repeat'(first|refine gB ?_|(conv=>whnf);first|refine CB ?_|refine CK (a) (.inl rfl) ?_)
   refine CJ rfl rfl ?_;exact wC
  refine fM 80 [(575,[2,0,0]),(576,[2,0,0,0]),(577,[2,0,0]),(578,[2,2])] [(7,7,[27,28,29,30,31,32,33]),(9,14,[38,39,40,41,42,43,44,45,46,47,48,49,50,51])] [(0,0),(1,0)] Tryz.func529 rfl (λu q=>?_) (.inr trivial)
  repeat'(first|refine gB ?_|(conv=>whnf);first|refine CB ?_|refine CK (a) (.inl rfl) ?_)
  refine CJ rfl rfl ?_;exact wC
 by_cases o:j.b2=1
 ·unfold jstep
  rw[C9 d,CC o];by_cases t:j.b=j.Y.U.length
  ·rw[CC t]
   refine fM 80 [(575,[2,0,0]),(576,[2,0,0,0]),(577,[2,0,0]),(578,[2,2])] [(7,7,[27,28,29,30,31,32,33]),(9,14,[38,39,40,41,42,43,44,45,46,47,48,49,50,51])] [(0,0),(1,0)] Tryz.func529 rfl (λu q=>?_) (.inr trivial)
   repeat'(first|refine gB ?_|(conv=>whnf);first|refine CB ?_|refine CB ?_)
   refine CJ rfl rfl ?_;exact wC
  rw[C9 t];have D:=ao (xs:=j.Y.U) (i:=j.b.toNat) ω;have a:=zo k j.Y.a4 j.Y.a5 (nth j.Y.U j.b.toNat) h b c (fZ r ω);have E:=(mI.1 g).2.1;refine fM 80 [(575,[2,0,0]),(576,[2,0,0,0]),(577,[2,0,0]),(578,[2,2])] [(7,7,[27,28,29,30,31,32,33]),(9,14,[38,39,40,41,42,43,44,45,46,47,48,49,50,51])] [(0,0),(1,0)] Tryz.func529 rfl (λu q=>?_) (.inr trivial)
  repeat'(first|refine gB ?_|(conv=>whnf);first|refine CB ?_|refine CK a (.inr ⟨rfl,ah.enc_fr _,trivial⟩) ?_|refine CN ω (aa D) ?_|refine CB ?_)
  refine CJ rfl rfl ?_;exact wC
 by_cases w:j.b2=2
 ·have a:=Hm k j.Y.a4 j.Y.a5 h p b c n
  unfold jstep;rw[C9 d,C9 o,CC w];cases e:(vJ k j.Y.a4 j.Y.a5).2<;>rw[e]at a
  ·refine fM 80 [(575,[2,0,0]),(576,[2,0,0,0]),(577,[2,0,0]),(578,[2,2])] [(7,7,[27,28,29,30,31,32,33]),(9,14,[38,39,40,41,42,43,44,45,46,47,48,49,50,51])] [(0,0),(1,0)] Tryz.func529 rfl (λu q=>?_) (.inr trivial)
   repeat'(first|refine gB ?_|(conv=>whnf);first|refine CB ?_|refine CK (a) (.inl rfl) ?_)
   refine CJ rfl rfl ?_;exact wC
  refine fM 80 [(575,[2,0,0]),(576,[2,0,0,0]),(577,[2,0,0]),(578,[2,2])] [(7,7,[27,28,29,30,31,32,33]),(9,14,[38,39,40,41,42,43,44,45,46,47,48,49,50,51])] [(0,0),(1,0)] Tryz.func529 rfl (λu q=>?_) (.inr trivial)
  repeat'(first|refine gB ?_|(conv=>whnf);first|refine CB ?_|refine CK (a) (.inl rfl) ?_)
  refine CJ rfl rfl ?_;exact wC
 by_cases y:j.b2=3
 ·have a:=Bx k j g y
  refine fM 80 [(575,[2,0,0]),(576,[2,0,0,0]),(577,[2,0,0]),(578,[2,2])] [(7,7,[27,28,29,30,31,32,33]),(9,14,[38,39,40,41,42,43,44,45,46,47,48,49,50,51])] [(0,0),(1,0)] Tryz.func529 rfl (λu q=>?_) (.inr trivial)
  repeat'(first|refine gB ?_|(conv=>whnf);first|refine CB ?_|refine CK (a) (.inl rfl) ?_)
  refine CJ rfl rfl ?_;exact wC
 unfold jstep;rw[C9 d,C9 o,C9 w,C9 y];refine fM 80 [(575,[2,0,0]),(576,[2,0,0,0]),(577,[2,0,0]),(578,[2,2])] [(7,7,[27,28,29,30,31,32,33]),(9,14,[38,39,40,41,42,43,44,45,46,47,48,49,50,51])] [(0,0),(1,0)] Tryz.func529 rfl (λu q=>?_) (.inr trivial)
 repeat'(first|refine gB ?_|(conv=>whnf);first|refine CB ?_)
 refine CJ rfl rfl ?_;exact wC
def Ew(k:ah)(j:cL)(e:aA k=true)(i:jN j=true):zzA 528 false [.val (some 5) (ah.enc .V k),.val (some 5) (cL.enc .V j)] .one [B (jmay k j)]:=by
 have c:=bj e;have b:ef (ah.enc .V k)=ah.enc .V k:=by rw[<-CS k,pI]
 have r:=(aD.1 e).2.2.2.2;have a:=lP k c;rw[e]at a;have d:=xC j (K4 i);rw[i]at d;have l:=eM k j.Y.a5 c.1.2;have n:=eM k j.Y.a4 c.1.2;have t:=cz k.F.R j.Y.a5 c.1.2;have u:=cz k.F.R j.Y.a4 c.1.2;by_cases o:k.Calls=100000
 ·rw[U0 ω]at a
  rw[show jmay k j=false by rw[<-U5,mI];exact λh=>h.1.2 o];refine fO 44 [(3,16,[27,28,29,30,31,32,33,34,35,36,37,38,39,40,41,42])] Tryz.func528 rfl ?_
  repeat'(first|refine gP ?_|(conv=>whnf);first|refine CB ?_|refine C8 (a) ?_|refine C8 (d) ?_)
  rfl
 rw[O0 ω]at a;by_cases p:(ac k.F.R j.Y.a5).j=0
 ·rw[show jmay k j=false by rw[<-U5,mI];exact λh=>h.2.2.1 p]
  refine fO 44 [(3,16,[27,28,29,30,31,32,33,34,35,36,37,38,39,40,41,42])] Tryz.func528 rfl ?_
  repeat'(first|refine gB ?_|(conv=>whnf);first|refine CB ?_|refine C8 (a) ?_|refine C8 (d) ?_|refine CF (l) ⟨b,⟨rfl,rfl⟩,trivial⟩ ?_|refine CF (n) ⟨b,⟨rfl,rfl⟩,trivial⟩ ?_)
  rfl
 by_cases q:(ac k.F.R j.Y.a4).j=0
 ·rw[show jmay k j=false by rw[<-U5,mI];exact λh=>h.2.2.2.1 q]
  refine fO 44 [(3,16,[27,28,29,30,31,32,33,34,35,36,37,38,39,40,41,42])] Tryz.func528 rfl ?_
  repeat'(first|refine gB ?_|(conv=>whnf);first|refine CB ?_|refine C8 (a) ?_|refine C8 (d) ?_|refine CF (l) ⟨b,⟨rfl,rfl⟩,trivial⟩ ?_|refine CF (n) ⟨b,⟨rfl,rfl⟩,trivial⟩ ?_)
  rfl
 refine fO 44 [(3,16,[27,28,29,30,31,32,33,34,35,36,37,38,39,40,41,42])] Tryz.func528 rfl ?_
 repeat'(first|refine gB ?_|(conv=>whnf);first|refine CB ?_|refine C8 (a) ?_|refine C8 (d) ?_|refine CF (l) ⟨b,⟨rfl,rfl⟩,trivial⟩ ?_|refine CF (n) ⟨b,⟨rfl,rfl⟩,trivial⟩ ?_|refine C8 (t) ?_|refine C8 (u) ?_|refine CB ?_)
 exact X0 (λz=>[B z]) (by
   unfold jmay;rw[e,i,O0 o];by_cases g:(ac k.F.R j.Y.a5).e=(ac k.F.R j.Y.a4).e
   · rw[U0 (λh=>h.2.2 g)];simp[g]
   rw[O0 ⟨p,q,g⟩];simp[g])
def Bv(j:cL):zzA 530 false [.val (some 5) (cL.enc .V j)] .one [B (over j)]:=by
 by_cases a:j.b2=4
 ·rw[show over j=true from O0 (.inl a)]
  refine fO 11 [] Tryz.func530 rfl ?_
  repeat'(first|refine gB ?_|(conv=>whnf);first|refine CB ?_)
  rfl
 rw[show over j=decide (j.b2=5) from decide_eq_decide.2 ω];refine fO 11 [] Tryz.func530 rfl ?_
 repeat'(first|refine gB ?_|(conv=>whnf);first|refine CB ?_)
 exact X0 (λz=>[B z]) (by rw[Y4];simp)
def Ji(x:ab):List C:=(bA x).set 21 .z
def Gp{x:ab}(h:x.Z.Y.U=[]):L9 (Ji x) (bA x):=by
 unfold Ji bA;simp only[List.set,h,List.map_nil]
 repeat'(first|exact trivial|exact dL _|refine CL ?_ ?_|rfl)
def B7(h:ab)(j:aT h [])(k:h.u=true):zzB 431 false [.ptr (bA h)] [.ptr (bA (mStep h))] .one [B (Eo h)]:=by
 obtain⟨l,-,-⟩:=j.job k;have b:=Ew h.G h.Z j.ker l;have a:=Bv (gR h.G h.Z).2;unfold Eo mStep;cases e:jmay h.G h.Z with
 | false=>
  rw[e]at b;have d:gR h.G h.Z=(h.G,h.Z):=by unfold gR;rw[e];rfl
  rw[d]at a |-;simp only at a |-;cases g:over h.Z<;>rw[g]at a
  ·refine fM 39 [(529,[3,5,5])] [(1,8,[4,5,6,7,8,9,10,11]),(2,6,[13,14,15,16,17,18])] [(0,0)] Tryz.func431 rfl (λu q=>?_)
   repeat'(first|refine gP ?_|(conv=>whnf);first|refine CF (b) ⟨⟨rfl,CS h.G⟩,⟨rfl,rfl⟩,trivial⟩ ?_|refine C8 (a) ?_|refine CB ?_)
   refine CJ rfl ?_ ?_
   ·exact X0 (λz=>[B z]) (by rw[Y4];simp)
   exact wC
  refine aR.wk (c:=Ji _) ?_ (Gp rfl);refine fM 39 [(529,[3,5,5])] [(1,8,[4,5,6,7,8,9,10,11]),(2,6,[13,14,15,16,17,18])] [(0,0)] Tryz.func431 rfl (λu q=>?_)
  repeat'(first|refine gP ?_|(conv=>whnf);first|refine CF (b) ⟨⟨rfl,CS h.G⟩,⟨rfl,rfl⟩,trivial⟩ ?_|refine C8 (a) ?_|refine CB ?_)
  refine CJ rfl ?_ ?_
  ·exact X0 (λz=>[B z]) (by rw[Y4];simp)
  exact wC
 | true=>
  rw[e]at b;have d:gR h.G h.Z=jstep h.G h.Z:=by unfold gR;rw[e];rfl
  have i:=D7 h.G h.Z e;rw[d]at a |-;generalize jstep h.G h.Z=r at i a |-;cases g:over r.2<;>rw[g]at a
  ·refine fM 39 [(529,[3,5,5])] [(1,8,[4,5,6,7,8,9,10,11]),(2,6,[13,14,15,16,17,18])] [(0,0)] Tryz.func431 rfl (λu q=>?_)
   repeat'(first|refine gP ?_|(conv=>whnf);first|refine CF (b) ⟨⟨rfl,CS h.G⟩,⟨rfl,rfl⟩,trivial⟩ ?_|refine C8 (a) ?_|refine CK (i) (.inl rfl) ?_|refine CB ?_)
   refine CJ rfl ?_ ?_
   ·exact X0 (λz=>[B z]) (by rw[Y4];simp)
   exact wC
  refine aR.wk (c:=Ji _) ?_ (Gp rfl);refine fM 39 [(529,[3,5,5])] [(1,8,[4,5,6,7,8,9,10,11]),(2,6,[13,14,15,16,17,18])] [(0,0)] Tryz.func431 rfl (λu q=>?_)
  repeat'(first|refine gP ?_|(conv=>whnf);first|refine CF (b) ⟨⟨rfl,CS h.G⟩,⟨rfl,rfl⟩,trivial⟩ ?_|refine C8 (a) ?_|refine CK (i) (.inl rfl) ?_|refine CB ?_)
  refine CJ rfl ?_ ?_
  ·exact X0 (λz=>[B z]) (by rw[Y4];simp)
  exact wC
def Jj{k:Int} : ∀{l s s2 c:List Int}(n:Nat),(∀x∈s2,x∈s)->rA k s l=some c->∃d,rA k s2 (l.take n)=some d/\∀x∈d,x∈c
 | [],s,s2,c,n,h,e=>by
  simp only[rA,Z0,List.take_nil]at e |-;subst e;exact⟨s2,rfl,h⟩
 | a::l,s,s2,c,0,h,e=>⟨s2,rfl,λx b=>(p9 (λ_ y=>y) e).1 x (h x b)⟩
 | a::l,s,s2,c,n+1,h,e=>by
  simp only[List.take_succ_cons,rA]at e |-;split at e
  ·rename_i g
   rw[CC (show good k s2 a from⟨g.1,g.2.1,g.2.2.1,λx=>g.2.2.2 (h a x)⟩)];exact Jj (l:=l) (s:=s++[a]) (s2:=s2++[a]) n (λx b=>by
     rcases C3.1 b with b|b
     · exact C3.2 (.inl (h x b))
     exact C3.2 (.inr b)) e
  cases e
def EP:∀{a:List (List Int)}{k:Nat}{s s2:List Int}(i n:Nat),(∀x∈s2,x∈s)->(gy k s a).isSome=true->(gy k s2 (a.set i ((nth a i).take n))).isSome=true
 | [],_,_,_,_,_,_,_=>rfl
 | l::a,k,s,s2,i,n,h,e=>by
  simp only[gy,f6]at e;split at e
  ·rename_i g
   cases b:rA k s l with
   | none=>rw[b]at e;cases e
   | some j=>
    rw[b]at e;cases i with
    | zero=>
     obtain⟨c,d,f⟩:=Jj n h b;simp only[List.set_cons_zero,gy,f6];rw[CC ⟨by have:=g.1;simp only[nth,List.getD_cons_zero,V1];omega,g.2⟩];show((rA (k:Nat) s2 (l.take n)).bind λj=>gy (k+1) j a).isSome=true;rw[d];exact uo f e
    | succ i=>
     obtain⟨o,c,d,f⟩:=p9 h b;simp only[List.set_cons_succ,gy,f6];rw[CC g,d];exact EP i n f e
  cases e
def PJ{c:aB}(h:bv c=true)(k:Nat):bv (sN c k)=true:=by
 unfold bv at h |-;simp only[I0,C0]at h |-;exact⟨by simp only[sN,U1];exact h.1,EP k _ (λ_ h=>h) h.2⟩
def pp(b:Int):Nat->List Int
 | 0=>[]
 | j+1=>if aW b (j:Nat)=true then pp b j else pp b j++[((j:Nat):Int)]
def uA{b:Int} : ∀{n:Nat}{z:Int},z∈pp b n->0<=z/\z<n/\aW b z=false
 | 0,_,h=>by cases h
 | n+1,z,h=>by
  unfold pp at h;split at h
  ·have:=uA h;exact⟨this.1,ω,this.2.2⟩
  rename_i e;rcases C3.1 h with h|h
  ·have:=uA h;exact⟨this.1,ω,this.2.2⟩
  rw[O1.1 h];exact⟨ω,ω,by simpa using e⟩
def u7(b:Int):∀n,(pp b n).length<=n
 | 0=>I3 _
 | n+1=>by have:=u7 b n;unfold pp;split<;>simp<;>omega
def qU(k b:Int):List Int:=if Mr k b=true then pp b (slots k).toNat else []
def nD(h:ab)(i:Nat):List Int:=qU (nth h.K i).d (ig h i)
def wT{k b z:Int}(h:z∈qU k b):0<=z/\z<slots k/\aW b z=false:=by
 unfold qU at h;split at h
 ·have:=uA h;exact⟨this.1,ω,this.2.2⟩
 cases h
def GH(k b:Int):(qU k b).length<=16:=by
 unfold qU;split
 ·rename_i h
  unfold Mr at h;rw[C0]at h;have:=(gI (k:=k) ⟨h.1,h.2.1⟩).2.2.1;have:=u7 b (slots k).toNat;omega
 exact W0 _
def q9(h:ab)(i:Nat):Int:=nth (nD h i) (Ph h.c1 ((nD h i).length:Nat)).toNat
def slotT(h:ab)(i:Nat):ab:={h with c1:=JH h.c1,K:=h.K.set i (r6 (nth h.K i) (q9 h i))}
def uT(h:ab)(i:Nat):Int:=16*(nth h.K i).Q+q9 h i*csz (nth h.K i).d
def A2(a:0<(nD h i).length):q9 h i∈nD h i:=by
 have:=wx h.c1 (n:=((nD h i).length:Nat)) ω;exact am ω
def aT.slotT{h:ab}{E:List Int}{i:Nat}(a:aT h E)(b:i<h.K.length)(e:0<(nD h i).length):aT (slotT h i) (uT h i::E)/\jF (slotT h i).K (uT h i) (nth h.K i).d:=by
 obtain⟨c,d,f⟩:=wT (A2 e);exact⟨a.take b ⟨c,d⟩ f (HC _),(jF.setS a.L b ⟨c,d⟩ _ _).2 (.inr ⟨rfl,.inr rfl⟩)⟩
def tg(h:ab)(c:Int)(i:Nat):Bool:=decide ((nth h.K i).d=c)&&(!fg h (nth h.K i).Q&&decide (0<(nD h i).length))
def tt(h:ab)(c:Int):Option Nat:=(List.range h.K.length).find? (tg h c)
def rr(h:ab)(c:Int):ab:=addS h (newK h.G (au h.q 1).2.1).1 (au h.q 1).1 (au h.q 1).2.1 c
def qL(h:ab):Nat:=kM (H5 (au h.q 1).2.1) h.K
def lR(h:ab)(i:Nat):ab × Int:=if(nD h i).length=0 then(h,-1) else(slotT h i,uT h i)
def smallA(h:ab)(t c:Nat):ab × Int:=
 if 0<(nth (nth h.S t).a c).length then({h with S:=h.S.set t (sN (nth h.S t) c)},nth (nth (nth h.S t).a c) ((nth (nth h.S t).a c).length - 1))
 else match tt h c with
 | some i=>(slotT h i,uT h i)
 | none=>if(au h.q 1).2.2=false then(h,-1)
  else if(newK h.G (au h.q 1).2.1).2=false then({h with G:=(newK h.G (au h.q 1).2.1).1},-1)
  else lR (rr h c) (qL h)
def Dk[Inhabited α](p:α->Bool)(xs:List α)(y:α):kM p xs<(jt p xs y).length/\nth (jt p xs y) (kM p xs)=y:=by
 have b:=PH p xs;have a:(xs.take (kM p xs)).length=kM p xs:=by rw[V1];omega
 refine⟨by rw[(kT p xs y).length_eq,List.length_cons];omega,bg ?_⟩;unfold jt;rw[W4 ω,a,Nat.sub_self]
 rfl
def aT.tEq{h:ab}{E:List Int}(a:aT h E){k:ah}(c:aA k=true)(b:tEq (tbl h) k.F.R):aT {h with G:=k} E/\JK h {h with G:=k}:=
 ⟨a.step (j:=h.Z) (m:=h.u) c b.1 (a.pg.tEq b) a.job a.noj,⟨rfl,rfl,λs d _=>⟨s,d,rfl,λ_ z=>z⟩,λq e=>.inl ⟨(b.2 q).1.1 e,(b.2 q).2⟩⟩⟩
structure Tf(h:ab)(c:Int)(r:ab × Int):Prop where
 no:r.2<0->aT r.1 []
 yes:0<=r.2->aT r.1 [r.2]/\jF r.1.K r.2 c
 jk:JK h r.1
 nx:r.1.b=h.b
 cl:r.1.S.length=h.S.length
def jF.nn(b:aT h E){c:Int}(d:jF h.K a c):0<=a:=(jF.bd b d).1
def Tf.slot{c:Int}(g:aT h' [])(j:i<h'.K.length)(k:0<(nD h' i).length)(l:(nth h'.K i).d=c)(n:JK h h')(a:fg h' (nth h'.K i).Q=false)(h1:h'.b=h.b)(o:h'.S.length=h.S.length):Tf h c (slotT h' i,uT h' i):=by
 obtain⟨d,f⟩:=g.slotT j k;have b:=jF.nn d f;exact⟨λe=>absurd b (by simp only at e;omega),λ_=>⟨d,by rw[<-l];exact f⟩,n.trans (JK.take a),h1,o⟩
def ux{c:Nat}(a:aT h [])(q:t<h.S.length)(P:c<=3)(B:h.G.Calls<=90000):Tf h c (smallA h t c):=by
 have f:=a.cach _ (am q);have C:=po f;unfold smallA;split
 ·rename_i D
  obtain⟨d,b⟩:=a.pop q ω D (PJ f c);have l:=jF.nn a b;exact⟨λe=>absurd l (by simp only at e;omega),λ_=>⟨d,b⟩,JK.eq rfl rfl rfl rfl,rfl,U1 ..⟩
 split
 ·rename_i i r
  have g:=List.find?_some r;have E:=List.mem_range.1 (List.mem_of_find?_eq_some r);unfold tg at g;simp only[I0,C0,Bool.not_eq_true']at g;exact Tf.slot a E g.2.2 g.1 (JK.refl h) g.2.1 rfl rfl
 split
 ·exact⟨λ_=>a,λe=>absurd e (by show ¬(0:Int)<=-1;decide),JK.refl h,rfl,rfl⟩
 rename_i F;have j:(au h.q 1).2.2=true:=by simpa using F
 obtain⟨G,H,J,u⟩:=jA a (v5 1) j;have s:=vA.of (p:=(au h.q 1).2.1) a.ker ω ⟨G,by have:(au h.q 1).2.1+1<=(h.G.F.R.O.length:Nat):=H;omega⟩ (J _ ω ω);split
 ·rename_i n
  rw[s.no n];obtain⟨d,b⟩:=a.tEq (mK a.ker ω) (tEq.refl _);exact⟨λ_=>d,λe=>absurd e (by show ¬(0:Int)<=-1;decide),b,rfl,rfl⟩
 rename_i n;have o:(newK h.G (au h.q 1).2.1).2=true:=by simpa using n
 have w:vA h.G (au h.q 1).2.1 ((newK h.G (au h.q 1).2.1).1,true):=by rw[<-o];exact s
 have d:=a.addS (c:=c) ⟨ω,ω⟩ j w;have b:JK h (rr h c):=JK.addS w;obtain⟨K,A⟩:=Dk (H5 (au h.q 1).2.1) h.K ⟨(au h.q 1).2.1,c,0⟩;unfold lR;split
 ·exact⟨λ_=>d,λe=>absurd e (by show ¬(0:Int)<=-1;decide),b,rfl,rfl⟩
 refine Tf.slot (h':=rr h c) (i:=qL h) d K ω (by show(nth (jt (H5 (au h.q 1).2.1) h.K ⟨(au h.q 1).2.1,c,0⟩) (qL h)).d=_;unfold qL;rw[A]) b ?_ rfl rfl;show fg (rr h c) (nth (jt (H5 (au h.q 1).2.1) h.K ⟨(au h.q 1).2.1,c,0⟩) (qL h)).Q=false;unfold qL;rw[A,b.pg];rw[<-U5];intro k;unfold fg at k;simp only[I0,O6,C0]at k;obtain⟨-,⟨y,L,M⟩,⟨z,N,O⟩⟩:=a.job k.1;rcases k.2 with e|e
 ·exact u _ (v5 _) ω (by rw[e,<-M];exact d7 L)
 exact u _ (v5 _) ω (by rw[e,<-O];exact d7 N)
def gG(size:Int):Nat:=((size+15) / 16).toNat
def dO(h:ab)(size:Int):ah × Nat:=newsK h.G (au h.q (gG size:Nat)).2.1 (gG size)
def largeA(h:ab)(t size:Int):ab × Int × Int:=
 if(au h.q (gG size:Nat)).2.2=false then(h,-1,4)
 else if(dO h size).2=gG size then(addL h (dO h size).1 (au h.q (gG size:Nat)).1 (au h.q (gG size:Nat)).2.1 (gG size:Nat) size t,16*(au h.q (gG size:Nat)).2.1,0)
 else({h with G:=unmN (dO h size).1 (au h.q (gG size:Nat)).2.1 (dO h size).2},-1,4)
def um(xs:List aY):Nat->Int
 | 0=>0
 | i+1=>um xs i+(nth xs i).o
def tP(h:ab):Int:=um h.M h.M.length
def allocH(h:ab)(t size:Int):ab × Int × Int:=
 if 1000000<=h.b\/90000<h.G.Calls then(h,-1,5)
 else if ¬(0<=t/\t<=h.S.length - 1) then(h,-1,1)
 else if ¬(1<=size/\size<=1000) then(h,-1,2)
 else if h.c4<tP h+size then(h,-1,3)
 else if 0<=aG size then(if(smallA h t.toNat (aG size).toNat).2<0 then((smallA h t.toNat (aG size).toNat).1,-1,4) else(addO (smallA h t.toNat (aG size).toNat).1 (smallA h t.toNat (aG size).toNat).2 size t,(smallA h t.toNat (aG size).toNat).2,0))
 else largeA h t size
variable{size:Int}
def AA{t:Int}(a:aT h [])(g:9<=size/\size<=1000)(i:h.b<1000000)(j:h.G.Calls<=90000)(k:0<=t/\t<=h.S.length - 1):aT (largeA h t size).1 []/\JK h (largeA h t size).1:=by
 have l:(gG size:Int)=(size+15) / 16:=by unfold gG;omega
 unfold largeA;split
 ·exact⟨a,JK.refl h⟩
 rename_i o;have b:(au h.q (gG size:Nat)).2.2=true:=by simpa using o
 obtain⟨c,d,e,w⟩:=jA a (show(1:Int)<=(gG size:Nat) by omega) b;have s:=mc.of (p:=(au h.q (gG size:Nat)).2.1) (n:=gG size) a.ker ω ⟨c,d⟩ e (gG size) (I3 _);split
 ·rename_i q
  have f:mc h.G (au h.q (gG size:Nat)).2.1 (gG size) ((dO h size).1,gG size):=by
   have:((dO h size).1,gG size)=dO h size:=by rw[<-q]
   rw[this];exact s
  exact⟨a.addL g l b f i k,JK.addL f⟩
 obtain⟨r,u⟩:=s.undo a.ker ⟨c,d⟩ e;exact a.tEq r u
def AN{t:Int}(a:aT h []):aT (allocH h t size).1 []/\JK h (allocH h t size).1:=by
 unfold allocH;split
 ·exact⟨a,JK.refl h⟩
 rename_i d;rw[not_or]at d;split
 ·exact⟨a,JK.refl h⟩
 rename_i n;split
 ·exact⟨a,JK.refl h⟩
 rename_i o;split
 ·exact⟨a,JK.refl h⟩
 split
 ·rename_i b
  have f:aG size<=3:=by unfold aG;repeat' split<;>omega
  have s:=ux (t:=t.toNat) (c:=(aG size).toNat) a ω ω ω;generalize smallA h t.toNat (aG size).toNat=r at s;split
  ·rename_i e;exact⟨s.no e,s.jk⟩
  rename_i e;obtain⟨g,i⟩:=s.yes ω;refine⟨g.addO (.inl ?_) (by rw[s.nx];omega) (by rw[s.cl];omega),s.jk.trans (JK.eq rfl rfl rfl rfl)⟩;obtain⟨z,j,k,p⟩:=i;exact⟨z,j,k,by show z.d=aG size;omega⟩
 rename_i b;have l:9<=size:=by
  unfold aG at b
  repeat' split at b<;>omega
 exact AA a ⟨l,ω⟩ ω ω ω
def kN{β:Type}[Inhabited α]{f:α->β}{xs:List α}{y:α}(a:i<xs.length)(e:f y=f (nth xs i)):(xs.set i y).map f=xs.map f:=by
 rw[I6];refine List.ext_getElem (by simp) λj b c=>?_
 rw[List.getElem_set];split
 ·rename_i g;subst g
  rw[List.getElem_map,e,bg (O2 a)]
 rfl
def oA{α β:Type}[Inhabited α](f:α->List β):∀(xs:List α)(i:Nat)(y:α),i<xs.length->(f y).Sublist (f (nth xs i))->((xs.set i y).flatMap f).Sublist (xs.flatMap f)
 | [],_,_,h,_=>absurd h (Nat.not_lt_zero _)
 | x::xs,0,y,_,a=>by
  rw[List.set_cons_zero,X6,X6];exact List.Sublist.append a (List.Sublist.refl _)
 | x::xs,i+1,y,h,a=>by
  rw[List.set_cons_succ,X6,X6];exact List.Sublist.append (List.Sublist.refl _) (oA f xs i y (by simpa using h) a)
def zK(k:ah)(a:Int):Nat->ah
 | 0=>k
 | m+1=>dK (zK k a m) (a+m) 0
def my(k:ah)(a:Int):∀m,(zK k a m).F.R=k.F.R/\(zK k a m).Calls=k.Calls/\(zK k a m).a0=k.a0
 | 0=>⟨rfl,rfl,rfl⟩
 | m+1=>my k a m
def N1{k:ah}(h:aA k=true){a:Int} : ∀{m:Nat},(∀j:Nat,j<m->(ac k.F.R ((a+j) / 16)).j≠0)->aA (zK k a m)=true
 | 0,_=>h
 | m+1,b=>xF (N1 h λj c=>b j ω) (by rw[(my k a m).1];exact b m ω) ⟨ω,ω⟩
theorem H8(j:aT h E){o:List a7}(y:p+n<=h.G.F.R.O.length)(A:sp.Sublist h.K)(M:∀l∈la,∀q∈lpgs l l.a2.toNat,∃w∈h.J,q∈lpgs w w.a2.toNat)(N:0<=p)(B:∀q,q∈pgs sp la↔q∈pgs h.K h.J/\¬(p<=q/\q<p+n))(O:∀q,RH o q↔RH h.q q\/(p<=q/\q<p+n)) :
  Pg (unmN h.G p n).F.R o sp la:=by
 have b:=(dS h.G p n).1;have d:=mZ j.ker N n y;have f:∀q:Nat,(q:Int)∈pgs sp la->nth (unmN h.G p n).F.R.O q=nth (tbl h).O q:=λq c=>by rw[d,C9 ((B q).1 c).2];rfl
 have a:∀q:Nat,(nth (unmN h.G p n).F.R.O q).j≠0↔(nth (tbl h).O q).j≠0/\¬(p<=q/\(q:Int)<p+n):=λq=>by
  rw[d];by_cases e:p<=q/\(q:Int)<p+n
  ·rw[CC e];exact⟨λx=>absurd rfl x,λx=>absurd e x.2⟩
  rw[C9 e];exact⟨λx=>⟨x,e⟩,λx=>x.1⟩
 refine⟨λl g q c r J C k=>?_,λq c=>?_,λq c=>?_,λq c=>?_,λs g u D F K=>?_⟩
 ·have t:=(a r).1 C
  rw[b]at J;rw[f q (fC g c),d,C9 t.2]at k;obtain⟨w,G,H⟩:=M l g _ c;exact j.pg.one w G q H r J t.1 k
 ·rw[b];exact j.pg.bnd q ((B q).1 c).1
 ·rw[b]at c
  rw[a,B,j.pg.own q c]
 ·rw[b]at c
  rw[a,O,j.pg.fre q c]
  grind
 have i:∀s∈sp,0<=s.Q:=λs g=>(aE (j.L.sok s (A.subset g))).1
 have P:=f s.Q.toNat (by rw[Int.toNat_of_nonneg (i s g)];exact d7 g);have Q:=f u.Q.toNat (by rw[Int.toNat_of_nonneg (i u D)];exact d7 D);rw[P,Q]at K;exact j.pg.mesh s (A.subset g) u (A.subset D) F K
def trimL(l:ay)(size:Int):ay:=⟨l.Q,(size+15) / 16,size⟩
def dB(l:ay)(size:Int):Nat:=(l.a2 - (size+15) / 16).toNat
def aT.trimL{h:ab}{E:List Int}{i k:Nat}{size:Int}(t:aT h E)(T:i<h.M.length)(H:k<h.J.length)(Y:(nth h.M i).Addr=16*(nth h.J k).Q)(N:9<=size/\size<=(nth h.J k).o) :
  ∃o,(dB (nth h.J k) size=0->o=h.q)/\(0<dB (nth h.J k) size->cn (fe h) h.q ⟨(nth h.J k).Q+(size+15) / 16,(dB (nth h.J k) size:Nat)⟩ = some o)/\
   aT {h with G:=unmN h.G ((nth h.J k).Q+(size+15) / 16) (dB (nth h.J k) size),J:=h.J.set k (trimL (nth h.J k) size),M:=h.M.set i {nth h.M i with o:=size},q:=o} E:=by
 have U:=t.L;have C:=U.lok _ (am H);have hf:=aK C;unfold bH at C;rw[C0]at C;obtain⟨b1,b2⟩:=tD t H;have O:=U.dis;have G:=λj n=>U.one j k n H
 have y:=(am H:nth h.J k∈h.J)
 have d:∀z∈h.J.set k (Ab.trimL (nth h.J k) size),z=Ab.trimL (nth h.J k) size\/∃j,j<h.J.length/\j≠k/\nth h.J j=z:=λz N=>dH N
 have p:Ab.trimL (nth h.J k) size∈h.J.set k (Ab.trimL (nth h.J k) size):=iP _ H;have u:∀j,j<h.J.length->j≠k->nth h.J j∈h.J.set k (Ab.trimL (nth h.J k) size):=λj n e=>jT _ n e
 have hpageM:(h.J.set k (Ab.trimL (nth h.J k) size)).map (·.Q)=h.J.map (·.Q):=kN H rfl;have w:(pgs h.K (h.J.set k (Ab.trimL (nth h.J k) size))).Sublist (pgs h.K h.J):=by
  unfold pgs;refine List.Sublist.append (List.Sublist.refl _) (oA _ _ _ _ H ?_);unfold lpgs;exact(List.range_sublist.2 (by simp only[Ab.trimL];omega)).map _
 obtain⟨l,V⟩ : ∃l,nth h.J k=l:=⟨_,rfl⟩
 rw[V]at C hf b1 b2 G y d p u hpageM w Y N |-;generalize hla:h.J.set k (Ab.trimL l size)=la at d p u hpageM w |-;have hn1:(1:Int)<=(size+15) / 16/\(size+15) / 16+(dB l size:Nat)=l.a2:=by unfold dB;omega
 have D:∀q,q∈lpgs l l.a2.toNat↔l.Q<=q/\q<l.Q+l.a2:=λq=>by
  rw[dq];constructor
  ·rintro⟨j,n,rfl⟩;omega
  rintro⟨Z,q2⟩;exact⟨(q - l.Q).toNat,ω,ω⟩
 have J:∀q,q∈lpgs (Ab.trimL l size) (Ab.trimL l size).a2.toNat↔l.Q<=q/\q<l.Q+(size+15) / 16:=λq=>by
  rw[dq];simp only[Ab.trimL];constructor
  ·rintro⟨j,n,rfl⟩;omega
  rintro⟨Z,q2⟩;exact⟨(q - l.Q).toNat,ω,ω⟩
 have hpe:l.Q+(size+15) / 16+(dB l size:Nat)=l.Q+l.a2:=ω
 have P:∀q,q∈pgs h.K la↔q∈pgs h.K h.J/\¬(l.Q+(size+15) / 16<=q/\q<l.Q+(size+15) / 16+(dB l size:Nat)):=λq=>by
  rw[qg,qg,hpe];constructor
  ·rintro(⟨s,W,rfl⟩|⟨z,c,B⟩)
   ·exact⟨.inl ⟨s,W,rfl⟩,λe=>O s W l y (s.Q - l.Q).toNat ω ω⟩
   rcases d z c with rfl|⟨j,n,hjk,rfl⟩
   ·have:=(J q).1 B
    exact⟨.inr ⟨l,y,(D q).2 ⟨ω,ω⟩⟩,ω⟩
   refine⟨.inr ⟨_,am n,B⟩,λe=>?_⟩;obtain⟨m,hm,rfl⟩:=dq.1 B;exact hjk (G j n m ((nth h.J j).Q+(m:Int) - l.Q).toNat hm ω ω)
  rintro⟨⟨s,W,rfl⟩|⟨z,c,B⟩,hne⟩
  ·exact .inl ⟨s,W,rfl⟩
  obtain⟨j,n,rfl⟩:=aM c;by_cases e:j=k
  ·subst e
   rw[V]at B;have:=(D q).1 B;exact .inr ⟨_,p,(J q).2 ⟨ω,ω⟩⟩
  exact .inr ⟨_,u j n e,B⟩
 have K:∃o,(dB l size=0->o=h.q)/\(0<dB l size->cn (fe h) h.q ⟨l.Q+(size+15) / 16,(dB l size:Nat)⟩ = some o)/\bC (fe h) o=true/\∀q,RH o q↔RH h.q q\/(l.Q+(size+15) / 16<=q/\q<l.Q+(size+15) / 16+(dB l size:Nat)):=by
  by_cases e:dB l size=0
  ·refine⟨h.q,λ_=>rfl,λg=>absurd g ω,t.rng,λq=>⟨.inl,λg=>g.resolve_right ω⟩⟩
  obtain⟨o,o1,o2,o3⟩:=uN (r:=⟨l.Q+(size+15) / 16,(dB l size:Nat)⟩) t.rng ⟨by simp only;omega,by simp only;omega,by show l.Q+(size+15) / 16+(dB l size:Nat)<=(fe h:Int);have:((tbl h).O.length:Int)=(fe h:Int):=rfl;omega⟩ λq Z q2=>by
   simp only at Z q2;obtain⟨m,rfl⟩:=z3 (show 0<=q by omega);have Q:m<(tbl h).O.length:=ω
   exact(t.pg.fre m Q).1 ((t.pg.own m Q).2 (fC y ((D _).2 ⟨ω,ω⟩)))
  exact⟨o,λg=>absurd g e,λ_=>o1,o2,o3⟩
 obtain⟨o,o0,o1,o2,o3⟩:=K;have R:=(dS h.G (l.Q+(size+15) / 16) (dB l size)).1;have M:∀z∈h.M.set i {nth h.M i with o:=size},z = {nth h.M i with o:=size}\/∃j,j<h.M.length/\j≠i/\nth h.M j=z:=λz N=>dH N
 have F:(h.M.set i {nth h.M i with o:=size}).map (·.Addr)=h.M.map (·.Addr):=kN T rfl;have S:(h.M.set i {nth h.M i with o:=size}).map (·.Id)=h.M.map (·.Id):=kN T rfl;have hli:=(am T:nth h.M i∈h.M)
 generalize h.M.set i {nth h.M i with o:=size} = ob at M F S |-;refine⟨o,o0,o1,{t with
   ker:=ik t.ker _ _
   rng:=by show bC (((unmN h.G (l.Q+(size+15) / 16) (dB l size)).F.R.O.length:Nat):Int) o=true;rw[R];exact o2
   lay:=?_
   srl:=?_
   pg:=H8 t (by have:((tbl h).O.length:Int)=(h.G.F.R.O.length:Int):=rfl;omega) (List.Sublist.refl _) (λz c q B=>?_) ω P o3
   osr:=?_
   onu:=λz c=>?_
   oid:=by show(ob.map (·.Id)).Nodup;rw[S];exact t.oid
   oow:=λz c=>?_
   nd:=?_
   mem:=λb=>?_}⟩
 ·obtain⟨l1,l2,l3⟩:=dY t.lay
  unfold bk;simp only[I0,C0];refine⟨⟨l1,v4.2 λz c=>?_⟩,l3.sublist w⟩;rcases d z c with rfl|⟨j,n,-,rfl⟩
  ·exact O0 ⟨N.1,by show size<=1000;omega,rfl,by show 0<=l.Q;omega,by show l.Q<=32 - (size+15) / 16;omega⟩
  exact U.lok _ (am n)
 ·have A:(h.J.map (·.Q)).Pairwise (λa b=>a<b):=List.pairwise_map.2 t.srl
  rw[<-hpageM]at A;exact List.pairwise_map.1 A
 ·rcases d z c with rfl|⟨j,n,-,rfl⟩
  ·have:=(J q).1 B
   exact⟨l,y,(D q).2 ⟨ω,ω⟩⟩
  exact⟨_,am n,B⟩
 ·have A:(h.M.map (·.Addr)).Pairwise (λa b=>a<b):=List.pairwise_map.2 t.osr
  rw[<-F]at A;exact List.pairwise_map.1 A
 ·rcases M z c with rfl|⟨j,n,-,rfl⟩
  ·exact t.onu (nth h.M i) hli
  exact t.onu _ (am n)
 ·rcases M z c with rfl|⟨j,n,hji,rfl⟩
  ·exact .inr ⟨_,p,Y,rfl⟩
  rcases t.oow _ (am n) with A|⟨l',hl',e1,X⟩
  ·exact .inl A
  obtain⟨m,hm,rfl⟩:=aM hl';by_cases e:m=k
  ·subst e
   rw[V]at e1;exact absurd (ce (f:=(·.Addr)) (cQ t.osr) n T (e1.trans Y.symm)) hji
  exact .inr ⟨_,u m hm e,e1,X⟩
 ·have hh:holders {h with G:=unmN h.G (l.Q+(size+15) / 16) (dB l size),J:=la,M:=ob,q:=o} = holders h:=by
   show((ob.map (·.Addr)++cK h)++h.a6.a1.map (·.Addr))++aN h.w=_;rw[F];rfl
  rw[hh];exact t.nd
 have hh:holders {h with G:=unmN h.G (l.Q+(size+15) / 16) (dB l size),J:=la,M:=ob,q:=o} = holders h:=by
  show((ob.map (·.Addr)++cK h)++h.a6.a1.map (·.Addr))++aN h.w=_;rw[F];rfl
 rw[hh,t.mem b];show mU h.K h.J b↔mU h.K la b;unfold mU;constructor
 ·rintro(A|⟨z,c,e⟩)
  ·exact .inl A
  obtain⟨j,n,rfl⟩:=aM c;by_cases X:j=k
  ·subst X
   rw[V]at e;exact .inr ⟨_,p,e⟩
  exact .inr ⟨_,u j n X,e⟩
 rintro(A|⟨z,c,e⟩)
 ·exact .inl A
 rcases d z c with rfl|⟨j,n,-,rfl⟩
 ·exact .inr ⟨l,y,e⟩
 exact .inr ⟨_,am n,e⟩
def kA(h:ab)(k:Nat)(size:Int):ah:=zK h.G (16*(nth h.J k).Q+size) (16*((size+15) / 16) - size).toNat
def J8(h:ab)(k:Nat)(size:Int):List a7:=if 0<dB (nth h.J k) size then(cn (fe h) h.q ⟨(nth h.J k).Q+(size+15) / 16,(dB (nth h.J k) size:Nat)⟩).getD h.q else h.q
def trimH(h:ab)(i k:Nat)(size:Int):ab:={h with G:=unmN (kA h k size) ((nth h.J k).Q+(size+15) / 16) (dB (nth h.J k) size),J:=h.J.set k (trimL (nth h.J k) size),M:=h.M.set i {nth h.M i with o:=size},q:=J8 h k size}
def jM(b:aT h E){k:Nat}(c:k<h.J.length)(g:16*(nth h.J k).Q<=a/\a<16*(nth h.J k).Q+16*(nth h.J k).a2):(ac h.G.F.R (a / 16)).j≠0:=by
 obtain⟨i,j⟩:=tD b c;have l:=aK (b.L.lok _ (am c));have d:(a / 16)∈pgs h.K h.J:=fC (am c) (dq.2 ⟨(a / 16 - (nth h.J k).Q).toNat,ω,ω⟩);have e:=b.pg.bnd _ d;have f:=(b.pg.own (a / 16).toNat ω).2 (by rw[show(((a / 16).toNat:Nat):Int)=a / 16 by omega];exact d);unfold ac;rw[CC ⟨ω,e⟩];exact f
def x9(b:aT h E){k:Nat}(c:k<h.J.length)(d:9<=size/\size<=(nth h.J k).o):∀{m:Nat},m<=(16*((size+15) / 16) - size).toNat->aA (zK h.G (16*(nth h.J k).Q+size) m)=true:=fun {m} hm=>by
 have a:=b.L.lok _ (am c);unfold bH at a;rw[C0]at a;exact N1 b.ker λj e=>jM b c ⟨ω,ω⟩
def aT.trimH{h:ab}{i k:Nat}{size:Int}(d:aT h [])(A:i<h.M.length)(f:k<h.J.length)(B:(nth h.M i).Addr=16*(nth h.J k).Q)(r:9<=size/\size<=(nth h.J k).o):aT (trimH h i k size) []/\JK h (trimH h i k size):=by
 have t:=x9 d f r (I3 _);have l:=(my h.G (16*(nth h.J k).Q+size) (16*((size+15) / 16) - size).toNat).1;have C:=d.cells t l;obtain⟨o,u,w,y⟩:=C.trimL (i:=i) (k:=k) (size:=size) A f B r;simp only at u w y;have n:fe {h with G:=zK h.G (16*(nth h.J k).Q+size) (16*((size+15) / 16) - size).toNat} = fe h:=by
  unfold fe;simp only[l]
 have D:J8 h k size=o:=by
  unfold J8;split
  ·rename_i g;have:=w g;rw[n]at this;rw[this];rfl
  exact(u ω).symm
 have E:Ab.trimH h i k size = {h with G:=unmN (kA h k size) ((nth h.J k).Q+(size+15) / 16) (dB (nth h.J k) size),J:=h.J.set k (Ab.trimL (nth h.J k) size),M:=h.M.set i {nth h.M i with o:=size},q:=o}:=by unfold Ab.trimH;rw[D]
 refine⟨by rw[E];exact y,JK.less rfl rfl rfl λq j=>?_⟩;have a:=d.L.lok _ (am f);unfold bH at a;rw[C0]at a;obtain⟨F,G⟩:=tD d f;have b:(kA h k size).F.R=h.G.F.R:=l;have c:=mZ (k:=kA h k size) t (p:=(nth h.J k).Q+(size+15) / 16) ω (dB (nth h.J k) size) (by rw[b];have:((tbl h).O.length:Int)=(h.G.F.R.O.length:Int):=rfl;unfold dB;omega) q;change (nth (unmN (kA h k size) ((nth h.J k).Q+(size+15) / 16) (dB (nth h.J k) size)).F.R.O q).j≠0 at j;show nth (unmN (kA h k size) ((nth h.J k).Q+(size+15) / 16) (dB (nth h.J k) size)).F.R.O q=nth h.G.F.R.O q;rw[c]at j |-;split at j
 ·exact absurd rfl j
 rename_i e;rw[C9 e,b]
def Gx(h:1<=t/\t<=4):bu (ew t)=true:=by
 have f:∀n,n<=t->br (ew t) n=0:=λn=>by
  induction n with
  | zero=>intro _;rfl
  | succ n g=>
   intro j;have a:nth (ew t).T n=[]:=d8 ω;have b:nth (ew t).y n=[]:=d8 ω;simp only[br,g ω,a,b,List.length_nil]
   decide
 have e:(ew t).T.length=t:=Y3 ..;refine df.2 ⟨⟨ω,ω,by simp[ew]⟩,λi c=>?_,by rw[e,f t (I3 _)];omega⟩;rw[e]at c;have a:nth (ew t).T i=[]:=d8 c;have b:nth (ew t).y i=[]:=d8 c;rw[a,b];exact⟨λp d=>(by cases d),λp d=>(by cases d)⟩
def vp(t:Nat):aN (ew t)=[]:=by
 unfold aN;split
 ·simp[ew]
 rfl
def qQ(k:ah)(t:Nat)(sd ck lim:Int):ab:=⟨k,[⟨0,(k.F.R.O.length:Nat)⟩],[],[],[],List.replicate t fF,ew t,⟨16,[]⟩,sd,ck,lim,1,false,⟨⟨0,0,[]⟩,0,0⟩⟩
def FD:bv fF=true:=by decide
def aT.fresh{lim sd ck:Int}(A:aA k=true)(B:∀q,q<k.F.R.O.length->(nth k.F.R.O q).j=0)(E:1<=t/\t<=4)(g:0<=lim/\lim<=1000)(h:0<=sd/\sd<=1073741823)(d:0<=ck/\ck<=1000000):aT (qQ k t sd ck lim) []:=by
 obtain⟨G,H,J⟩:=bx.1 (aD.1 A).2.2.1;have hca:cK (qQ k t sd ck lim)=[]:=by
  unfold cK;refine List.flatMap_eq_nil_iff.2 λc d=>?_
  rw[(List.mem_replicate.1 d).2]
  rfl
 have C:holders (qQ k t sd ck lim)=[]:=by
  unfold holders;rw[hca];show(([]++[])++[])++aN (ew t)=[];rw[vp];rfl
 have i:∀a,¬mU (qQ k t sd ck lim).K (qQ k t sd ck lim).J a:=λa=>by
  rintro(⟨s,h,-⟩|⟨l,g,-⟩)
  ·cases h
  cases g
 exact {
   ker:=A
   rng:=fV.2 ⟨⟨List.pairwise_singleton ..,λy n=>by rw[O1.1 n];show(1:Int)<=(k.F.R.O.length:Nat);omega⟩,λy n=>by
       rw[O1.1 n];refine⟨v5 _,by show(1:Int)<=(k.F.R.O.length:Nat);omega,?_⟩;show(0:Int)+(k.F.R.O.length:Nat)<=(k.F.R.O.length:Nat);omega,by show(1:Int)<=(k.F.R.O.length:Nat);omega,by show((k.F.R.O.length:Nat):Int)<=32;omega⟩
   lay:=by show bk [] []=true;decide
   srs:=List.Pairwise.nil
   srl:=List.Pairwise.nil
   pg:=⟨λl g=>(by cases g),λp f=>(by cases f),λp f=>⟨λe=>absurd (B p f) e,λe=>by cases e⟩,λp f=>⟨λe=>absurd (B p f) e,λe=>absurd ⟨_,O1.2 rfl,by show(0:Int)<=p;omega,by
       show(p:Int)<0+(k.F.R.O.length:Nat);have F:p<k.F.R.O.length:=f;omega⟩ e⟩,λs h=>by cases h⟩
   mail:=Gx E
   nc:=by show(List.replicate t fF).length=(List.replicate t _).length;simp
   quar:=by show fR ⟨16,[]⟩ = true;decide
   snc:=λx r=>by cases r
   cach:=λc d=>by rw[(List.mem_replicate.1 d).2];exact FD
   nums:=by unfold cr;rw[C0];simp only[qQ];omega
   osr:=List.Pairwise.nil
   onu:=λo u=>by cases u
   oid:=List.nodup_nil
   oow:=λo u=>by cases u
   hca:=λc d j D a b=>by
     rw[(List.mem_replicate.1 d).2]at D b;have w:j<4:=D;have:nth fF.a j=[]:=d8 w;rw[this]at b;cases b
   hqu:=λx r=>by cases r
   hfl:=λa b=>by
     have:aN (ew t)=[]:=vp t;change a∈aN (ew t) at b;rw[this]at b;cases b
   hin:=λa b=>by cases b
   nd:=by rw[C];exact List.nodup_nil
   mem:=λa=>by rw[C];exact⟨λe=>(by cases e),λe=>absurd e (i a)⟩
   job:=λe=>by cases e
   noj:=λ_=>by show sL ⟨⟨0,0,[]⟩,0,0⟩ = true;decide}
def JI.no(a:h.u=false):JI h:=⟨λe=>(by rw[a]at e;cases e),λe=>(by rw[a]at e;cases e),λe=>(by rw[a]at e;cases e),λe=>(by rw[a]at e;cases e)⟩
def qm{p:Nat}{a:List Int}(d:1<=p/\p<=32)(e:1<=f/\f<=32)(b:a.length<=40/\∀x∈a,0<=x):aA (bV p f a)=true:=by
 obtain⟨-,g,h,i,c⟩:=aD.1 (Bp d e);exact aD.2 ⟨λj k=>b.2 _ (am k),g,h,i,c.1,c.2.1,b.1⟩
def FO{p:Nat}{lim:Int}{a:List Int}(c:1<=p/\p<=32)(d:1<=f/\f<=32)(g:1<=t/\t<=4)(i:0<=lim/\lim<=1000)(j:a.length<=40/\∀x∈a,0<=x):aT (newHeap p f t lim a) []:=by
 have h:=aT.fresh (k:=bV p f a) (t:=t) (lim:=lim) (sd:=0) (ck:=0) (qm c d j) (λq l=>by
   have b:q<p:=by simpa[bV,eS] using l
   rw[show nth (bV p f a).F.R.O q = ⟨0,0⟩ from d8 b]) g i ω ω
 have e:(bV p f a).F.R.O.length=p:=by simp[bV,eS]
 unfold qQ at h;rw[e]at h;exact h
structure eA where
 b5:Int
 a3:Int
 N:Int
 At:Int
 Value:Int
deriving DecidableEq,Inhabited
def eA.enc(_:dJ)(x:eA):List C:=[I x.b5,I x.a3,I x.N,I x.At,I x.Value]
def nM(id:Int)(o:bD):Bool:=decide (o.Id=id)
def oI(r:a8)(id:Int):Int:=dd (nM id) r.M
def je(r:a8)(n:Int):a8:=if 1<=n/\n<=1000 then {r with b:=r.b+1,M:=r.M++[⟨r.b,List.replicate n.toNat 0⟩]} else r
def jL(r:a8)(id:Int):a8:=if oI r id<0 then r else {r with M:=dele r.M (oI r id).toNat}
def eJ(r:a8)(id at_ v:Int):a8:=if 0<=oI r id/\(0<=at_/\at_<=(nth r.M (oI r id).toNat).U.length - 1)/\0<=v/\v<=999 then {r with M:=r.M.set (oI r id).toNat ⟨(nth r.M (oI r id).toNat).Id,(nth r.M (oI r id).toNat).U.set at_.toNat v⟩} else r
def fA(r:a8)(id n:Int):a8:=if 0<=oI r id/\1<=n/\n<=(nth r.M (oI r id).toNat).U.length then {r with M:=r.M.set (oI r id).toNat ⟨(nth r.M (oI r id).toNat).Id,(nth r.M (oI r id).toNat).U.take n.toNat⟩} else r
structure rK(r:a8)(m:Nat):Prop where
 len:r.M.length<=m
 cel:∀o∈r.M,o.U.length<=1000
 nx:0<=r.b/\r.b<=m+1
variable{m:Nat}{r:a8}
def rK.more(h:rK r m)(a:m<=n):rK r n:=⟨by have:=h.len;omega,h.cel,h.nx.1,by have:=h.nx.2;omega⟩
def rK.sml(h:rK r m)(b:m<=1000):a8.sml r:=⟨by have:=h.len;omega,λo a=>by have:=h.cel o a;show o.U.length<=1048576;omega⟩
def rK.alloc(h:rK r m)(n:Int):rK (je r n) (m+1):=by
 unfold je;split
 ·refine⟨by have:=h.len;simp only[U3,List.length_singleton];omega,λo a=>?_,by have:=h.nx.1;simp only;omega,by have:=h.nx.2;simp only;omega⟩
  rcases C3.1 a with a|a
  ·exact h.cel o a
  rw[O1.1 a];simp only[Y3];omega
 exact h.more ω
def rK.free(h:rK r m)(id:Int):rK (jL r id) m:=by
 unfold jL;split
 ·exact h
 have a:=eI r.M (oI r id).toNat;exact⟨Z4 a.length_le h.len,λo b=>h.cel o (a.subset b),h.nx⟩
def rK.set{x:bD}(h:rK r m)(b:x.U.length<=1000):rK {r with M:=r.M.set i x} m:=
 ⟨by simp only[U1];exact h.len,λo a=>by
   rcases V6 a with a|rfl
   · exact h.cel o a
   exact b,h.nx⟩
def fD[Inhabited α](p:α->Bool)(xs:List α)(h:0<=dd p xs):(dd p xs).toNat<xs.length/\p (nth xs (dd p xs).toNat)=true/\dd p xs=((dd p xs).toNat:Nat):=by
 rcases iD p xs with e|⟨n,a,e,b⟩
 ·omega
 rw[e,Z2];exact⟨a,b,rfl⟩
def rK.store(h:rK r m)(id a v:Int):rK (eJ r id a v) m:=by
 unfold eJ;split
 ·rename_i e
  refine h.set ?_;simp only[U1];exact h.cel (nth r.M (oI r id).toNat) (am (fD _ _ e.1).1)
 exact h
def rK.trim(h:rK r m)(id n:Int):rK (fA r id n) m:=by
 unfold fA;split
 ·rename_i e
  refine h.set ?_;have:=h.cel (nth r.M (oI r id).toNat) (am (fD _ _ e.1).1);simp only[V1];omega
 exact h
def MV(id:Int)(o:aY):Bool:=decide (o.Id=id)
def qA(h:ab)(id:Int):Int:=dd (MV id) h.M
def Jr(a:Int)(l:ay):Bool:=decide (l.Q*16=a)
def zi(h:ab)(a:Int):Int:=dd (Jr a) h.J
def ns(h:ab)(a:eA):Prop:=0<=a.a3/\a.a3<=h.S.length - 1
instance (h:ab) (a:eA):Decidable (ns h a):=by unfold ns;infer_instance
def nq(w:bo)(a:eA)(i:Nat):bo × Int:=
 if w.X.G.Calls=100000 then(w,6)
 else if ns w.X a then(⟨(freeT w.X a.a3.toNat i).1,if(freeT w.X a.a3.toNat i).2=0 then jL w.b7 (nth w.X.M i).Id else w.b7⟩,(freeT w.X a.a3.toNat i).2)
 else(w,1)
def lw(w:bo)(a:eA)(i:Nat):bo × Int:=
 if ¬(0<=a.At/\a.At<=(nth w.X.M i).o - 1) then(w,90)
 else if(ac w.X.G.F.R (((nth w.X.M i).Addr+a.At) / 16)).j=1 then(w,2)
 else if ¬(0<=a.Value/\a.Value<=999) then(w,3)
 else(⟨{w.X with G:=dK w.X.G ((nth w.X.M i).Addr+a.At) a.Value},eJ w.b7 (nth w.X.M i).Id a.At a.Value⟩,0)
def mj(h:ab)(i:Nat)(n:Int):Prop:=0<=zi h (nth h.M i).Addr/\9<=n/\n<=(nth h.J (zi h (nth h.M i).Addr).toNat).o
instance (h:ab) (i:Nat) (n:Int):Decidable (mj h i n):=by unfold mj;infer_instance
def nJ(w:bo)(a:eA)(i:Nat):bo × Int:=
 if w.X.G.Calls≠100000/\mj w.X i a.Value then(⟨trimH w.X i (zi w.X (nth w.X.M i).Addr).toNat a.Value,fA w.b7 (nth w.X.M i).Id a.Value⟩,0) else(w,90)
def kZ(w:bo)(a:eA)(i:Nat):bo × Int:=if a.b5=2 then nq w a i else if a.b5=3 then lw w a i else nJ w a i
def fk(h:ab)(a:eA):ab × Int:=
 if a.b5=5 then(if ns h a/\0<(nth h.w.T a.a3.toNat).length then({h with w:=fS h.w a.a3.toNat},0) else(h,90))
 else if ¬(h.G.Calls≠100000/\ns h a) then(h,0)
 else if a.b5=6 then(collect h a.a3.toNat,((nth h.w.y a.a3.toNat).length:Nat))
 else((flushN a.a3.toNat h 4).1,((flushN a.a3.toNat h 4).2:Nat))
def ma(h:ab)(n:Int):ab × Int:=if h.G.Calls≠100000/\(0<=n/\n<=1000)/\h.b3+n<=1000000 then(tick h n,((oh h n).length:Nat)) else(h,0)
def ro(h:ab):Bool:=h.u&&decide (h.G.Calls<=99000)
def stN(h:ab):Nat->ab × Nat
 | 0=>(h,0)
 | i+1=>if ro (stN h i).1=true then(mStep (stN h i).1,(stN h i).2+1) else stN h i
def lU(h:ab):ab × Int:=if h.u=true then(h,90) else((started h).1,if(started h).2=true then 0 else 90)
def kG(w:bo)(a:eA):bo × Int:=
 if a.b5=1 then(⟨(allocH w.X a.a3 a.N).1,if(allocH w.X a.a3 a.N).2.2=0 then je w.b7 a.N else w.b7⟩,(allocH w.X a.a3 a.N).2.2)
 else if a.b5=2\/a.b5=3\/a.b5=4 then(if qA w.X a.N<0 then(w,90) else kZ w a (qA w.X a.N).toNat)
 else if a.b5=5\/a.b5=6\/a.b5=7 then(⟨(fk w.X a).1,w.b7⟩,(fk w.X a).2)
 else if a.b5=8 then(⟨(ma w.X a.N).1,w.b7⟩,(ma w.X a.N).2)
 else if a.b5=9 then(⟨(lU w.X).1,w.b7⟩,(lU w.X).2)
 else if a.b5=10/\0<=a.N/\a.N<=50 then(⟨(stN w.X a.N.toNat).1,w.b7⟩,((stN w.X a.N.toNat).2:Nat))
 else(w,90)
structure qY(w:bo)(m:Nat):Prop where
 inv:aT w.X []
 ji:JI w.X
 ref:rK w.b7 m
variable{w:bo}
def qY.more(h:qY w m)(a:m<=n):qY w n:=⟨h.inv,h.ji,h.ref.more a⟩
def qY.jk(h:qY w m){g:ab}(a:aT g []/\JK w.X g)(b:rK r m):qY ⟨g,r⟩ m:=⟨a.1,h.ji.keep a.1 a.2,b⟩
def cT(a:aT h E){o:aY}(p:o∈h.M){k:Int}(D:0<=k/\k<=o.o - 1):(ac h.G.F.R ((o.Addr+k) / 16)).j≠0/\0<=o.Addr/\o.Addr+k<512:=by
 rcases a.oow o p with⟨s,g,q,r⟩|⟨l,i,F,G⟩
 ·have b:=a.L.sok s g
  have t:=aE b;obtain⟨u,w,y⟩:=a.mapped g;have d:=bW t.2.2;obtain⟨H,J,A,-⟩:=q;have f:o.o<=csz s.d:=by
   have K:=iq (n:=o.o) ω;rw[r];have:o.o=1\/o.o=2\/o.o=3\/o.o=4\/o.o=5\/o.o=6\/o.o=7\/o.o=8:=ω
   rcases this with e|e|e|e|e|e|e|e<;>rw[e]<;>decide
  have B:(o.Addr+k) / 16=s.Q:=by
   rcases d with e|e|e|e<;>rw[e]at A f<;>omega
  rw[B];refine⟨?_,ω,ω⟩;unfold ac;rw[CC ⟨u,w⟩];exact y
 obtain⟨j,C,rfl⟩:=aM i;have c:=a.L.lok _ i;unfold bH at c;rw[C0]at c;exact⟨jM a C ⟨ω,ω⟩,ω,ω⟩
def qY.obj(h:qY w m)(a:eA)(b:i<w.X.M.length):qY (kZ w a i).1 m:=by
 unfold kZ;split
 ·unfold nq
  split
  ·exact h
  split
  ·rename_i d
   unfold ns at d;refine h.jk (h.inv.freeT b ω) ?_;split
   ·exact h.ref.free _
   exact h.ref
  exact h
 split
 ·unfold lw
  split
  ·exact h
  rename_i l;split
  ·exact h
  split
  ·exact h
  rename_i n;exact h.jk (h.inv.store (cT h.inv (am b) ω).1 ω) (h.ref.store _ _ _)
 unfold nJ;split
 ·rename_i e
  obtain⟨-,f,g⟩:=e;obtain⟨j,k,o⟩:=fD _ _ f;have c:=of_decide_eq_true k;exact h.jk (h.inv.trimH b j (c.symm.trans (Int.mul_comm _ _)) g) (h.ref.trim _ _)
 exact h
def qY.thread(h:qY w m)(a:eA):qY ⟨(fk w.X a).1,w.b7⟩ m:=by
 unfold fk;split
 ·split
  ·rename_i e
   obtain⟨b,i⟩:=e;unfold ns at b;exact h.jk (g:={w.X with w:=fS w.X.w a.a3.toNat}) ⟨h.inv.deliv (by rw[<-h.inv.nc];omega) i,JK.eq rfl rfl rfl rfl⟩ h.ref
  exact h
 split
 ·exact h
 rename_i e;have e:=Classical.not_not.1 e;obtain⟨-,b⟩:=e;unfold ns at b;split
 ·exact h.jk (g:=collect w.X a.a3.toNat) (h.inv.collect ω) h.ref
 have c:a.a3.toNat<w.X.S.length:=ω
 have d:=(jq h.inv c (I3 4)).1;have f:=JK.flushN h.inv c (I3 4);generalize flushN a.a3.toNat w.X 4=r at d f |-;exact h.jk (g:=r.1) ⟨d,f⟩ h.ref
def rd{h:ab}(a:aT h [])(b:JI h):∀n,aT (stN h n).1 []/\JI (stN h n).1
 | 0=>⟨a,b⟩
 | n+1=>by
  obtain⟨c,d⟩:=rd a b n;unfold stN;split
  ·rename_i e
   unfold ro at e;rw[I0]at e;exact c.mStep d e.1
  exact⟨c,d⟩
def qY.act(h:qY w m)(a:eA):qY (kG w a).1 (m+1):=by
 unfold kG;split
 ·have b:=AN (t:=a.a3) (size:=a.N) h.inv
  refine⟨b.1,h.ji.keep b.1 b.2,?_⟩;show rK (if _ then _ else _) (m+1);split
  ·exact h.ref.alloc _
  exact h.ref.more ω
 refine qY.more (m:=m) ?_ ω;split
 ·split
  ·exact h
  rename_i e;exact h.obj a (fD _ _ (by unfold qA at e;omega)).1
 split
 ·exact h.thread a
 split
 ·unfold ma
  split
  ·rename_i e
   exact h.jk (h.inv.tick e.2.1.1 e.2.2) h.ref
  exact h
 split
 ·unfold lU
  split
  ·exact h
  rename_i e;have b:=Gz h.inv (by simpa using e);exact⟨b.1,b.2,h.ref⟩
 split
 ·have b:=rd h.inv h.ji a.N.toNat
  exact⟨b.1,b.2,h.ref⟩
 exact h
structure cH where
 a2:Nat
 W:Nat
 c7:Nat
 c4:Int
 a0:List Int
deriving Inhabited
structure DA(c:cH):Prop where
 p:1<=c.a2/\c.a2<=32
 f:1<=c.W/\c.W<=32
 t:1<=c.c7/\c.c7<=4
 l:0<=c.c4/\c.c4<=1000
 r:c.a0.length<=40/\∀x∈c.a0,0<=x
def world0(c:cH):bo:=⟨newHeap c.a2 c.W c.c7 c.c4 c.a0,{b:=1,M:=[]}⟩
def wd(c:cH)(acts:List eA):Nat->bo × List Int
 | 0=>(world0 c,[])
 | i+1=>((kG (wd c acts i).1 (nth acts i)).1,(wd c acts i).2++[(kG (wd c acts i).1 (nth acts i)).2])
def Lh{c:cH}(h:DA c):qY (world0 c) 0:=
 ⟨FO h.p h.f h.t h.l h.r,JI.no rfl,⟨I3 _,λo a=>(by cases a),by show(0:Int)<=1;omega,by show(1:Int)<=((0:Nat):Int)+1;omega⟩⟩
def qZ{c:cH}(h:DA c)(acts:List eA):∀n,qY (wd c acts n).1 n
 | 0=>Lh h
 | n+1=>(qZ h acts n).act _
def ab.enc_fzi(h:ab):ef (ab.enc .V h)=ab.enc .V h:=by rw[<-ab.enc_fz h,pI]
def Rg(f:dM h=true){z:Int}{k:Nat}(b:k<h.M.length):(nth h.M k).Id=z↔dd (ee z) h.M=(k:Nat):=by
 constructor
 ·rintro rfl
  refine dP (ao b) (by unfold ee;simp) λj y i c=>?_
  have a:=(U2.1 c).1;have:=M5 f a b ω;rw[bg c]at this;unfold ee;exact U0 this
 intro e;rcases iD (ee z) h.M with g|⟨n,l,g,d⟩
 ·omega
 obtain rfl:n=k:=ω
 unfold ee at d;simpa using d
def tK(a:dM h=true)(b:i<h.M.length):0<=(nth h.M i).Addr/\(nth h.M i).Addr<=2000/\1<=(nth h.M i).o/\(nth h.M i).o<=1000:=by
 obtain⟨g,j,c,d,e,f,-⟩:=B4 a b;exact⟨c,d,e,f⟩
def gm(h:ab)(k:Nat):List Int:=cellsOf h.G (nth h.M k).Addr (nth h.M k).o.toNat
def DT(a:dM h=true){k:Nat}(b:k<h.M.length):(gm h k).length<=1000:=by
 have:=tK a b;unfold gm;rw[gx];omega
def oo(o:aY)(z:Int):zzA 89 false [.val (some 4) (aY.enc .V o),.ptr [I z]] .one [B (ee z o)]:=by
 refine fO 8 [] Tryz.func89 rfl ?_
 repeat'(first|refine gP ?_|fail)
 exact X0 (λz=>[B z]) ((by unfold ee;rw[Y4];simp))
def Fy(h:ab)(z:Int)(n:Nat)(b:ab.sml h)(a:dM h=true)(c:n<h.M.length)(g:dd (ee z) h.M=(n:Nat)):zzA 28 false [.val (some 24) (ab.enc .V h),.val none [I z]] (.tup [none,none]) [.s .own ((gm h n).map (rI .own)),B true]:=by
 have d:=ko h b;rw[ng,a]at d;have i:h.M.length<=1048576:=b.2.2.2.2.1.1;have p:=tK a c;have j:=DN h (nth h.M n).Addr (nth h.M n).o (tj a) ω ω;have l:=ao c;have e:=jG h.M (ee z) ω;rw[g]at e;refine fO 32 [(4,13,[18,19,20,21,22,23,24,25,26,27,28,29,30])] Tryz.func28 rfl ?_ (.inr ⟨⟨.inl λh=>(by cases h),aZ _ _ λy _=>o7 y⟩,trivial,trivial⟩)
 repeat'(first|refine gE ?_|(conv=>whnf);first|with_reducible refine CD (aa l) ?_|refine Cq.mk (xI (some 4) (aY.enc .V) (ee z) h.M) (oo default z).has (λL k rcs o=>?_) ?_|refine C8 (e) ?_|refine C8 (d) ?_|refine C8 (j) ?_)
 ·obtain⟨y,-,rfl,rfl,rfl⟩:=o
  exact oo y z
 rfl
def FH(h:ab)(z:Int)(b:ab.sml h)(c:dd (ee z) h.M = -1):zzA 28 false [.val (some 24) (ab.enc .V h),.val none [I z]] (.tup [none,none]) [.s .own [],B false]:=by
 have d:h.M.length<=1048576:=b.2.2.2.2.1.1;have a:=jG h.M (ee z) ω;rw[c]at a;refine fO 32 [(4,13,[18,19,20,21,22,23,24,25,26,27,28,29,30])] Tryz.func28 rfl ?_ (.inr ⟨⟨.inl λh=>(by cases h),trivial⟩,trivial,trivial⟩)
 repeat'((conv=>whnf);first|with_reducible (first|refine Lm ?_|refine Wm ω ?_|refine dT ω (λg=>?_)|refine Bn ?_|refine jU.wk rfl ?_)|refine Bt ?_|refine Bu ?_|refine Cq.mk (xI (some 4) (aY.enc .V) (ee z) h.M) (oo default z).has (λL k rcs e=>?_) ?_|refine C8 (a) ?_)
 ·obtain⟨y,-,rfl,rfl,rfl⟩:=e
  exact oo y z
 exact⟨rfl,rfl,trivial⟩
def or64{z1 z2:Int}(h1:0<=z1/\z1<=65535)(a:0<=z2/\z2<=65535):IntKind.i64.wrap ((BitVec.ofInt IntKind.i64.bits z1 ||| BitVec.ofInt IntKind.i64.bits z2).toNat:Nat)=bor z1 z2:=by
 rw[BitVec.toNat_or,pQ ω,pQ ω];have b:=NH h1 a;unfold bor at b |-;exact fo ω ω
def yR(h:ab)(i:Nat)(n:d6 h.K)(d:zR h)(a:∀s∈h.K,bi s=true)(y:i<h.K.length):zzA 479 false [.val (some 24) (ab.enc .V h),.val none [I (i:Nat)]] .one [I (ig h i)]:=by
 have F:=n.1;have G:=ao y;have g:=we a y;have B:=aH ((i:Nat):Int) 0 ((h.K.length:Int) - 1);rw[O0 (show(0:Int)<=(i:Nat)/\((i:Nat):Int)<=(h.K.length:Int) - 1 by omega)]at B;have C:=ij h (nth h.K i).Q d;have o:=gX h (nth h.K i).Q;have H:fe h<=1048576:=d.1;have c:ig h i=kE h.K (aV h (nth h.K i).Q) (nth h.K i).b1 (aV h (nth h.K i).Q).length:=rfl;obtain⟨ps,q⟩ : ∃ps,aV h (nth h.K i).Q=ps:=⟨_,rfl⟩
 obtain⟨b,r⟩ : ∃b,(nth h.K i).b1=b:=⟨_,rfl⟩
 rw[q]at C o c;rw[r]at c g;rw[c];have J:kE h.K ps b 0=b:=rfl;refine fO 63 [(4,7,[22,23,24,25,26,27,28]),(11,10,[43,44,45,46,47,48,49,50,51,52])] Tryz.func479 rfl ?_
 repeat'(first|refine gP ?_|(conv=>whnf);first|with_reducible refine CD (aa G) ?_|refine C8 (B) ?_|refine C8 (C) ?_)
 (conv=>whnf)
 refine CG (ι:=Nat) (λu=>[(2,.H .box (ab.enc .V h)),(5,.H .one [I (kE h.K ps b u)]),(6,.H .one (aF .own ps)),(7,.H .one [I ((u:Nat):Int)])]) (λu=>u<=ps.length) (λu=>ps.length - u) (0) ?_ (W0 _) λu M=>?_
 ·exact wB
 by_cases K:u<ps.length
 ·have l:=ao K
  have t:=rY a (ps:=ps) g u
  repeat'(first|refine gE ?_|fail)
  (conv=>whnf)
  refine CG (ι:=Nat) (λj=>[(2,.H .box (ab.enc .V h)),(5,.H .one [I (ta h.K (nth ps u) (kE h.K ps b u) j)]),(6,.H .one (aF .own ps)),(7,.H .one [I ((u:Nat):Int)]),(8,.H .one [I ((j:Nat):Int)])]) (λj=>j<=h.K.length) (λj=>h.K.length - j) (0) ?_ (W0 _) λj L=>?_
  ·exact wB
  by_cases D:j<h.K.length
  ·have E:=ao D
   have w:=wg a (p:=nth ps u) t j L;by_cases e:(nth h.K j).Q=nth ps u
   ·have k:ta h.K (nth ps u) (kE h.K ps b u) (j+1)=bor (ta h.K (nth ps u) (kE h.K ps b u) j) (nth h.K j).b1:=CC e
    repeat'(first|refine gB ?_|(conv=>whnf);first|with_reducible (first|refine CD (aa l) ?_|refine CD (aa E) ?_)|refine CH rfl (aa l) rfl ?_|refine CM (or64 w (we a D)) ?_)
    ((conv=>whnf);refine CE (j+1) ω ω ?_;(exact wB))
   have k:ta h.K (nth ps u) (kE h.K ps b u) (j+1)=ta h.K (nth ps u) (kE h.K ps b u) j:=C9 e
   repeat'(first|refine gB ?_|(conv=>whnf);first|with_reducible (first|refine CD (aa l) ?_|refine CD (aa E) ?_)|refine CH rfl (aa l) rfl ?_)
   ((conv=>whnf);refine CE (j+1) ω ω ?_;(exact wB))
  obtain rfl:j=h.K.length:=ω
  repeat'(first|refine gE ?_|fail)
  ((conv=>whnf);refine CE (u+1) ω ω ?_;(exact wB))
 obtain rfl:u=ps.length:=ω
 repeat'(first|refine gE ?_|fail)
 rfl
def tw{xs:List aY}(h:∀o∈xs,0<=o.o/\o.o<=1000):∀k:Nat,k<=xs.length->0<=um xs k/\um xs k<=1000*k
 | 0,_=>⟨v5 _,v5 _⟩
 | k+1,a=>by
  have b:=tw h k ω;have c:=h _ (am (xs:=xs) (i:=k) ω);simp only[um];omega
def xl(h:ab)(a:∀o∈h.M,0<=o.o/\o.o<=1000)(e:h.M.length<=1048576):zzA 19 false [.val (some 24) (ab.enc .V h)] .one [I (tP h)]:=by
 refine fO 21 [] Tryz.func19 rfl ?_
 repeat'(first|refine gP ?_|fail)
 (conv=>whnf)
 refine CG (ι:=Nat) (λk=>[(1,.H .box (ab.enc .V h)),(3,.H .one [I (um h.M k)]),(4,.H .one [I ((k:Nat):Int)])]) (λk=>k<=h.M.length) (λk=>h.M.length - k) (0) ?_ (W0 _) λk c=>?_
 ·exact wB
 have g:=tw a k c;by_cases b:k<h.M.length
 ·have d:=ao b
  have i:=a _ (am b)
  repeat'(first|refine gE ?_|(conv=>whnf);first|refine CD (aa d) ?_)
  ((conv=>whnf);refine CE (k+1) ω ω ?_;(exact wB))
 obtain rfl:k=h.M.length:=ω
 repeat'(first|refine gE ?_|fail)
 rfl
def yA(k b:Int)(h:b<=9223372036854775807):zzA 478 false [.val none [I (slots k)],.val none [I b]] .one (aF .own (qU k b)):=by
 have c:=qw k b;have p:0<=slots k/\slots k<=16:=by unfold slots;repeat' split<;>omega
 unfold qU;cases e:Mr k b<;>rw[e]at c
 ·rw[C9 (by simp)]
  refine fO 27 [] Tryz.func478 rfl ?_ (.inr (bM _))
  repeat'(first|refine gP ?_|fail)
  (conv=>whnf)
  refine CG (ι:=Nat) (λj=>[(0,.H .one [I (slots k)]),(1,.H .one [I (b)]),(5,.H .one (aF .own [])),(6,.H .one [I ((j:Nat):Int)])]) (λj=>j=0) (λj=>1 - j) (0) ?_ (rfl) λj g=>?_
  ·exact wB
  subst g
  repeat'(first|refine gE ?_|(conv=>whnf);first|with_reducible refine Bf.D (λi=>?_) (λi=>?_)|refine C8 (c) ?_)
  all_goals rfl
 rw[CC rfl];refine fO 27 [] Tryz.func478 rfl ?_ (.inr (bM _))
 repeat'(first|refine gP ?_|fail)
 (conv=>whnf)
 refine CG (ι:=Nat) (λj=>[(0,.H .one [I (slots k)]),(1,.H .one [I (b)]),(5,.H .one (aF .own (pp b j))),(6,.H .one [I ((j:Nat):Int)])]) (λj=>j<=(slots k).toNat) (λj=>(slots k).toNat - j) (0) ?_ (W0 _) λj g=>?_
 ·exact wB
 have l:=u7 b j;by_cases q:j<(slots k).toNat
 ·have d:=iN b (j:Nat) h
  have a:pp b (j+1)=if aW b (j:Nat)=true then pp b j else pp b j++[((j:Nat):Int)]:=rfl
  cases n:aW b (j:Nat)<;>rw[n]at d a
  ·rw[C9 (by simp)]at a
   repeat'(first|refine gE ?_|(conv=>whnf);first|refine C8 (c) ?_|refine C8 (d) ?_|refine CU cA (λr o=>by rw[O1.1 o];rfl) (by simp[bm,eH]) (by simp;omega) (by simp only[C1];exact yV (by simp;omega) (by decide)) rfl ?_)
   ((conv=>whnf);refine CE (j+1) ω ω ?_)
   rw[a]
   repeat'(first|exact trivial|rfl|exact CL rfl (CL (X0 (C.s dJ.own) (by simp[rI])) trivial)|refine CL ?_ ?_|(exact A7 (by first|omega|(simp only;omega)|(simp;omega))))
  rw[CC rfl]at a
  repeat'(first|refine gE ?_|(conv=>whnf);first|refine C8 (c) ?_|refine C8 (d) ?_)
  ((conv=>whnf);refine CE (j+1) ω ω ?_)
  rw[a];exact wB
 obtain rfl:j=(slots k).toNat:=ω
 repeat'(first|refine gE ?_|fail)
 rfl
def Kz(b i:Int):bor b (2 ^ i.toNat)=gV b i:=by
 unfold bor gV;have:((2 ^ i.toNat:Nat):Int)=(2:Int) ^ i.toNat:=Int.natCast_pow 2 i.toNat;rw[<-this,Z2]
def zN(b i:Int)(d:0<=b/\b<=65535)(a:0<=i/\i<=15):zzA 481 false [.val none [I b],.val none [I i]] .one [I (gV b i)]:=by
 have c:=pZ b i;rw[O0 ω]at c;have e:IntKind.u64.wrap i=i:=by unfold IntKind.wrap;simp[IntKind.signed,IntKind.bits];omega
 have h:=(shl64 a).2;have g:=(or64 (z1:=b) (z2:=2 ^ i.toNat) d ω).trans (Kz b i);refine fO 15 [] Tryz.func481 rfl ?_
 repeat'(first|refine gP ?_|(conv=>whnf);first|refine C8 (c) ?_|refine CO ω ?_|refine CM e ?_|refine CM (shl64 a).1 ?_|refine CM g ?_)
 rfl
def MM{s:ax}(b:bi s=true){k:Int}(d:0<=k/\k<slots s.d):0<=k*csz s.d/\k*csz s.d<=15:=by
 have a:=aE b;have c:=gI a.2.2;rcases bW a.2.2 with e|e|e|e<;>rw[e]at c |-<;>omega
def zc(s:ax)(k:Int)(a:bi s=true)(d:0<=k/\k<slots s.d):zzA 482 false [.val (some 3) (ax.enc .V s),.val none [I k]] .one [I (16*s.Q+k*csz s.d)]:=by
 have e:=aE a;have i:=MM a d;have j:=gI e.2.2;have b:=gv s;rw[a]at b;have g:=nv s.d;have c:=aH k 0 (slots s.d - 1);rw[O0 ω]at c;have h:=ed s.d;refine fO 26 [(3,8,[17,18,19,20,21,22,23,24])] Tryz.func482 rfl ?_
 repeat'(first|refine gP ?_|(conv=>whnf);first|refine C8 (b) ?_|refine C8 (g) ?_|refine C8 (c) ?_|refine C8 (h) ?_|refine CB ?_)
 exact X0 (λz=>[I z]) ω
def BA(f:bf)(g:f.a9.length<=1048576):zzA 483 false [.val (some 2) (bf.enc .V f)] .one [I (dd (λu=>!u) f.a9)]:=by
 refine fO 18 [] Tryz.func483 rfl ?_
 repeat'(first|refine gP ?_|fail)
 (conv=>whnf)
 refine CG (ι:=Nat) (λi=>[(1,.H .box (bf.enc .V f)),(3,.H .one [I ((i:Nat):Int)])]) (λi=>i<=f.a9.length/\∀(j:Nat)(z:Bool),j<i->f.a9[j]? = some z->(!z)=false) (λi=>f.a9.length - i) (0) ?_ (⟨W0 _,λj z h=>ω⟩) λi c=>?_
 ·exact wB
 obtain⟨c,b⟩:=c;by_cases d:i<f.a9.length
 ·have a:=ao d
  cases e:nth f.a9 i<;>rw[e]at a
  ·repeat'(first|refine gE ?_|(conv=>whnf);first|with_reducible refine CD (aa a) ?_)
   exact X0 (λz=>[I z]) (dP a rfl b).symm
  repeat'(first|refine gE ?_|(conv=>whnf);first|with_reducible refine CD (aa a) ?_)
  ((conv=>whnf);refine CE (i+1) ⟨ω,gw a rfl b⟩ ω ?_;(exact wB))
 repeat'(first|refine gE ?_|fail)
 exact X0 (λz=>[I z]) (g9 ω b).symm
def nR(m:aJ):∀(n i:Nat),i<n->((nth m.T i).length:Int)+(nth m.y i).length<=br m n/\0<=br m n
 | 0,i,h=>absurd h (Nat.not_lt_zero i)
 | n+1,i,h=>by
  have a:0<=br m n:=by
   cases n with
   | zero=>exact v5 _
   | succ k=>exact(nR m (k+1) 0 ω).2
  simp only[br];by_cases e:i=n
  ·subst e;omega
  have:=(nR m n i ω).1;omega
structure kB(m:aJ):Prop where
 b4:1<=m.T.length/\m.T.length<=4
 i4:m.y.length=m.T.length
 bl:∀i,i<m.T.length->(nth m.T i).length<=30
 il:∀i,i<m.T.length->(nth m.y i).length<=30
def kB.of{m:aJ}(h:bu m=true):kB m:=by
 obtain⟨⟨b,c,d⟩,-,e⟩:=df.1 h;exact⟨⟨b,c⟩,d,λi a=>by have:=(nR m m.T.length i a).1;omega,λi a=>by have:=(nR m m.T.length i a).1;omega⟩
def kB.sml{m:aJ}(h:kB m):aJ.sml m:=by
 have c:=h.b4;have d:=h.i4;refine⟨⟨ω,λl a=>?_⟩,⟨ω,λl a=>?_⟩⟩
 ·obtain⟨i,b,rfl⟩:=aM a
  have:=h.bl i b;exact⟨ω,λ_ _=>trivial⟩
 obtain⟨i,b,rfl⟩:=aM a;have:=h.il i ω;show(nth m.y i).length<=1048576;omega
def rR(m:aJ)(k:Int)(a:aJ.sml m):zzA 520 false [.val (some 2) (aJ.enc .V m),.val none [I k]] .one [B (bu m&&decide (0<=k/\k<=m.T.length - 1))]:=by
 have b:=lQ m a;have c:m.T.length<=1048576:=a.1.1;cases e:bu m<;>rw[e]at b
 all_goals
  refine fO 15 [] Tryz.func520 rfl ?_
  repeat'(first|refine gP ?_|(conv=>whnf);first|refine CB ?_|refine C8 (b) ?_|refine C8 (aH k 0 (m.T.length - 1:Int)) ?_)
  all_goals rfl
def R5{m:aJ}(a:f<m.T.length):m.T[f]? = some (nth m.T f):=ao a
def tY(m:aJ)(f:Nat)(p:de):aJ.enc .own (dQ m f p)=[.s .own ((m.T.map (cb .own)).set f (cb .own (nth m.T f++[p]))),.s .own (m.y.map (aF .own))]:=by simp[aJ.enc,dQ,I6]
def zU{m:aJ}(h:kB m)(c:f<m.T.length)(p:de):aJ.sml (dQ m f p):=by
 have d:=h.b4;have b:=h.sml;refine⟨⟨by simp only[dQ,U1];omega,λl a=>?_⟩,b.2⟩;rcases V6 a with a|rfl
 ·exact b.1.2 l a
 have:=h.bl f c;exact⟨by simp;omega,λ_ _=>trivial⟩
def Lf(m:aJ)(f:Nat)(p:de)(j:bu m=true)(g:f<m.T.length):zzA 512 false [.val (some 2) (aJ.enc .V m),.val none [I (f:Nat)],.val (some 2) (de.enc .V p)] (.tup [some 2,none]) (aJ.enc .own (if bu (dQ m f p)=true then dQ m f p else m)++[B (bu (dQ m f p))]):=by
 have c:=kB.of j;have k:=c.sml;have q:=c.b4;have h:=rR m f k;rw[j,O0 ω]at h;have l:=fT m k;have b:=zU c g p;have i:=lQ (dQ m f p) b;have n:=fT (dQ m f p) b;have a:=R5 g;have o:=c.bl f g;have d:=aJ.enc_fz (dQ m f p);rw[tY]at d;cases e:bu (dQ m f p)<;>rw[e]at i
 ·rw[C9 (by simp)]
  refine fO 35 [(4,267,[16,17,18,19,20,21,22,23,24,25,27,0,1,2,3,4,5,6,7,8,9,10,1000,1001,1002,11,12])] Tryz.func512 rfl ?_ (.inr (aQ (Cf _) ⟨trivial,trivial⟩))
  repeat'(first|refine gP ?_|(conv=>whnf);first|with_reducible refine CD (aa a) ?_|refine CB ?_|refine CD (dC a) ?_|refine CH rfl (dC a) rfl ?_|refine C8 (h) ?_|refine C8 (l) ?_|refine Lq.one rfl rfl (aa a) rfl (I1 rfl) rfl rfl ?_|refine CH rfl (aa a) rfl ?_|refine CP rfl rfl (dC a) rfl (I1 rfl) (show [C.s dJ.own ((m.T.map (cb .own)).set f (cb .own (nth m.T f++[p]))),C.s .own (m.y.map (aF .own))]=_ from by simp only[List.set_cons_zero,List.set_set,Z2];rfl) ?_|refine CY (aL λ_=>rfl) rfl (by simp;omega) (by decide) (fp _ _ _) ?_|refine CF (i) ⟨⟨rfl,d⟩,trivial⟩ ?_)
  rfl
 rw[CC rfl];refine fO 35 [(4,267,[16,17,18,19,20,21,22,23,24,25,27,0,1,2,3,4,5,6,7,8,9,10,1000,1001,1002,11,12])] Tryz.func512 rfl ?_ (.inr (aQ (Cf _) ⟨trivial,trivial⟩))
 repeat'(first|refine gP ?_|(conv=>whnf);first|with_reducible refine CD (aa a) ?_|refine CB ?_|refine CD (dC a) ?_|refine CH rfl (dC a) rfl ?_|refine C8 (h) ?_|refine C8 (l) ?_|refine Lq.one rfl rfl (aa a) rfl (I1 rfl) rfl rfl ?_|refine CH rfl (aa a) rfl ?_|refine CP rfl rfl (dC a) rfl (I1 rfl) (show [C.s dJ.own ((m.T.map (cb .own)).set f (cb .own (nth m.T f++[p]))),C.s .own (m.y.map (aF .own))]=_ from by simp only[List.set_cons_zero,List.set_set,Z2];rfl) ?_|refine CY (aL λ_=>rfl) rfl (by simp;omega) (by decide) (fp _ _ _) ?_|refine CF (i) ⟨⟨rfl,d⟩,trivial⟩ ?_|refine CF (n) ⟨⟨rfl,d⟩,trivial⟩ ?_)
 rfl
def GU(m:aJ)(f:Int)(a:bu m=true)(d:¬(0<=f/\f<=m.T.length - 1)):zzA 422 false [.val (some 2) (aJ.enc .V m),.val none [I f]] (.tup [some 2,none]) (aJ.enc .own m++[B false]):=by
 have e:=kB.of a;have b:=e.sml;have c:=rR m f b;rw[a,U0 d]at c;have g:=fT m b;refine fO 60 [(5,267,[31,32,33,34,35,36,37,38,39,40,42,0,1,2,3,4,5,6,7,8,9,10,1000,1001,1002,11,12]),(6,270,[43,44,45,46,47,48,49,50,51,52,53,54,55,57,0,1,2,3,4,5,6,7,8,9,10,11,12,13,1000,1001,1002,1003,14,15])] Tryz.func422 rfl ?_ (.inr (aQ (Cf _) ⟨trivial,trivial⟩))
 repeat'(first|refine gP ?_|(conv=>whnf);first|refine CB ?_|refine C8 (c) ?_|refine C8 (g) ?_)
 rfl
def Hi(m:aJ)(f t:Nat)(a:(nth (nth m.T f) 0).To=t):aJ.enc .own (fS m f)=[.s .own ((m.T.map (cb .own)).set f [.s .own (((nth m.T f).drop 1).map (de.enc .V))]),.s .own ((m.y.map (aF .own)).set t (aF .own (nth m.y t++[(nth (nth m.T f) 0).Addr])))]:=by
 unfold aJ.enc fS;simp only[I6,a,Z2]
 rfl
def Fe(m:aJ)(f:Nat)(h:bu m=true)(i:f<m.T.length):zzA 422 false [.val (some 2) (aJ.enc .V m),.val none [I (f:Nat)]] (.tup [some 2,none]) (aJ.enc .own (if 0<(nth m.T f).length then fS m f else m)++[B (decide (0<(nth m.T f).length))]):=by
 have d:=kB.of h;have u:=d.sml;have K:=d.b4;have D:=d.i4;have j:=rR m f u;rw[h,O0 ω]at j;have w:=fT m u;have a:=R5 i;have F:=d.bl f i;by_cases e:0<(nth m.T f).length
 ·rw[CC e,O0 e]
  have g:=((df.1 h).2.1 f i).1 _ (am e);obtain⟨t,k⟩:=z3 g.1;have l:t<m.y.length:=ω
  have y:=ao e;have c:=ao l;have G:=d.il t ω;have n:=(kB.of (Gn h i e)).sml;have H:=fT (fS m f) n;have o:=aJ.enc_fz (fS m f);rw[Hi m f t k]at o;have q:=aQ (b:=[B true]) (Cf (fS m f)) ⟨trivial,trivial⟩;generalize L:nth (nth m.T f) 0=p at *;obtain⟨M,J⟩:=p;simp only at k g o;subst k;refine fO 60 [(5,267,[31,32,33,34,35,36,37,38,39,40,42,0,1,2,3,4,5,6,7,8,9,10,1000,1001,1002,11,12]),(6,270,[43,44,45,46,47,48,49,50,51,52,53,54,55,57,0,1,2,3,4,5,6,7,8,9,10,11,12,13,1000,1001,1002,1003,14,15])] Tryz.func422 rfl ?_ (.inr q)
  repeat'(first|refine gB ?_|(conv=>whnf);first|with_reducible (first|refine CD (aa a) ?_|refine CD (aa c) ?_|refine Bf.E (λr=>?_) (λr=>?_))|refine CB ?_|refine CN (by decide) (aa y) ?_|refine CD (dC a) ?_|refine CD (dC c) ?_|refine CH rfl (dC a) rfl ?_|refine CH rfl (dC c) rfl ?_|refine C8 (j) ?_|refine C8 (w) ?_|refine CH rfl (aa a) rfl ?_|refine CH rfl (aa c) rfl ?_|refine CH rfl (aa y) rfl ?_|refine Lq.one rfl rfl (aa c) rfl (I1 rfl) rfl rfl ?_|refine Ca 1 rfl (by rw[C1];omega) (aL λ_=>rfl) I4 ?_|refine CV (λ_=>rfl) (λ_=>rfl) (by rw[V3];omega) (by decide) ?_|refine CQ (λ_=>rfl) (λ_=>rfl) (by rw[V3];omega) (by decide) ?_|refine CP rfl rfl (aa a) rfl (I1 rfl) rfl ?_|refine CP rfl rfl (dC c) rfl (I1 rfl) (show [C.s dJ.own ((m.T.map (cb .own)).set f [.s .own (((nth m.T f).drop 1).map (de.enc .V))]),C.s .own ((m.y.map (aF .own)).set t (aF .own (nth m.y t++[J])))]=_ from by simp only[List.set_cons_zero,List.set_cons_succ,List.set_set,Z2];rfl) ?_|refine CY (aL λ_=>rfl) rfl (by simp;omega) (by decide) (fp _ _ _) ?_|refine CB ?_|refine CF (H) ⟨⟨rfl,o⟩,trivial⟩ ?_)
  rfl
 rw[C9 e,U0 e];refine fO 60 [(5,267,[31,32,33,34,35,36,37,38,39,40,42,0,1,2,3,4,5,6,7,8,9,10,1000,1001,1002,11,12]),(6,270,[43,44,45,46,47,48,49,50,51,52,53,54,55,57,0,1,2,3,4,5,6,7,8,9,10,11,12,13,1000,1001,1002,1003,14,15])] Tryz.func422 rfl ?_ (.inr (aQ (Cf _) ⟨trivial,trivial⟩))
 repeat'(first|refine gB ?_|(conv=>whnf);first|with_reducible (first|refine CD (aa a) ?_|refine Bf.E (λr=>?_) (λr=>?_))|refine CB ?_|refine C8 (j) ?_|refine C8 (w) ?_|refine CH rfl (aa a) rfl ?_)
 rfl
def L8.set(rows:List (List C))(i:Nat){r n:List C}(h:Mt r n):L8 (.s .own (rows.set i r)) (.s .own (rows.set i n)):=by
 refine .own_ _ _ (by simp) (λj a b d f=>?_) (λj l a b c p d f o g=>?_)
 ·by_cases e:i=j
  ·subst e
   have k:i<rows.length:=by have:=(U2.1 d).1;simpa using this
   rw[X3 k]at d f;cases d;cases f;exact h.1
  rw[List.getElem?_set_ne e]at d f;rw[d]at f;cases f;rfl
 by_cases e:i=j
 ·subst e
  have k:i<rows.length:=by have:=(U2.1 d).1;simpa using this
  rw[X3 k]at d f;cases d;cases f;exact h.2 l c p o g
 rw[List.getElem?_set_ne e]at d f;rw[d]at f;cases f;rw[o]at g;cases g;exact .rfl_ _
def BX(m:aJ)(t:Nat)(d:bu m=true)(h:t<m.T.length):zzA 521 false [.val (some 2) (aJ.enc .V m),.val none [I (t:Nat)]] (.tup [some 2,none]) (aJ.enc .own (lI m t)++aF .own (nth m.y t)):=by
 have b:=kB.of d;have e:=b.sml;have o:=b.b4;have j:=b.i4;have g:=rR m t e;rw[d,O0 ω]at g;have k:=fT m e;have c:=ao (xs:=m.y) (i:=t) ω;have l:=b.il t h;have a:=aQ (Cf (lI m t)) (bM (nth m.y t));have n:aJ.enc .own (lI m t)=[.s .own (m.T.map (cb .own)),.s .own ((m.y.map (aF .own)).set t [.s .own []])]:=by simp[aJ.enc,lI,I6];rfl
 rw[n]at a |-;refine fO 28 [(5,263,[20,21,22,23,24,25,26,0,1,2,3,4,5,6,7,1000,8,9])] Tryz.func521 rfl ?_ (.inr a)
 repeat'((conv=>whnf);first|with_reducible (first|refine Lm ?_|refine Wm ω ?_|refine CD (aa c) ?_|refine Bn ?_|refine jU.dk rfl ?_)|refine Bt ?_|refine Bu ?_|refine CB ?_|refine C8 (g) ?_|refine C8 (k) ?_|refine CH rfl (aa c) rfl ?_|refine CP rfl rfl (aa c) rfl (I1 rfl) rfl ?_|refine CV (λ_=>rfl) (λ_=>rfl) ω (by decide) ?_|refine CQ (λ_=>rfl) (λ_=>rfl) ω (by decide) ?_|refine CB ?_)
 exact .cons (.rfl_ _) (.cons (L8.set _ _ (.cons .z_ .nil)) (.cons (.rfl_ _) .nil))
def HV(now:Int):∀{l:List aO}{i:Nat},i<=l.length->(∀j,j<i->(nth l j).b6<now - 100)->(i<l.length->¬(nth l i).b6<now - 100)->rX now l=i
 | [],i,h,_,_=>by simp at h;subst h;rfl
 | x::xs,0,_,_,h=>by
  unfold rX;exact C9 (h (by simp))
 | x::xs,i+1,b,a,c=>by
  unfold rX;refine(CC (a 0 ω)).trans ?_;rw[HV now (l:=xs) (i:=i) (by simp at b;omega) (λj d=>a (j+1) ω) (λe=>c (by simp;omega))]
def PZ(q:b8)(now:Int):List C:=b8.enc .own ⟨q.c0,q.a1.drop (rX now q.a1)⟩++cB .own (q.a1.take (rX now q.a1))
def vQ(q:b8)(now:Int)(g:fR q=true)(G:q.a1.length<=4096)(u:0<=now/\now<=1000000):zzA 425 false [.val (some 2) (b8.enc .V q),.val none [I now],.val none [I 100]] (.tup [some 2,none]) (PZ q now):=by
 have w:b8.sml q:=⟨ω,λ_ _=>trivial⟩
 have n:=pi q w;rw[g]at n;have o:=aH now 0 1000000;rw[O0 u]at o;have p:=aH 100 0 1000000;rw[O0 (by decide)]at p;have h:=(iW.1 g).1;have a:gW (PZ q now):=aQ (b8.enc_fr _) (oT _);have y:∀i,i<q.a1.length->0<=(nth q.a1 i).b6:=λi b=>(h _ (am b)).2.2.2
 unfold PZ at a |-;generalize B:rX now q.a1=k at a |-;refine fO 59 [(6,270,[44,45,46,47,48,49,50,51,53,54,55,56,57,58,0,1,2,3,4,5,6,7,9,10,11,12,13,14,8,1009,1010,1011,1012,1013,1014,15,16])] Tryz.func425 rfl ?_ (.inr a)
 repeat'(first|refine gP ?_|(conv=>whnf);first|refine CB ?_|refine C8 (n) ?_|refine C8 (o) ?_|refine C8 (p) ?_)
 (conv=>whnf)
 refine CG (ι:=Nat) (λi=>[(1,.H .one [I (now)]),(2,.H .one [I (100)]),(3,.H .box (b8.enc .V q)),(6,.H .box [I 0,.z]),(8,.H .one [I ((i:Nat):Int)])]) (λi=>i<=q.a1.length/\∀j,j<i->(nth q.a1 j).b6<now - 100) (λi=>q.a1.length - i) (0) ?_ (⟨W0 _,λj C=>ω⟩) λi b=>?_
 ·exact wC
 obtain⟨b,r⟩:=b;by_cases l:i<q.a1.length/\(nth q.a1 i).b6<now - 100
 ·have c:=ao l.1
  repeat'(first|refine gE ?_|(conv=>whnf);first|with_reducible refine CD (aa c) ?_|refine CB ?_|refine CH rfl (aa c) rfl ?_)
  ((conv=>whnf);refine CE (i+1) ⟨ω,λj C=>by by_cases e:j=i;(subst e;exact l.2);exact r j ω⟩ ω ?_;(exact wC))
 have d:=HV now (i:=i) b r (λE F=>l ⟨E,F⟩);rw[B]at d;subst d;by_cases t:k<q.a1.length
 ·have c:=ao t
  have:=y k t
  repeat'(first|refine gE ?_|(conv=>whnf);first|with_reducible (first|refine CD (aa c) ?_|refine Bf.D (λg=>?_) (λg=>?_))|refine CB ?_|refine CH rfl (aa c) rfl ?_|refine CX k rfl (by rw[C1];omega) (aL λ_=>rfl) C4 ?_|refine Ca k rfl (by rw[C1];omega) (aL λ_=>rfl) I4 ?_|refine CV (λ_=>rfl) (λ_=>rfl) (by rw[V1];omega) (by decide) ?_|refine CV (λ_=>rfl) (λ_=>rfl) (by rw[V3];omega) (by decide) ?_|refine CQ (λ_=>rfl) (λ_=>rfl) (by rw[V3];omega) (by decide) ?_|refine CB ?_)
  rfl
 repeat'(first|refine gE ?_|(conv=>whnf);first|refine CB ?_|refine CX k rfl (by rw[C1];omega) (aL λ_=>rfl) C4 ?_|refine Ca k rfl (by rw[C1];omega) (aL λ_=>rfl) I4 ?_|refine CV (λ_=>rfl) (λ_=>rfl) (by rw[V1];omega) (by decide) ?_|refine CV (λ_=>rfl) (λ_=>rfl) (by rw[V3];omega) (by decide) ?_|refine CQ (λ_=>rfl) (λ_=>rfl) (by rw[V3];omega) (by decide) ?_|refine CB ?_)
 rfl
def BT(h:ab)(n:Int)(g:aT h [])(r:0<=n/\n<=1000)(p:h.b3+n<=1000000):zzB 278 false [.ptr (bA h),.val none [I n]] [.ptr (bA (tick h n)),.val none [I n]] .one [I ((oh h n).length:Nat)]:=by
 have a:=g.nums;unfold cr at a;rw[C0]at a;have t:=g.lens.quar;have i:=vQ h.a6 (h.b3+n) g.quar ω ⟨ω,p⟩;have j:=g.aged r.1 p;unfold PZ at i;unfold tick oh aged at *;have l:(h.a6.a1.take (rX (h.b3+n) h.a6.a1)).length<=4096:=by rw[V1];omega
 rw[C1];generalize h.a6.a1.take (rX (h.b3+n) h.a6.a1)=out at i j l |-;generalize h.a6.a1.drop (rX (h.b3+n) h.a6.a1)=rest at i j |-;refine fM 48 [(426,[2,0])] [(2,269,[18,19,20,21,22,23,24,25,26,17,27,28,5,0,1,2,3,4,5,6,7,8,9,10,11,12,13,1011,14])] [(0,0),(0,0)] Tryz.func278 rfl (λu q=>?_)
 repeat'(first|refine gP ?_|(conv=>whnf);first|refine CB ?_|refine CF (i) ⟨⟨rfl,b8.enc_fz h.a6⟩,⟨rfl,rfl⟩,⟨rfl,rfl⟩,trivial⟩ ?_|refine CB ?_)
 (conv=>whnf)
 refine CG (ι:=Nat) (λk=>[(0,.H .box (bA (freeAs {h with b3:=h.b3+n,a6:=⟨h.a6.c0,rest⟩} ((out.map (·.Addr)).take k)))),(6,.H .one (cB .own out)),(7,.H .one [I ((k:Nat):Int)])]) (λk=>k<=out.length) (λk=>out.length - k) (0) ?_ (W0 _) λk y=>?_
 ·exact wC
 by_cases o:k<out.length
 ·have b:=ao o
  have c:k<(out.map (·.Addr)).length:=by rw[C1];exact o
  have d:nth (out.map (·.Addr)) k=(nth out k).Addr:=bg (by rw[O3,ao o];rfl);have e:aT (freeAs {h with b3:=h.b3+n,a6:=⟨h.a6.c0,rest⟩} ((out.map (·.Addr)).take k)) (nth (out.map (·.Addr)) k::(out.map (·.Addr)).drop (k+1)):=by
   refine aT.freeAs ?_;rw[<-gt c,List.take_append_drop];rw[List.append_nil]at j;exact j
  rw[d]at e;have w:=nY _ _ _ e
  repeat'(first|refine gE ?_|(conv=>whnf);first|refine CB ?_|refine CD (aa b) ?_|refine CH rfl (aa b) rfl ?_|refine CK (w) (.inl rfl) ?_)
  ((conv=>whnf);refine CE (k+1) ω ω ?_)
  rw[uJ _ _ _ c,d];exact wC
 obtain rfl:k=out.length:=ω
 rw[I7 (by rw[C1];omega)]
 repeat'(first|refine gE ?_|(conv=>whnf);first|refine CB ?_)
 refine CJ rfl rfl ?_;exact wC
def EF(t:Nat)(h:ab)(az:List Int)(k:Nat)(a:k<az.length):recycs t h (az.take (k+1))=recyc t (recycs t h (az.take k)) (nth az k):=by
 unfold recycs;rw[V5,ao a,Option.toList_some,List.foldl_append];rfl
def vF(h:ab)(t:Nat)(a:aT h [])(i:t<h.S.length):zzB 423 false [.ptr (bA h),.val none [I (t:Nat)]] [.ptr (bA (collect h t)),.val none [I (t:Nat)]] .one [I ((nth h.w.y t).length:Nat)]:=by
 have l:=a.nc;have n:=(df.1 a.mail).1.2.2;have j:=BX h.w t a.mail ω;have c:=(kB.of a.mail).il t ω;have d:=a.coll (t:=t) ω;rw[List.append_nil]at d;unfold collect;generalize nth h.w.y t=out at j d c |-;refine fM 36 [(515,[2,0,0])] [] [(0,0),(0,0)] Tryz.func423 rfl (λu q=>?_)
 repeat'(first|refine gP ?_|(conv=>whnf);first|refine CB ?_|refine CF (j) ⟨⟨rfl,aJ.enc_fz h.w⟩,⟨rfl,rfl⟩,trivial⟩ ?_)
 (conv=>whnf)
 refine CG (ι:=Nat) (λk=>[(0,.H .box (bA (recycs t {h with w:=lI h.w t} (out.take k)))),(1,.H .one [I ((t:Nat):Int)]),(6,.H .one (aF .own out)),(7,.H .one [I ((k:Nat):Int)])]) (λk=>k<=out.length) (λk=>out.length - k) (0) ?_ (W0 _) λk p=>?_
 ·exact wC
 by_cases e:k<out.length
 ·have b:=ao e
  have g:aT (recycs t {h with w:=lI h.w t} (out.take k)) (nth out k::out.drop (k+1)):=by
   refine aT.recycs ?_ i;rw[<-gt e,List.take_append_drop];exact d
  have o:=ov _ _ t _ g (by rw[(dE t _ _).1];exact i)
  repeat'(first|refine gE ?_|(conv=>whnf);first|refine CB ?_|refine CD (aa b) ?_|refine CH rfl (aa b) rfl ?_|refine CK (o) (.inl rfl) ?_)
  ((conv=>whnf);refine CE (k+1) ω ω ?_)
  rw[EF _ _ _ _ e];exact wC
 obtain rfl:k=out.length:=ω
 rw[C5]
 repeat'(first|refine gE ?_|(conv=>whnf);first|refine CB ?_)
 refine CJ rfl rfl ?_;exact wC
def NJ(a:Int)(o:aY):Bool:=decide (o.Addr<=a/\a<o.Addr+o.o)
def GW(h:ab)(E:List Int)(a:Int)(d:aT h E):zzB 517 false [.ptr (bA h),.val none [I a]] [.ptr (bA h),.val none [I a]] .one [I (dd (NJ a) h.M)]:=by
 have r:=d.lens.objs;refine fM 47 [] [(4,29,[15,16,17,18,19,20,21,22,23,24,25,26,27,28,29,30,31,32,33,34,35,36,37,38,39,40,41,42,43])] [(0,0),(0,0)] Tryz.func517 rfl (λu q=>?_)
 repeat'(first|refine gP ?_|(conv=>whnf);first|refine CB ?_)
 (conv=>whnf)
 refine CG (ι:=Nat) (λi=>[(0,.H .box (bA h)),(1,.H .one [I (a)]),(5,.H .one [I ((i:Nat):Int)])]) (λi=>i<=h.M.length/\∀(j:Nat)(z:aY),j<i->h.M[j]? = some z->NJ a z=false) (λi=>h.M.length - i) (0) ?_ (⟨W0 _,λj z C=>ω⟩) λi d=>?_
 ·exact wC
 obtain⟨t,c⟩:=d;by_cases e:i<h.M.length
 ·have b:=ao e
  have w:=mG ‹aT h E› (am e);have y:0<=(nth h.M i).o/\(nth h.M i).o<=1000:=by
   rcases aT.oow ‹aT h E› _ (am e) with⟨s,B,F,G⟩|⟨l,g,k,o⟩
   ·have H:=aE ((aT.L ‹aT h E›).sok s B)
    have:=iq (n:=(nth h.M i).o) ω;omega
   have J:=cX ((aT.L ‹aT h E›).lok l g);omega
  by_cases k:(nth h.M i).Addr<=a
  ·by_cases o:a<(nth h.M i).Addr+(nth h.M i).o
   ·repeat'(first|refine gE ?_|(conv=>whnf);first|with_reducible refine CD (aa b) ?_|refine CB ?_|refine CH rfl (aa b) rfl ?_|refine CB ?_)
    refine CJ rfl (X0 (λz=>[I z]) (dP b (O0 ⟨k,o⟩) c).symm) ?_;exact wC
   repeat'(first|refine gE ?_|(conv=>whnf);first|with_reducible (first|refine CD (aa b) ?_|refine Bf.D (λp=>?_) (λp=>?_))|refine CB ?_|refine CH rfl (aa b) rfl ?_|refine CB ?_)
   ((conv=>whnf);refine CE (i+1) ⟨ω,gw b (U0 λx=>o x.2) c⟩ ω ?_;(exact wC))
  repeat'(first|refine gE ?_|(conv=>whnf);first|with_reducible (first|refine CD (aa b) ?_|refine Bf.D (λp=>?_) (λp=>?_))|refine CB ?_|refine CH rfl (aa b) rfl ?_|refine CB ?_)
  ((conv=>whnf);refine CE (i+1) ⟨ω,gw b (U0 λx=>k x.1) c⟩ ω ?_;(exact wC))
 repeat'(first|refine gE ?_|(conv=>whnf);first|refine CB ?_)
 refine CJ rfl (X0 (λz=>[I z]) (g9 ω c).symm) ?_;exact wC
def J2(h:ab)(a v:Int):bA {h with G:=dK h.G a v} = (bA h).set 0 (.s .own ((h.G.F.W.U.map (aF .own)).set (ac h.G.F.R (a / 16)).e.toNat ((aF .own (nth h.G.F.W.U (co h.G a))).set 0 (.s .own (((nth h.G.F.W.U (co h.G a)).map (rI .own)).set (a % 16).toNat (splice (rI .own (nth (nth h.G.F.W.U (co h.G a)) (a % 16).toNat)) 0 [I v])))))):=by
 simp[bA,dK,setCell,I6,aF,splice,co,rI]
def EQ{p:α->Bool}{xs:List α}{x:α}(a:x∈xs)(b:p x=true):0<=dd p xs:=by
 have:=pN p xs;rw[show xs.any p=true from t4.2 ⟨x,a,b⟩,C0]at this;exact this
def zq(h:ab)(i:Nat)(j v:Int)(e:aT h [])(C:i<h.M.length)(D:0<=j/\j<=(nth h.M i).o - 1):zzB 418 false [.ptr (bA h),.val none [I ((nth h.M i).Addr+j)],.val none [I v]]
  [.ptr (bA (if(ac h.G.F.R (((nth h.M i).Addr+j) / 16)).j=1\/¬(0<=v/\v<=999) then h else {h with G:=dK h.G ((nth h.M i).Addr+j) v})),.val none [I ((nth h.M i).Addr+j)],.val none [I v]] .one [I (if(ac h.G.F.R (((nth h.M i).Addr+j) / 16)).j=1 then 2 else if ¬(0<=v/\v<=999) then 3 else 0)]:=by
 obtain⟨E,J,K⟩:=cT e (am C) D;have F:0<=dd (NJ ((nth h.M i).Addr+j)) h.M:=EQ (am C) (O0 ω);have p:=GW h [] ((nth h.M i).Addr+j) e;have r:=bj e.ker;have t:=cz h.G.F.R (((nth h.M i).Addr+j) / 16) r.1.2;have n:=aH v 0 999;generalize L:(nth h.M i).Addr+j=a at *;have b:0<=a/\a<512:=ω
 obtain⟨-,-,-,G,M⟩:=bS e.ker E;have H:=(aX.1 (aD.1 e.ker).2.1).2.2.1;have k:co h.G a<h.G.F.W.U.length:=by unfold co;omega
 have d:h.G.F.W.U[(ac h.G.F.R (a / 16)).e.toNat]? = some (nth h.G.F.W.U (co h.G a)):=ao k;have w:=e.lens.row _ (am k);have l:=ao (xs:=nth h.G.F.W.U (co h.G a)) (i:=(a % 16).toNat) (by rw[w];omega);have B:a.tmod 16=a % 16:=eG b.1;refine fM 42 [(517,[2,0])] [(8,14,[27,28,29,30,31,32,33,34,35,36,37,38,39,40])] [(0,0),(0,0),(0,0)] Tryz.func418 rfl (λu q=>?_);by_cases o:(ac h.G.F.R (a / 16)).j=1
 ·rw[CC (Or.inl o),CC o]
  repeat'(first|refine gB ?_|(conv=>whnf);first|refine CB ?_|refine CK (p) (.inl rfl) ?_|refine CF (t) ⟨⟨rfl,CZ _⟩,⟨rfl,rfl⟩,trivial⟩ ?_|refine CO (by decide) ?_|refine CM (kD b) ?_)
  refine CJ rfl rfl ?_;exact wC
 rw[C9 (c:=_=(1:Int)) o];by_cases g:0<=v/\v<=999
 ·rw[O0 g]at n
  rw[C9 (c:=¬(0<=v/\v<=999)) (z4 g),C9 (c:=_\/¬(0<=v/\v<=999)) (λy=>y.elim o λy=>y g)]
  repeat'(first|refine gB ?_|(conv=>whnf);first|refine CB ?_|refine CK (p) (.inl rfl) ?_|refine CF (t) ⟨⟨rfl,CZ _⟩,⟨rfl,rfl⟩,trivial⟩ ?_|refine C8 (n) ?_|refine CO (by decide) ?_|refine CM (kD b) ?_|refine CR B ?_|refine CN G (aa d) ?_|refine CH rfl (aa d) rfl ?_|refine CN ω (aa l) ?_|refine Pu.two rfl rfl (aa d) rfl rfl rfl (aa l) rfl (I3 _) (J2 h a v) ?_|refine CB ?_)
  refine CJ rfl rfl ?_;exact wC
 rw[U0 g]at n;rw[CC (Or.inr g),CC g]
 repeat'(first|refine gB ?_|(conv=>whnf);first|refine CB ?_|refine CK (p) (.inl rfl) ?_|refine CF (t) ⟨⟨rfl,CZ _⟩,⟨rfl,rfl⟩,trivial⟩ ?_|refine C8 (n) ?_|refine CO (by decide) ?_|refine CM (kD b) ?_)
 refine CJ rfl rfl ?_;exact wC
def yv(l:ay)(n:Int):a7:=if(n+15) / 16<l.a2 then⟨l.Q+(n+15) / 16,l.a2 - (n+15) / 16⟩ else⟨0,0⟩
def yp(l:ay)(n:Int)(d:bH l=true):zzA 518 false [.val (some 3) (ay.enc .V l),.val none [I n]] (.tup [some 3,some 2,none]) (if 9<=n/\n<=l.o then ay.enc .own (trimL l n)++a7.enc .own (yv l n)++[B true] else ay.enc .own l++[I 0,I 0]++[B false]):=by
 have b:=nC l;rw[d]at b;have a:=aH n 9 l.o;have g:=d;unfold bH at g;rw[C0]at g;by_cases e:9<=n/\n<=l.o
 ·rw[O0 e]at a
  rw[CC e];have c:=m8 n;rw[show fG n=(n+15) / 16 by unfold fG;rw[CC ω]]at c;unfold yv;by_cases h:(n+15) / 16<l.a2
  ·rw[CC h]
   refine fO 43 [(7,261,[37,38,39,40,42,0,1,2,3,5,4,1005,6,1005,7,8])] Tryz.func518 rfl ?_ (.inr ⟨trivial,trivial,trivial,trivial,trivial,trivial,trivial⟩)
   repeat'(first|refine gE ?_|(conv=>whnf);first|refine CB ?_|refine C8 (b) ?_|refine C8 (a) ?_|refine C8 (c) ?_|refine CB ?_)
   rfl
  rw[C9 h];refine fO 43 [(7,261,[37,38,39,40,42,0,1,2,3,5,4,1005,6,1005,7,8])] Tryz.func518 rfl ?_ (.inr ⟨trivial,trivial,trivial,trivial,trivial,trivial,trivial⟩)
  repeat'(first|refine gE ?_|(conv=>whnf);first|refine CB ?_|refine C8 (b) ?_|refine C8 (a) ?_|refine C8 (c) ?_|refine CB ?_)
  rfl
 rw[U0 e]at a;rw[C9 e];refine fO 43 [(7,261,[37,38,39,40,42,0,1,2,3,5,4,1005,6,1005,7,8])] Tryz.func518 rfl ?_ (.inr ⟨trivial,trivial,trivial,trivial,trivial,trivial,trivial⟩)
 repeat'(first|refine gP ?_|(conv=>whnf);first|refine CB ?_|refine C8 (b) ?_|refine C8 (a) ?_|refine CB ?_)
 rfl
def BF(h:ab)(t a:Int)(c:h.S.length<=4)(d:¬(0<=t/\t<=h.S.length - 1)):zzB 416 false [.ptr (bA h),.val none [I t],.val none [I a]] [.ptr (bA h),.val none [I t],.val none [I a]] .one [I 1]:=by
 have b:=aH t 0 (h.S.length - 1:Int);rw[U0 d]at b;refine fM 148 [(511,[2,0]),(513,[2,0]),(515,[2,0,0]),(510,[2,0])] [(15,269,[68,69,70,71,72,73,74,75,77,67,78,79,11,0,1,2,3,4,5,6,7,13,8,1000,1001,1002,1003,1004,1013,9,10,11,12,14,1012,15]),(22,15,[92,93,94,95,96,97,98,99,100,101,102,103,104,105,106]),(25,271,[116,117,118,119,120,121,122,123,124,125,127,115,128,129,14,0,1,2,3,4,5,6,7,8,9,15,10,1000,1001,1002,1003,1015,11,12,13,14,16,1014,17])] [(0,0),(0,0),(0,0)] Tryz.func416 rfl (λu q=>?_)
 repeat'(first|refine gP ?_|(conv=>whnf);first|refine CB ?_|refine C8 (b) ?_)
 refine CJ rfl rfl ?_;exact wC
def F9(h:ab)(i t:Nat)(a:aT h [])(j:i<h.M.length)(U:t<h.S.length)(K:(nth h.M i).a3≠t):zzB 416 false [.ptr (bA h),.val none [I (t:Nat)],.val none [I (nth h.M i).Addr]] [.ptr (bA (freeT h t i).1),.val none [I (t:Nat)],.val none [I (nth h.M i).Addr]] .one [I (freeT h t i).2]:=by
 have F:=am j;obtain⟨-,L,d⟩:=a.objAt F;have N:jS h (nth h.M i).Addr=i:=by
  have V:=(a.objAt F).1;exact ce (f:=(·.Addr)) (cQ a.osr) V j (by rw[L])
 rw[N]at d;have b:=mG a F;have W:=a.onu _ F;have n:=a.lens;have X:=n.objs;have Y:=a.nc;have Z:=kB.of a.mail;have hb4:=Z.b4;have o:=aH (t:Nat) 0 (h.S.length - 1:Int);rw[O0 ω]at o;have p:=qW h (nth h.M i).Addr ω;rw[d]at p;have e:=ao j;have G:=kL (nth h.M i).o;have O:=bj a.ker;have P:=cz h.G.F.R ((nth h.M i).Addr / 16) O.1.2;unfold freeT;by_cases H:aG (nth h.M i).o<0
 ·rw[CC H]
  have c3:=qF h i a j H;refine fM 148 [(511,[2,0]),(513,[2,0]),(515,[2,0,0]),(510,[2,0])] [(15,269,[68,69,70,71,72,73,74,75,77,67,78,79,11,0,1,2,3,4,5,6,7,13,8,1000,1001,1002,1003,1004,1013,9,10,11,12,14,1012,15]),(22,15,[92,93,94,95,96,97,98,99,100,101,102,103,104,105,106]),(25,271,[116,117,118,119,120,121,122,123,124,125,127,115,128,129,14,0,1,2,3,4,5,6,7,8,9,15,10,1000,1001,1002,1003,1015,11,12,13,14,16,1014,17])] [(0,0),(0,0),(0,0)] Tryz.func416 rfl (λu q=>?_)
  repeat'(first|refine gE ?_|(conv=>whnf);first|with_reducible refine Bf.D (λc=>?_) (λc=>?_)|refine CB ?_|refine C8 (o) ?_|refine CF (p) ⟨⟨rfl,bJ h⟩,⟨rfl,rfl⟩,trivial⟩ ?_|refine CD (aa e) ?_|refine CH rfl (aa e) rfl ?_|refine C8 (G) ?_|refine CK (c3) (.inl rfl) ?_)
  refine CJ rfl rfl ?_;exact wC
 rw[C9 H];obtain⟨s1,s2,s3,s4⟩:=RQ.of a (am j) H;by_cases J:(ac (tbl h) ((nth h.M i).Addr / 16)).j=1
 ·rw[CC J]
  unfold tbl at J;refine fM 148 [(511,[2,0]),(513,[2,0]),(515,[2,0,0]),(510,[2,0])] [(15,269,[68,69,70,71,72,73,74,75,77,67,78,79,11,0,1,2,3,4,5,6,7,13,8,1000,1001,1002,1003,1004,1013,9,10,11,12,14,1012,15]),(22,15,[92,93,94,95,96,97,98,99,100,101,102,103,104,105,106]),(25,271,[116,117,118,119,120,121,122,123,124,125,127,115,128,129,14,0,1,2,3,4,5,6,7,8,9,15,10,1000,1001,1002,1003,1015,11,12,13,14,16,1014,17])] [(0,0),(0,0),(0,0)] Tryz.func416 rfl (λu q=>?_)
  repeat'(first|refine gB ?_|(conv=>whnf);first|with_reducible refine Bf.D (λc=>?_) (λc=>?_)|refine CB ?_|refine CO (by decide) ?_|refine CM (kD b) ?_|refine C8 (o) ?_|refine CF (p) ⟨⟨rfl,bJ h⟩,⟨rfl,rfl⟩,trivial⟩ ?_|refine CD (aa e) ?_|refine CH rfl (aa e) rfl ?_|refine C8 (G) ?_|refine CF (P) ⟨⟨rfl,CZ _⟩,⟨rfl,rfl⟩,trivial⟩ ?_)
  refine CJ rfl rfl ?_;exact wC
 rw[C9 J,C9 K];unfold tbl at J;have r:=Lf h.w t ⟨(nth h.M i).a3,(nth h.M i).Addr⟩ a.mail ω;by_cases l:bu (dQ h.w t ⟨(nth h.M i).a3,(nth h.M i).Addr⟩)=true;rotate_left
 ·rw[C9 l]
  rw[C9 l,show bu (dQ h.w t ⟨(nth h.M i).a3,(nth h.M i).Addr⟩)=false by simpa using l]at r;refine fM 148 [(511,[2,0]),(513,[2,0]),(515,[2,0,0]),(510,[2,0])] [(15,269,[68,69,70,71,72,73,74,75,77,67,78,79,11,0,1,2,3,4,5,6,7,13,8,1000,1001,1002,1003,1004,1013,9,10,11,12,14,1012,15]),(22,15,[92,93,94,95,96,97,98,99,100,101,102,103,104,105,106]),(25,271,[116,117,118,119,120,121,122,123,124,125,127,115,128,129,14,0,1,2,3,4,5,6,7,8,9,15,10,1000,1001,1002,1003,1015,11,12,13,14,16,1014,17])] [(0,0),(0,0),(0,0)] Tryz.func416 rfl (λu q=>?_)
  repeat'(first|refine gB ?_|(conv=>whnf);first|with_reducible refine Bf.D (λc=>?_) (λc=>?_)|refine CB ?_|refine CO (by decide) ?_|refine CM (kD b) ?_|refine C8 (o) ?_|refine CF (p) ⟨⟨rfl,bJ h⟩,⟨rfl,rfl⟩,trivial⟩ ?_|refine CD (aa e) ?_|refine CH rfl (aa e) rfl ?_|refine C8 (G) ?_|refine CF (P) ⟨⟨rfl,CZ _⟩,⟨rfl,rfl⟩,trivial⟩ ?_|refine CF (r) ⟨⟨rfl,aJ.enc_fz h.w⟩,⟨rfl,rfl⟩,⟨rfl,rfl⟩,trivial⟩ ?_|refine CB ?_)
  refine CJ rfl rfl ?_;exact wC
 rw[CC l];rw[CC l,l]at r;have w:co h.G (nth h.M i).Addr<h.G.F.W.U.length:=by unfold co;omega
 have hcz:=BL s1;have B:=ed (aG (nth h.M i).o);unfold wE;generalize dQ h.w t ⟨(nth h.M i).a3,(nth h.M i).Addr⟩ = M at r;refine fM 148 [(511,[2,0]),(513,[2,0]),(515,[2,0,0]),(510,[2,0])] [(15,269,[68,69,70,71,72,73,74,75,77,67,78,79,11,0,1,2,3,4,5,6,7,13,8,1000,1001,1002,1003,1004,1013,9,10,11,12,14,1012,15]),(22,15,[92,93,94,95,96,97,98,99,100,101,102,103,104,105,106]),(25,271,[116,117,118,119,120,121,122,123,124,125,127,115,128,129,14,0,1,2,3,4,5,6,7,8,9,15,10,1000,1001,1002,1003,1015,11,12,13,14,16,1014,17])] [(0,0),(0,0),(0,0)] Tryz.func416 rfl (λu q=>?_)
 repeat'(first|refine gB ?_|(conv=>whnf);first|with_reducible refine Bf.D (λc=>?_) (λc=>?_)|refine CB ?_|refine CO (by decide) ?_|refine CM (kD b) ?_|refine C8 (o) ?_|refine CF (p) ⟨⟨rfl,bJ h⟩,⟨rfl,rfl⟩,trivial⟩ ?_|refine CD (aa e) ?_|refine CH rfl (aa e) rfl ?_|refine C8 (G) ?_|refine CF (P) ⟨⟨rfl,CZ _⟩,⟨rfl,rfl⟩,trivial⟩ ?_|refine CF (r) ⟨⟨rfl,aJ.enc_fz h.w⟩,⟨rfl,rfl⟩,⟨rfl,rfl⟩,trivial⟩ ?_|refine CB ?_)
 have Q:({{h with w:=M} with G:=dN h.G (nth h.M i).Addr 0} : ab) = {h with w:=M}:=D2 {h with w:=M} _ w;have R:=X0 (λy:ab=>C.s .own (y.G.F.W.U.map (aF .own))) Q
 (conv=>whnf)
 refine CG (ι:=Nat) (λk=>[(0,.H .box (bA {{h with w:=M} with G:=dN h.G (nth h.M i).Addr k})),(1,.H .one [I ((t:Nat):Int)]),(2,.H .one [I ((nth h.M i).Addr)]),(7,.H .one [I ((i:Nat):Int)]),(8,.H .box (aY.enc .own (nth h.M i))),(9,.H .one [I (aG (nth h.M i).o)]),(10,.H .box (bh.enc .own (ac h.G.F.R ((nth h.M i).Addr / 16)))),(13,.H .one [I ((k:Nat):Int)])]) (λk=>k<=(csz (aG (nth h.M i).o)).toNat) (λk=>(csz (aG (nth h.M i).o)).toNat - k) (0) ?_ (W0 _) λk hk=>?_
 ·repeat'(first|exact trivial|rfl |exact mL R|exact dL _|refine CL ?_ ?_|(exact A7 (by first|omega|(simp only;omega)|(simp;omega))))
 have T:IntKind.i64.wrap 0=0:=rfl;have S:(nth h.M i).Addr.tmod 16=(nth h.M i).Addr % 16:=eG b.1;have g:(dN h.G (nth h.M i).Addr k).F.W.U[(ac h.G.F.R ((nth h.M i).Addr / 16)).e.toNat]? = some (iz (nth h.G.F.W.U (co h.G (nth h.M i).Addr)) ((nth h.M i).Addr % 16).toNat k):=X3 w;by_cases lk:k<(csz (aG (nth h.M i).o)).toNat
 ·have E:=ao (xs:=iz (nth h.G.F.W.U (co h.G (nth h.M i).Addr)) ((nth h.M i).Addr % 16).toNat k) (i:=((nth h.M i).Addr % 16+k).toNat) (by rw[kW,s4];omega)
  repeat'(first|refine gE ?_|(conv=>whnf);first|refine CB ?_|refine CO (by decide) ?_|refine CR S ?_|refine C8 (B) ?_|refine CN s2.1 (aa g) ?_|refine CH rfl (aa g) rfl ?_|refine CN ω (aa E) ?_|refine Pu.two rfl rfl (aa g) rfl rfl rfl (aa E) rfl (I3 _) (FQ {h with w:=M} _ k _ b.1) ?_)
  ((conv=>whnf);refine CE (k+1) ω ω ?_;(exact wC))
 obtain rfl:k=(csz (aG (nth h.M i).o)).toNat:=ω
 have c6:=nj {{h with w:=M} with G:=dN h.G (nth h.M i).Addr (csz (aG (nth h.M i).o)).toNat} i j (by show h.M.length<=_;omega)
 repeat'(first|refine gB ?_|(conv=>whnf);first|with_reducible refine Bf.D (λc=>?_) (λc=>?_)|refine CB ?_|refine C8 (B) ?_|refine CK (c6) (.inl rfl) ?_)
 refine CJ rfl rfl ?_;exact wC
def Q2(h:ab)(i:Nat)(t:Int)(a:aT h [])(d:i<h.M.length):zzB 416 false [.ptr (bA h),.val none [I t],.val none [I (nth h.M i).Addr]] [.ptr (bA (if 0<=t/\t<=h.S.length - 1 then(freeT h t.toNat i).1 else h)),.val none [I t],.val none [I (nth h.M i).Addr]] .one [I (if 0<=t/\t<=h.S.length - 1 then(freeT h t.toNat i).2 else 1)]:=by
 have c:h.S.length<=4:=by have:=(df.1 a.mail).1.2.1;have:=a.nc;omega
 by_cases b:0<=t/\t<=h.S.length - 1
 ·rw[CC b,CC b]
  obtain⟨n,rfl⟩:=z3 b.1;simp only[Z2];by_cases e:(nth h.M i).a3=n
  ·have:=Hx h (nth h.M i) n a (am d) e c
   have g:jS h (nth h.M i).Addr=i:=by
    obtain⟨k,j,-⟩:=a.objAt (am d);exact ce (f:=(·.Addr)) (cQ a.osr) k d (by rw[j])
   rw[g,<-tS e]at this;exact this
  exact F9 h i n a d ω e
 rw[C9 b,C9 b];exact BF h t _ c b
def LP(c:aB)(k:Nat):aB.enc .own (sN c k)=[.s .own ((c.a.map (aF .own)).set k (aF .own ((nth c.a k).take ((nth c.a k).length - 1))))]:=by simp[aB.enc,sN,I6]
def Ri(xs:List Int)(n:Nat):(xs.take n).map (rI .V)=(xs.map (rI .V)).take n:=C4
def Tv(c:aB)(k:Nat):List C:=if 0<(nth c.a k).length then aB.enc .own (sN c k)++[I (nth (nth c.a k) ((nth c.a k).length - 1)),B true] else aB.enc .own c++[I (-1),B false]
def QZ(c:aB)(k:Nat):gW (Tv c k):=by
 unfold Tv;split
 ·exact aQ (aB.enc_fr _) ⟨trivial,trivial,trivial⟩
 exact aQ (aB.enc_fr _) ⟨trivial,trivial,trivial⟩
def yb(c:aB)(k:Nat)(h:bv c=true)(u:k<=3):zzA 366 false [.val (some 1) (aB.enc .V c),.val none [I (k:Nat)]] (.tup [some 1,none,none]) (Tv c k):=by
 obtain⟨w,j⟩:=eL h;have n:aB.sml c:=⟨ω,λl r=>by have:=j l r;show l.length<=1048576;omega⟩
 have d:=x5 c k n;rw[h,O0 ω]at d;have o:=iM c n;have b:=pJ (c:=c) (k:=k) ω;have t:=j _ (am (xs:=c.a) (i:=k) ω);have a:=QZ c k;unfold Tv at a |-;by_cases p:0<(nth c.a k).length
 ·rw[CC p]at a |-
  have q:=ao (xs:=nth c.a k) (i:=(nth c.a k).length - 1) ω;have e:(nth c.a k)[(((nth c.a k).length:Int) - 1).toNat]? = some (nth (nth c.a k) ((nth c.a k).length - 1)):=by rw[show(((nth c.a k).length:Int) - 1).toNat=(nth c.a k).length - 1 by omega];exact q
  have g:((((nth c.a k).length:Nat):Int) - 1)=(((nth c.a k).length - 1:Nat):Int):=ω
  rw[LP]at a |-;refine fO 54 [(5,268,[32,33,34,35,36,37,38,39,40,41,42,44,0,1,2,3,4,5,6,7,8,9,10,11,1000,1001,1002,12,13]),(6,265,[45,46,47,48,49,50,51,52,53,0,1,2,3,4,5,6,7,8,9,1001,1002,1003,1004,1005,1006,1007,1008,10,11])] Tryz.func366 rfl ?_ (.inr a)
  repeat'(first|refine gB ?_|(conv=>whnf);first|with_reducible refine CD (aa b) ?_|refine CB ?_|refine CH rfl (aa b) rfl ?_|refine C8 (d) ?_|refine C8 (o) ?_|refine CN ω (aa e) ?_|refine CD (aa q) ?_|refine CX ((nth c.a k).length - 1) g (by rw[C1];omega) (aL λ_=>rfl) (Ri _ _) ?_|refine CB ?_|refine CV (λ_=>rfl) (λ_=>rfl) (by rw[V1];omega) (by decide) ?_|refine CQ (λ_=>rfl) (λ_=>rfl) (by rw[V1];omega) (by decide) ?_|refine CP rfl rfl (aa b) rfl (I1 rfl) rfl ?_)
  rfl
 rw[C9 p]at a |-;refine fO 54 [(5,268,[32,33,34,35,36,37,38,39,40,41,42,44,0,1,2,3,4,5,6,7,8,9,10,11,1000,1001,1002,12,13]),(6,265,[45,46,47,48,49,50,51,52,53,0,1,2,3,4,5,6,7,8,9,1001,1002,1003,1004,1005,1006,1007,1008,10,11])] Tryz.func366 rfl ?_ (.inr a)
 repeat'(first|refine gB ?_|(conv=>whnf);first|with_reducible refine CD (aa b) ?_|refine CB ?_|refine CH rfl (aa b) rfl ?_|refine C8 (d) ?_|refine C8 (o) ?_)
 rfl
def Td(xs:List a7)(n:Int):List C:=bB .own (au xs n).1++[I (au xs n).2.1,B (au xs n).2.2]
def Rc(xs:List a7)(n:Int):gW (Td xs n):=aQ (mh _) ⟨trivial,trivial,trivial⟩
def pc(pages:Int)(xs:List a7)(n:Int)(w:0<=pages/\pages<=1048576)(l:bC pages xs=true)(J:1<=n/\n<=1000)(K:xs.length<=4096):zzA 371 false [.val none [I pages],.val none (bB .V xs),.val none [I n]] (.tup [none,none,none]) (Td xs n):=by
 have o:=mH pages xs w ⟨ω,λ_ _=>trivial⟩;rw[l]at o;have p:=(wl l).2;refine fO 98 [(8,21,[31,32,33,34,35,36,37,38,39,40,41,42,43,44,45,46,47,48,49,50,51]),(14,265,[71,72,73,74,76,77,78,79,81,0,1,2,3,5,6,7,8,10,4,1005,1006,1007,1008,1010,9,1010,11,1010,12,13])] Tryz.func371 rfl ?_ (.inr (Rc xs n))
 repeat'(first|refine gE ?_|(conv=>whnf);first|refine CB ?_|refine C8 (o) ?_|refine CQ (λ_=>rfl) (λ_=>rfl) ω (by decide) ?_)
 (conv=>whnf)
 refine CG (ι:=Nat) (λi=>[(1,.H .one (bB .V xs)),(2,.H .one [I (n)]),(9,.H .one (bB .own xs)),(10,.H .one [I (jg xs n i)]),(11,.H .one [I ((i:Nat):Int)])]) (λi=>i<=xs.length) (λi=>xs.length - i) (0) ?_ (W0 _) λi y=>?_
 ·exact wC
 have h:=xh xs n i y;by_cases q:i<xs.length
 ·have j:=ao q
  have E:=p _ (am q);have a:jg xs n (i+1)=if n<=(nth xs i).b0/\(jg xs n i<0\/(nth xs i).b0<(nth xs (jg xs n i).toNat).b0) then((i:Nat):Int) else jg xs n i:=rfl
  by_cases r:n<=(nth xs i).b0
  ·by_cases F:jg xs n i<0
   ·rw[CC ⟨r,.inl F⟩]at a
    repeat'(first|refine gE ?_|(conv=>whnf);first|with_reducible (first|refine CD (aa j) ?_|refine Bf.D (λc=>?_) (λc=>?_))|refine CB ?_)
    ((conv=>whnf);refine CE (i+1) ω ω ?_)
    rw[a];exact wC
   have d:=ao (xs:=xs) (i:=(jg xs n i).toNat) ω;by_cases G:(nth xs i).b0<(nth xs (jg xs n i).toNat).b0
   ·rw[CC ⟨r,.inr G⟩]at a
    repeat'(first|refine gE ?_|(conv=>whnf);first|with_reducible (first|refine CD (aa j) ?_|refine CN ω (aa d) ?_|refine Bf.D (λc=>?_) (λc=>?_))|refine CB ?_)
    ((conv=>whnf);refine CE (i+1) ω ω ?_)
    rw[a];exact wC
   rw[C9 ω]at a
   repeat'(first|refine gE ?_|(conv=>whnf);first|with_reducible (first|refine CD (aa j) ?_|refine CN ω (aa d) ?_|refine Bf.D (λc=>?_) (λc=>?_))|refine CB ?_)
   ((conv=>whnf);refine CE (i+1) ω ω ?_)
   rw[a];exact wC
  rw[C9 ω]at a
  repeat'(first|refine gE ?_|(conv=>whnf);first|with_reducible (first|refine CD (aa j) ?_|refine Bf.D (λc=>?_) (λc=>?_))|refine CB ?_)
  ((conv=>whnf);refine CE (i+1) ω ω ?_)
  rw[a];exact wC
 obtain rfl:i=xs.length:=ω
 change hB xs n = -1\/_ at h;unfold Td au;rw[show jg xs n xs.length=hB xs n from rfl];by_cases e:hB xs n<0
 ·rw[CC e]
  rw[show hB xs n = -1 from h.resolve_right λg=>by have L:0<=hB xs n:=g.1;omega]
  repeat'(first|refine gE ?_|(conv=>whnf);first|with_reducible refine Bf.D (λc=>?_) (λc=>?_)|refine CB ?_)
  rfl
 rw[C9 e];obtain⟨H,t,M⟩:=h.resolve_left ω;change 0<=hB xs n at H;change hB xs n<xs.length at t;obtain⟨b,k⟩:=z3 (show 0<=hB xs n by omega);rw[k]at t |-;simp only[Z2];have d:=ao (xs:=xs) (i:=b) ω;have E:=p _ (am (xs:=xs) (i:=b) ω);by_cases u:(nth xs b).b0=n
 ·rw[CC u]
  repeat'(first|refine gB ?_|(conv=>whnf);first|with_reducible (first|refine CD (aa d) ?_|refine Bf.D (λc=>?_) (λc=>?_))|refine CB ?_|refine CX b rfl (by rw[C1];omega) (aL λ_=>rfl) C4 ?_|refine Ca (b+1) rfl (by rw[C1];omega) (aL λ_=>rfl) I4 ?_|refine CV (λ_=>rfl) (λ_=>rfl) (by rw[V1];omega) (by decide) ?_|refine Ap.dele (λ_=>rfl) (λ_=>rfl) ω (by decide) ?_|refine CQ (λ_=>rfl) (λ_=>rfl) (by rw[V1];omega) (by decide) ?_|refine CB ?_)
  rfl
 rw[C9 u]
 repeat'(first|refine gB ?_|(conv=>whnf);first|with_reducible (first|refine CD (aa d) ?_|refine Bf.D (λc=>?_) (λc=>?_))|refine CB ?_|refine CP rfl rfl (aa d) rfl (I1 rfl) rfl ?_)
 exact X0 (λz=>z++[I (nth xs b).At,B true]) (show [C.s dJ.own _]=_ from by simp[bB,I6];rfl)
def Pp(k:ah)(p:Int)(f:Nat):ah.enc .own (qT k p f)=((ah.enc .own k).set 1 (.s .own ((k.F.W.a9.map (rB .own)).set f (rB .own true)))).set 2 (.s .own ((k.F.R.O.map (bh.enc .own)).set p.toNat (bh.enc .own ⟨2,(f:Nat)⟩))):=by
 simp[ah.enc,qT,I6]
def Fh(k:ah)(p:Int)(c:aA k=true)(y:k.Calls≠100000)(o:0<=p/\p<k.F.R.O.length)(C:(nth k.F.R.O p.toNat).j=0):zzB 373 false [.ptr (ah.enc .own k),.val none [I p]] [.ptr (ah.enc .own (newK k p).1),.val none [I p]] .one [B (newK k p).2]:=by
 have E:=bj c;have F:=aX.1 (aD.1 c).2.1;have G:=(bx.1 (aD.1 c).2.2.1).2.2;have H:(bY k).F.R.O.length<=32:=G;have a:=BA k.F.W ω;have d:=ot k c y;have g:=eM (bY k) p E.1.2;have l:ac (bY k).F.R p=nth k.F.R.O p.toNat:=by unfold ac;exact CC o
 rw[l,C]at g;have h:=aH p 0 ((k.F.R.O.length:Int) - 1);rw[O0 ω]at h;have r:=ao (xs:=k.F.R.O) (i:=p.toNat) ω;change ar _ _ _ _ _ [I (rE k)]at a;unfold newK;cases e:refd k<;>rw[e]at d
 ·by_cases j:rE k<0
  ·rw[CC (.inr j)]
   refine fM 56 [(484,[2])] [] [(0,0),(0,0)] Tryz.func373 rfl (λu q=>?_)
   repeat'(first|refine gB ?_|(conv=>whnf);first|with_reducible refine Bf.D (λb=>?_) (λb=>?_)|refine CF (a) ⟨⟨rfl,bf.enc_fz _⟩,trivial⟩ ?_|refine CK (d) (.inl rfl) ?_|refine C8 (h) ?_|refine CF (g) ⟨CS (bY k),⟨rfl,rfl⟩,trivial⟩ ?_)
   refine CJ rfl ?_ ?_
   ·rfl
   exact wC
  rw[C9 (by simp[j])];obtain⟨n,t⟩:=Fr j;obtain⟨f,J⟩:=z3 (show 0<=rE k by omega);rw[J]at a n t j |-;simp only[Z2]at n t |-;have w:=ao (xs:=k.F.W.a9) (i:=f) n;rw[Pp];refine fM 56 [(484,[2])] [] [(0,0),(0,0)] Tryz.func373 rfl (λu q=>?_)
  repeat'(first|refine gB ?_|(conv=>whnf);first|with_reducible refine Bf.D (λb=>?_) (λb=>?_)|refine CF (a) ⟨⟨rfl,bf.enc_fz _⟩,trivial⟩ ?_|refine CK (d) (.inl rfl) ?_|refine C8 (h) ?_|refine CF (g) ⟨CS (bY k),⟨rfl,rfl⟩,trivial⟩ ?_|refine CD (aa w) ?_|refine CN o.1 (aa r) ?_|refine CP rfl rfl (aa w) rfl (I1 rfl) rfl ?_|refine CP rfl rfl (aa r) rfl (I1 rfl) rfl ?_)
  refine CJ rfl ?_ ?_
  ·rfl
  exact wC
 rw[CC (.inl rfl)];refine fM 56 [(484,[2])] [] [(0,0),(0,0)] Tryz.func373 rfl (λu q=>?_)
 repeat'(first|refine gB ?_|(conv=>whnf);first|with_reducible refine Bf.D (λb=>?_) (λb=>?_)|refine CF (a) ⟨⟨rfl,bf.enc_fz _⟩,trivial⟩ ?_|refine CK (d) (.inl rfl) ?_|refine C8 (h) ?_|refine CF (g) ⟨CS (bY k),⟨rfl,rfl⟩,trivial⟩ ?_)
 refine CJ rfl ?_ ?_
 ·rfl
 exact wC
def RY(h:ab):List C:=(bA h).drop 5
def Gl(h:ab)(p:Int)(a:aA h.G=true)(b:h.G.Calls≠100000)(c:0<=p/\p<h.G.F.R.O.length)(d:(nth h.G.F.R.O p.toNat).j=0):zzB 373 false [.ptr (bA h),.val none [I p]] [.ptr (bA {h with G:=(newK h.G p).1}),.val none [I p]] .one [B (newK h.G p).2]:=
 (Fh h.G p a b c d).frame (r:=RY h) rfl
def JT(h:ab)(i:Nat):bA (slotT h i)=((bA h).set 14 (I (JH h.c1))).set 6 (.s .own ((h.K.map (ax.enc .own)).set i [I (nth h.K i).Q,I (nth h.K i).d,I (gV (nth h.K i).b1 (q9 h i))])):=by
 simp[bA,slotT,r6,I6,ax.enc]
def rD(h:ab)(E:List Int)(i:Nat)(c:aT h E)(k:i<h.K.length):zzB 368 false [.ptr (bA h),.val none [I (i:Nat)]] [.ptr (bA (lR h i).1),.val none [I (i:Nat)]] .one [I (lR h i).2]:=by
 have F:=c.lens;have G:=F.spans;have d:=ao k;have b:=c.L.sok _ (am k);have e:=eB b;have a:=c.nums;unfold cr at a;rw[C0]at a;have t:=(bx.1 (aD.1 c.ker).2.2.1).2.2;have l:=rY c.L.sok (ps:=aV h (nth h.K i).Q) e (aV h (nth h.K i).Q).length;change 0<=ig h i/\ig h i<=65535 at l;have w:=nv (nth h.K i).d;have y:=yR h i ⟨ω,λ_ _=>trivial⟩ ⟨by show h.G.F.R.O.length<=_;omega,λ_ _=>trivial⟩ c.L.sok k;have o:=yA (nth h.K i).d (ig h i) ω;change ar _ _ _ _ _ (aF .own (nD h i)) at o;have p:=GH (nth h.K i).d (ig h i);change (nD h i).length<=16 at p;unfold lR;by_cases B:(nD h i).length=0
 ·rw[CC B]
  refine fM 68 [] [(2,7,[16,17,18,19,20,21,22]),(7,12,[42,43,44,45,46,47,48,49,50,51,52,53]),(8,11,[56,57,58,59,60,61,62,63,64,65,66])] [(0,0),(0,0)] Tryz.func368 rfl (λu q=>?_)
  repeat'(first|refine gB ?_|(conv=>whnf);first|refine CD (aa d) ?_|refine CH rfl (aa d) rfl ?_|refine C8 (w) ?_|refine CF (y) ⟨⟨rfl,bJ h⟩,⟨rfl,rfl⟩,trivial⟩ ?_|refine C8 (o) ?_|refine CB ?_)
  refine CJ rfl rfl ?_;exact wC
 rw[C9 B];have H:=A2 (h:=h) (i:=i) ω;obtain⟨C,D,O⟩:=wT H;have J:=(gI (aE b).2.2).2.2.1;have r:=wx h.c1 (n:=((nD h i).length:Nat)) ω;have K:=uL h.c1 ((nD h i).length:Nat) ω ω;have M:=zN (nth h.K i).b1 (q9 h i) e ω;have N:=zc (r6 (nth h.K i) (q9 h i)) (q9 h i) (DP b ⟨C,D⟩) ⟨C,D⟩;have g:(nD h i)[(Ph h.c1 ((nD h i).length:Nat)).toNat]? = some (q9 h i):=ao ω;have j:((h.K.map (ax.enc .own)).set i [I (nth h.K i).Q,I (nth h.K i).d,I (gV (nth h.K i).b1 (q9 h i))])[i]? = some [I (nth h.K i).Q,I (nth h.K i).d,I (gV (nth h.K i).b1 (q9 h i))]:=og k;unfold uT;rw[JT];refine fM 68 [] [(2,7,[16,17,18,19,20,21,22]),(7,12,[42,43,44,45,46,47,48,49,50,51,52,53]),(8,11,[56,57,58,59,60,61,62,63,64,65,66])] [(0,0),(0,0)] Tryz.func368 rfl (λu q=>?_)
 repeat'(first|refine gB ?_|(conv=>whnf);first|refine CD (aa d) ?_|refine CD j ?_|refine CH rfl (aa g) rfl ?_|refine CH rfl (aa d) rfl ?_|refine CH rfl j rfl ?_|refine C8 (w) ?_|refine CF (y) ⟨⟨rfl,bJ h⟩,⟨rfl,rfl⟩,trivial⟩ ?_|refine C8 (o) ?_|refine C8 (K) ?_|refine C8 (M) ?_|refine C8 (N) ?_|refine CN r.1 (aa g) ?_|refine CB ?_|refine CP rfl rfl (aa d) rfl (I1 rfl) rfl ?_)
 refine CJ rfl ?_ ?_
 ·rfl
 exact wC
def Ap.ins{e:α->List C}{xs:List α}{y:α}{r:List C}{sz by_:Nat}{K:List (List C)->Prop}(a:r=e y)(b:∀y,(e y).length=sz)(c:∀y,bm (e y)=true)(h:xs.length<=1048576)(d:by_<=1000)(f:K ((xs.take i++y::xs.drop i).map e)):Ap true ((xs.take i).map e++[r]) ((xs.drop i).map e) sz by_ K:=by
 subst a;have g:(xs.take i).length+1+(xs.drop i).length<=3145728:=by rw[V1,V3];omega
 refine CU (λr a=>?_) (aL b) (λ_ r a=>by obtain⟨y,-,rfl⟩:=O4.1 a;exact c y) (by simp only[U3,C1,List.length_singleton];omega) (by simp only[U3,C1,List.length_singleton];exact Z4 (Nat.mul_le_mul g d) (by decide)) ?_ f
 ·rcases C3.1 a with a|a
  ·exact aL b r a
  rw[O1.1 a];exact b y
 rw[X5,Z5,W5];rfl
def vW{p:α->Bool}{xs:List α}{y:α}(h:kM p xs=i):jt p xs y=xs.take i++y::xs.drop i:=by unfold jt;rw[h]
def Jf(h:ab)(c:Int):ab × Int:=
 if(au h.q 1).2.2=false then(h,-1)
 else if(newK h.G (au h.q 1).2.1).2=false then({h with G:=(newK h.G (au h.q 1).2.1).1},-1)
 else(rr h c,(qL h:Nat))
def BJ(h:ab)(E:List Int)(c:Nat)(g:aT h E)(J:h.G.Calls<=90000):zzB 369 false [.ptr (bA h),.val none [I (c:Nat)]] [.ptr (bA (Jf h c).1),.val none [I (c:Nat)]] .one [I (Jf h c).2]:=by
 have B:=g.lens;have K:=B.spans;have L:fe h<=32:=B.ents;have C:=gY h;have l:=pc (fe h:Nat) h.q 1 ⟨ω,ω⟩ g.rng (by decide) (by have:=B.free;omega);unfold Td at l;have d:=jA g (v5 1);unfold Jf rr qL;generalize au h.q 1=r at l d |-;obtain⟨o,p,ok⟩:=r;simp only at l d |-;cases ok with
 | false=>
  rw[CC rfl];refine fM 79 [(373,[2,0]),(2000010,[0,6])] [(1,267,[11,12,13,14,15,16,17,10,18,19,20,0,1,2,3,4,5,6,7,8,9,10,11,1009,1010,12,1010,13])] [(0,0),(0,0)] Tryz.func369 rfl (λu q=>?_)
  repeat'(first|refine gP ?_|(conv=>whnf);first|refine CB ?_|refine CF (C) ⟨bJ h,trivial⟩ ?_|refine CF (l) ⟨⟨rfl,rfl⟩,⟨rfl,dR h.q⟩,⟨rfl,rfl⟩,trivial⟩ ?_|refine CB ?_)
  refine CJ rfl rfl ?_;exact wC
 | true=>
  rw[C9 (by simp)];obtain⟨M,N,O,V⟩:=d rfl;have F:0<=p/\p<h.G.F.R.O.length:=⟨M,by have:p+1<=((tbl h).O.length:Nat):=N;unfold tbl at this;omega⟩
  have t:=Gl h p g.ker ω F (O p.toNat ω ω);generalize newK h.G p=w at t |-;obtain⟨k,b⟩:=w;simp only at t |-;cases b with
  | false=>
   rw[CC rfl];refine fM 79 [(373,[2,0]),(2000010,[0,6])] [(1,267,[11,12,13,14,15,16,17,10,18,19,20,0,1,2,3,4,5,6,7,8,9,10,11,1009,1010,12,1010,13])] [(0,0),(0,0)] Tryz.func369 rfl (λu q=>?_)
   repeat'(first|refine gP ?_|(conv=>whnf);first|refine CB ?_|refine CF (C) ⟨bJ h,trivial⟩ ?_|refine CF (l) ⟨⟨rfl,rfl⟩,⟨rfl,dR h.q⟩,⟨rfl,rfl⟩,trivial⟩ ?_|refine CK (t) (.inl rfl) ?_|refine CB ?_)
   refine CJ rfl rfl ?_;exact wC
  | true=>
   rw[C9 (by simp)];refine fM 79 [(373,[2,0]),(2000010,[0,6])] [(1,267,[11,12,13,14,15,16,17,10,18,19,20,0,1,2,3,4,5,6,7,8,9,10,11,1009,1010,12,1010,13])] [(0,0),(0,0)] Tryz.func369 rfl (λu q=>?_)
   repeat'(first|refine gP ?_|(conv=>whnf);first|refine CB ?_|refine CF (C) ⟨bJ h,trivial⟩ ?_|refine CF (l) ⟨⟨rfl,rfl⟩,⟨rfl,dR h.q⟩,⟨rfl,rfl⟩,trivial⟩ ?_|refine CK (t) (.inl rfl) ?_|refine CB ?_)
   (conv=>whnf)
   refine CG (ι:=Nat) (λi=>[(0,.H .box (bA {h with G:=k,q:=o})),(1,.H .one [I ((c:Nat):Int)]),(6,.H .one [I (p)]),(8,.H .one [I ((i:Nat):Int)])]) (λi=>i<=h.K.length/\∀(j:Nat)(z:ax),j<i->h.K[j]? = some z->H5 p z=false) (λi=>h.K.length - i) (0) ?_ (⟨W0 _,λj z W=>ω⟩) λi g=>?_
   ·exact wC
   obtain⟨P,G⟩:=g;have Q:({h with G:=k,q:=o} : ab).K.length=h.K.length:=rfl;by_cases R:i<h.K.length/\(nth h.K i).Q<p
   ·have n:=ao R.1
    repeat'(first|refine gE ?_|(conv=>whnf);first|with_reducible refine CD (aa n) ?_|refine CB ?_|refine CH rfl (aa n) rfl ?_)
    ((conv=>whnf);refine CE (i+1) ⟨ω,gw n (U0 ω) G⟩ ω ?_;(exact wC))
   have a:kM (H5 p) h.K=i:=vS ω G λz H=>by
    have S:=(U2.1 H).1;have:z=nth h.K i:=(bg H).symm;subst this;exact O0 ω
   have n:i<h.K.length->h.K[i]? = some (nth h.K i):=λT=>ao T
   rw[show addS h k o p (c:Nat) = {h with G:=k,q:=o,K:=h.K.take i++⟨p,(c:Nat),0⟩::h.K.drop i} by unfold addS;rw[vW a],a]
   repeat'(first|refine gE ?_|(conv=>whnf);first|with_reducible (first|refine CD (aa (n ω)) ?_|refine Bf.D (λU=>?_) (λU=>?_))|refine CB ?_|refine CH rfl (aa (n ω)) rfl ?_|refine GD.mk rfl (xG h.K) rfl ?_|refine CX i rfl (by rw[C1];omega) (aL λ_=>rfl) C4 ?_|refine Ca i rfl (by rw[C1];omega) (aL λ_=>rfl) I4 ?_|refine CQ (λ_=>rfl) (λ_=>rfl) (by rw[V1];omega) (by decide) ?_|refine Ap.sn (aL λ_=>rfl) rfl (by rw[C1,V1];omega) (by decide) rfl ?_|refine Ap.ins (e:=ax.enc .V) (y:=⟨p,(c:Nat),0⟩) rfl (λ_=>rfl) (λ_=>rfl) ω (by decide) ?_)
   all_goals
    refine CJ rfl rfl ?_;exact wC
end Go.Proofs.YtiopgblagimpmaaGreat.Ab
