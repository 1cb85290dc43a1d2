/- Pages mapped for new spans and large objects: a heap stays whole. No condition. -/
import Derived.Test.YtiopgblagimpmaaGreatKkc
import Derived.Test.YtiopgblagimpmaaGreatKkf
import Derived.Test.YtiopgblagimpmaaGreatKke
import Derived.Test.YtiopgblagimpmaaGreatKkd
set_option linter.unusedVariables false
set_option linter.defProp false
set_option linter.unusedSimpArgs false
set_option linter.constructorNameAsVariable false
namespace Go.Proofs.YtiopgblagimpmaaGreat.Ab
def gu(xs:List aB)(n:Int):Nat->Int
 | 0=>-1
 | i+1=>if n<=(nth xs i).a8/\(gu xs n i<0\/(nth xs i).a8<(nth xs (gu xs n i).toNat).a8) then(i:Nat) else gu xs n i
def fZ(xs:List aB)(n:Int):Int:=gu xs n xs.length
def ay(xs:List aB)(n:Int):List aB × Int × Bool:=
 if fZ xs n<0 then(xs,-1,false)
 else if(nth xs (fZ xs n).toNat).a8=n then(dele xs (fZ xs n).toNat,(nth xs (fZ xs n).toNat).At,true)
 else(xs.set (fZ xs n).toNat ⟨(nth xs (fZ xs n).toNat).At+n,(nth xs (fZ xs n).toNat).a8 - n⟩,(nth xs (fZ xs n).toNat).At,true)
def ue(xs:List aB)(n:Int):∀i,i<=xs.length->gu xs n i = -1\/(0<=gu xs n i/\gu xs n i<i/\n<=(nth xs (gu xs n i).toNat).a8)
 | 0,_=>.inl rfl
 | i+1,b=>by
  have a:=ue xs n i ω;unfold gu;split
  ·rename_i h;right;rw[Y3];exact⟨ω,ω,h.1⟩
  rcases a with h|h
  ·exact .inl h
  exact .inr ⟨h.1,ω,h.2.2⟩
variable{i:Nat}{xs:List aB}
def y9(h:ku xs){j:Nat}(a:i<j)(b:j<xs.length):(nth xs i).At+(nth xs i).a8<(nth xs j).At:=by
 have:=List.pairwise_iff_getElem.1 h.1 i j ω b a
 rwa [<-bq (C3 (show i<xs.length by omega)),<-bq (C3 b)]at this
variable{p:Int}
def yD : RH xs p↔∃j,j<xs.length/\(nth xs j).At<=p/\p<(nth xs j).At+(nth xs j).a8:=by
 unfold RH;constructor
 ·rintro⟨r,b,h⟩
  obtain⟨j,a,rfl⟩:=aR b;exact⟨j,a,h⟩
 rintro⟨j,a,h⟩
 exact⟨_,au a,h⟩
def oD{pages:Int}{n:Int}(h:bG pages xs=true)(T:1<=n)(t:(ay xs n).2.2=true) :
  bG pages (ay xs n).1=true/\0<=(ay xs n).2.1/\(ay xs n).2.1+n<=pages/\(∀p,RH (ay xs n).1 p↔RH xs p/\¬((ay xs n).2.1<=p/\p<(ay xs n).2.1+n))/\∀p,(ay xs n).2.1<=p->p<(ay xs n).2.1+n->RH xs p:=by
 obtain⟨o,u,J⟩:=gN.1 h;have K:=ue xs n xs.length (v4 _);unfold ay at t |-;change fZ xs n = -1\/_ at K;split at t
 ·cases t
 rename_i w;rw[CC w];obtain⟨O,P,L⟩:=K.resolve_left ω;change 0<=fZ xs n at O;change fZ xs n<xs.length at P;change n<=(nth xs (fZ xs n).toNat).a8 at L;generalize Q:(fZ xs n).toNat=b at L |-;have g:b<xs.length:=ω
 have M:=u _ (au g);have q:∀j,j<xs.length->j≠b->(nth xs j).At+(nth xs j).a8<(nth xs b).At\/(nth xs b).At+(nth xs b).a8<(nth xs j).At:=λj a k=>by
  rcases Nat.lt_or_gt_of_ne k with A|B
  ·exact .inl (y9 o A g)
  exact .inr (y9 o B a)
 split
 ·rename_i R
  have C:(dele xs b).Sublist xs:=fD ..;refine⟨gN.2 ⟨⟨o.1.sublist C,λy l=>o.2 y (C.subset l)⟩,λy l=>u y (C.subset l),J⟩,M.1,by show(nth xs b).At+n<=pages;omega,λp=>?_,λp D E=>yD.2 ⟨b,g,D,by show p<_;simp only at E;omega⟩⟩;simp only;rw[yD (xs:=xs)];constructor
  ·rintro⟨r,F,f,d⟩
   obtain⟨j,a,k,rfl⟩:=dz.1 F;refine⟨⟨j,a,f,d⟩,λe=>?_⟩;have:=q j a k;omega
  rintro⟨⟨j,a,f,d⟩,G⟩
  exact⟨_,dz.2 ⟨j,a,λe=>by subst e;omega,rfl⟩,f,d⟩
 rename_i R;have c:∀j,nth (xs.set b ⟨(nth xs b).At+n,(nth xs b).a8 - n⟩) j=if j=b then⟨(nth xs b).At+n,(nth xs b).a8 - n⟩ else nth xs j:=λj=>by
  rw[bB];by_cases e:j=b
  ·rw[CE ⟨e.symm,ω⟩,CE e]
  rw[CC λz=>e z.1.symm,CC e]
 refine⟨gN.2 ⟨⟨?_,λy l=>?_⟩,λy l=>?_,J⟩,M.1,by show(nth xs b).At+n<=pages;omega,λp=>?_,λp D E=>yD.2 ⟨b,g,D,by simp only at E;omega⟩⟩
 ·rw[List.pairwise_iff_getElem]
  intro i j N a H;rw[<-bq (C3 N),<-bq (C3 a),c,c];simp only[I2]at N a;have S:=y9 o H a;split
  ·rename_i e;subst e
   rw[CC ω];simp only;omega
  split
  ·rename_i e;subst e
   simp only;omega
  exact S
 ·rcases eL l with rfl|⟨j,a,-,rfl⟩
  ·simp only;omega
  exact o.2 _ (au a)
 ·rcases eL l with rfl|⟨j,a,-,rfl⟩
  ·simp only;omega
  exact u _ (au a)
 simp only;rw[yD,yD,I2];constructor
 ·rintro⟨j,a,f,d⟩
  rw[c]at f d;split at f
  ·rename_i e;subst e
   rw[CE rfl]at d;simp only at f d;exact⟨⟨j,a,ω,ω⟩,ω⟩
  rename_i e;rw[CC e]at d;have:=q j a e;exact⟨⟨j,a,f,d⟩,ω⟩
 rintro⟨⟨j,a,f,d⟩,G⟩
 refine⟨j,a,?_⟩;rw[c];split
 ·rename_i e;subst e
  simp only;omega
 exact⟨f,d⟩
def pO(k:ah):Int:=cV (λu=>!u) k.G.W.a1
def tH(k:ah)(p:Int)(f:Nat):ah:={k with G:=⟨⟨k.G.W.T,k.G.W.a1.set f true⟩,⟨k.G.Q.K.set p.toNat ⟨2,(f:Nat)⟩⟩⟩}
def newK(k:ah)(p:Int):ah × Bool:=if refd k=true\/pO k<0 then(cu k,false) else(tH (cu k) p (pO k).toNat,true)
variable{k:ah}
def Js(h:¬pO k<0):(pO k).toNat<k.G.W.a1.length/\nth k.G.W.a1 (pO k).toNat=false:=by
 unfold pO at h |-;rcases mS (λu=>!u) k.G.W.a1 with e|⟨n,a,e,b⟩
 ·omega
 rw[e,Y3];exact⟨a,by simpa using b⟩
variable{f:Nat}
def Dx(h:aD k=true)(b:f<k.G.W.a1.length)(c:nth k.G.W.a1 f=false)(q:Nat)(d:q<k.G.Q.K.length)(g:(nth k.G.Q.K q).j≠0):(nth k.G.Q.K q).e≠(f:Nat):=by
 obtain⟨j,l,n,i,o⟩:=aC.1 h;intro e;have a:=i f b;rw[c]at a;have:=of_decide_eq_false a.symm;exact this (du.2 ⟨q,d,g,e⟩)
def TC(h:aD k=true)(L:0<=p/\p<k.G.Q.K.length)(n:(nth k.G.Q.K p.toNat).j=0)(o:f<k.G.W.a1.length)(r:nth k.G.W.a1 f=false):aD (tH k p f)=true:=by
 have t:=Dx h o r;obtain⟨u,w,y,A,B⟩:=aC.1 h;obtain⟨C,D,E,F⟩:=aZ.1 w;obtain⟨G,H,J⟩:=bo.1 y;have a:∀q,nth (k.G.Q.K.set p.toNat ⟨2,(f:Nat)⟩) q=if p.toNat=q then⟨2,(f:Nat)⟩ else nth k.G.Q.K q:=λq=>by
  rw[bB];by_cases i:p.toNat=q
  ·rw[CE ⟨i,ω⟩,CE i]
  rw[CC (λe=>i e.1),CC i]
 refine aC.2 ⟨u,aZ.2 ⟨C,D,by simp only[tH,I2];exact E,λj b=>?_⟩,bo.2 ⟨λj b=>?_,?_,?_⟩,λj b=>?_,B⟩
 ·replace b:j<k.G.W.T.length:=b
  show iB (nth k.G.W.T j) (nth (k.G.W.a1.set f true) j)=true;have d:=F j b;rw[bB];split
  ·unfold iB at d |-
   simp only[I0,C0,v5]at d |-;refine⟨d.1,λv K=>?_⟩;have:=d.2 v K;unfold jx at this |-;simp only[I0]at this;rw[this.1];rfl
  exact d
 ·simp only[tH,I2]at b |-
  rw[a];split
  ·unfold lD;rw[C0];simp only;omega
  exact G j b
 ·simp only[tH,I2];exact H
 ·simp only[tH,I2];exact J
 simp only[tH,I2]at b;show nth (k.G.W.a1.set f true) j=_;rw[bB];by_cases e:f=j
 ·subst e
  rw[CE ⟨rfl,b⟩];refine(O0 (du.2 ⟨p.toNat,?_,?_,?_⟩)).symm
  ·simp only[tH,I2];omega
  ·simp only[tH,a,CE];decide
  simp only[tH,a,CE]
 rw[CC λz=>e z.1,A j b];refine decide_eq_decide.2 ?_;rw[du,du];simp only[tH,I2,a];constructor
 ·rintro⟨q,l,g,c⟩
  refine⟨q,l,?_⟩;rw[CC λz=>g (by rw[<-z];exact n)];exact⟨g,c⟩
 rintro⟨q,l,g,c⟩
 by_cases z:p.toNat=q
 ·rw[CE z]at c
  simp only at c;omega
 rw[CC z]at g c;exact⟨q,l,g,c⟩
structure xC(k:ah)(p:Int)(r:ah × Bool):Prop where
 ker:aD r.1=true
 len:r.1.G.Q.K.length=k.G.Q.K.length
 calls:r.1.Calls=k.Calls+1
 ref:r.1.u=k.u
 cells:r.1.G.W.T=k.G.W.T
 no:r.2=false->r.1=cu k
 yes:r.2=true->∃f:Nat,f<k.G.W.a1.length/\nth k.G.W.a1 f=false/\(∀q:Nat,nth r.1.G.Q.K q=if(q:Int)=p then⟨2,(f:Nat)⟩ else nth k.G.Q.K q)/\∀q,q<k.G.Q.K.length->(nth k.G.Q.K q).j≠0->(nth k.G.Q.K q).e≠(f:Nat)
def xC.of(h:aD k=true)(c:k.Calls≠100000)(f:0<=p/\p<k.G.Q.K.length)(g:(nth k.G.Q.K p.toNat).j=0):xC k p (newK k p):=by
 unfold newK;split
 ·exact⟨nU h c,rfl,rfl,rfl,rfl,λ_=>rfl,λe=>by cases e⟩
 rename_i d;rw[not_or]at d;obtain⟨a,b⟩:=Js d.2;refine⟨TC (nU h c) f g a b,by simp[tH,cu],rfl,rfl,rfl,λe=>(by cases e),λ_=>⟨_,a,b,λq=>?_,λq=>Dx h a b q⟩⟩;simp only[tH,cu,bB];by_cases e:(q:Int)=p
 ·rw[CE ⟨ω,ω⟩,CE e]
 rw[CC λz=>e ω,CC e]
def newsK(k:ah)(p:Int):Nat->ah × Nat
 | 0=>(k,0)
 | i+1=>if(newsK k p i).2=i then((newK (newsK k p i).1 (p+(i:Nat))).1,if(newK (newsK k p i).1 (p+(i:Nat))).2=true then i+1 else i) else newsK k p i
structure jY(k:ah)(p:Int)(i:Nat)(r:ah × Nat):Prop where
 ker:aD r.1=true
 len:r.1.G.Q.K.length=k.G.Q.K.length
 calls:k.Calls<=r.1.Calls/\r.1.Calls<=k.Calls+i
 ref:r.1.u=k.u
 cells:r.1.G.W.T=k.G.W.T
 le:r.2<=i
 out:∀q:Nat,¬(p<=q/\(q:Int)<p+r.2)->nth r.1.G.Q.K q=nth k.G.Q.K q
 new:∀q:Nat,p<=q->(q:Int)<p+r.2->(nth r.1.G.Q.K q).j=2/\∀u:Nat,u<k.G.Q.K.length->(nth r.1.G.Q.K u).j≠0->(nth r.1.G.Q.K u).e=(nth r.1.G.Q.K q).e->u=q
def jY.of{k:ah}{p:Int}{n:Nat}(h:aD k=true)(G:k.Calls+n<=100000)(H:0<=p/\p+n<=k.G.Q.K.length)(C:∀q:Nat,p<=q->(q:Int)<p+n->(nth k.G.Q.K q).j=0):∀i,i<=n->jY k p i (newsK k p i)
 | 0,_=>⟨h,rfl,⟨Y6 _,by show k.Calls<=k.Calls+((0:Nat):Int);omega⟩,rfl,rfl,v4 _,λ_ _=>rfl,λq o d=>by simp only[newsK]at d;omega⟩
 | i+1,L=>by
  have a:=jY.of h G H C i ω;unfold newsK;split
  case isFalse=>exact⟨a.ker,a.len,⟨a.calls.1,by have:=a.calls.2;omega⟩,a.ref,a.cells,by have:=a.le;omega,a.out,a.new⟩
  rename_i t;generalize newsK k p i=r at a t |-;have J:=a.calls;have y:(nth r.1.G.Q.K (p+(i:Nat)).toNat).j=0:=by
   rw[a.out _ ω];exact C _ ω ω
  have s:=xC.of (p:=p+(i:Nat)) a.ker ω ⟨ω,by rw[a.len];omega⟩ y;generalize newK r.1 (p+(i:Nat))=w at s |-;refine⟨s.ker,s.len.trans a.len,⟨by simp only[s.calls];omega,by simp only[s.calls];omega⟩,s.ref.trans a.ref,s.cells.trans a.cells,by simp only;split<;>omega,λq j=>?_,λq o d=>?_⟩
  ·simp only at j |-
   cases e:w.2 with
   | false=>
    rw[s.no e];rw[e]at j;exact a.out q (by rw[t];simpa using j)
   | true=>
    obtain⟨f,-,-,g,-⟩:=s.yes e;rw[e,CE rfl]at j;rw[g,CC ω];exact a.out q ω
  simp only at d |-;cases e:w.2 with
  | false=>
   rw[s.no e];rw[e]at d;exact a.new q o (by rw[t];simpa using d)
  | true=>
   obtain⟨f,-,-,g,D⟩:=s.yes e;rw[e,CE rfl]at d;have A:q<k.G.Q.K.length:=ω
   rw[g];by_cases E:(q:Int)=p+(i:Nat)
   ·rw[CE E]
    refine⟨rfl,λu B c b=>?_⟩;rw[g]at c b;by_cases l:(u:Int)=p+(i:Nat)
    ·omega
    rw[CC l]at c b;exact absurd b (D u (by rw[a.len];exact B) c)
   rw[CC E];obtain⟨F,K⟩:=a.new q o ω;refine⟨F,λu B c b=>?_⟩;rw[g]at c b;by_cases l:(u:Int)=p+(i:Nat)
   ·rw[CE l]at b
    exact absurd b.symm (D q (by rw[a.len];exact A) (by rw[F];decide))
   rw[CC l]at c b;exact K u B c b
def jY.undo{r:ah × Nat}(s:jY k p i r)(h:aD k=true)(d:0<=p/\p+i<=k.G.Q.K.length)(e:∀q:Nat,p<=q->(q:Int)<p+i->(nth k.G.Q.K q).j=0):aD (unmN r.1 p r.2)=true/\tEq k.G.Q (unmN r.1 p r.2).G.Q:=by
 have f:=s.le;have g:=nZ s.ker d.1 r.2 (by rw[s.len];omega);refine⟨io s.ker p r.2,((eZ r.1 p r.2).1).trans s.len,λq=>?_⟩;rw[g];split
 ·rename_i a
  have c:=e q a.1 ω;obtain⟨-,-,j,-⟩:=aC.1 h;have b:=(bo.1 j).1 q ω;unfold lD at b;rw[C0]at b;exact⟨⟨λz=>absurd rfl z,λz=>absurd c z⟩,(b.2.2.1 c).symm⟩
 rename_i a;rw[s.out q a];exact⟨Iff.rfl,rfl⟩
variable{n:Nat}{la:List aE}{sp:List aA}
def Pg.add{t h:aM}{O r:List aB}{b:List aA}{d:List aE}(i:Pg t O sp la)(E:h.K.length=t.K.length)(S:p+n<=t.K.length)(hp:0<=p)(j:∀q:Nat,¬(p<=q/\(q:Int)<p+n)->nth h.K q=nth t.K q)(a:∀q:Nat,p<=q->(q:Int)<p+n->(nth h.K q).j=2/\∀u:Nat,u<t.K.length->(nth h.K u).j≠0->(nth h.K u).e=(nth h.K q).e->u=q)(J:∀q,RH r q↔RH O q/\¬(p<=q/\q<p+n))(F:∀q,q∈pgs b d↔q∈pgs sp la\/(p<=q/\q<p+n))(w:∀s∈b,0<=s.R/\(s∈sp\/(p<=s.R/\s.R<p+n)))(K:∀l∈d,l∈la\/∀q∈lpgs l l.a4.toNat,p<=q/\q<p+n):Pg h r b d:=by
 have f:∀q:Nat,q<t.K.length->((nth h.K q).j≠0↔(q:Int)∈pgs b d):=λq c=>by
  rw[F];by_cases e:p<=q/\(q:Int)<p+n
  ·have:=(a q e.1 e.2).1
   exact⟨λ_=>.inr e,λ_=>by rw[this];decide⟩
  rw[j q e,i.own q c];exact⟨.inl,λz=>z.resolve_right e⟩
 refine⟨λl A q c u k L G=>?_,λq c=>?_,λq c=>f q (by rw[<-E];exact c),λq c=>?_,λs P u k M H=>?_⟩
 ·rw[E]at k
  have B:=gR (sp:=b) A c;have C:q<t.K.length:=by
   rcases(F _).1 B with g|g
   ·have:=i.bnd _ g;omega
   omega
  by_cases e:p<=q/\(q:Int)<p+n
  ·exact(a q e.1 e.2).2 u k L G
  have N:=(K l A).resolve_right λg=>e (g _ c)
  by_cases o:p<=u/\(u:Int)<p+n
  ·exact((a u o.1 o.2).2 q C ((f q C).2 B) G.symm).symm
  rw[j q e,j u o]at G;rw[j u o]at L;exact i.one l N q c u k L G
 ·rw[E]
  rcases(F _).1 c with g|g
  ·exact i.bnd _ g
  omega
 ·rw[E]at c
  rw[J];by_cases e:p<=q/\(q:Int)<p+n
  ·have:=(a q e.1 e.2).1
   exact⟨λ_ z=>z.2 e,λ_=>by rw[this];decide⟩
  rw[j q e,i.fre q c];exact⟨λz y=>z y.1,λz y=>z ⟨y,e⟩⟩
 obtain⟨T,U⟩:=w s P;obtain⟨V,W⟩:=w u k;have D:∀y∈b,0<=y.R->y.R.toNat<t.K.length/\((y.R.toNat:Nat):Int)=y.R/\(nth h.K y.R.toNat).j≠0:=λy X Y=>by
  have g:=dO (la:=d) X;have Q:y.R.toNat<t.K.length:=by
   rcases(F _).1 g with R|R
   ·have:=i.bnd _ R;omega
   omega
  exact⟨Q,ω,(f _ Q).2 (by rw[show((y.R.toNat:Nat):Int)=y.R by omega];exact g)⟩
 obtain⟨Z,sc,sd⟩:=D s P T;obtain⟨ub,uc,ud⟩:=D u k V;by_cases es:p<=s.R/\s.R<p+n
 ·have:=(a s.R.toNat ω ω).2 _ ub ud H.symm
  omega
 by_cases o:p<=u.R/\u.R<p+n
 ·have:=(a u.R.toNat ω ω).2 _ Z sd H
  omega
 rw[j _ ω,j _ ω]at H;exact i.mesh s (U.resolve_right es) u (W.resolve_right o) M H
def H6{a:List aA}{b:List aE}(c:a.Perm sp)(d:b.Perm la):(pgs a b).Perm (pgs sp la):=by
 unfold pgs;exact(c.map _).append (d.flatMap_right _)
def FL(p:Int)(s:aA):Bool:=decide (p<=s.R)
def Tq(p:Int)(l:aE):Bool:=decide (p<=l.R)
def addS(h:ac)(k:ah)(a:List aB)(p c:Int):ac:={h with F:=k,o:=a,J:=jW (FL p) h.J ⟨p,c,0⟩}
variable{E:List Int}{h:ac}
def jb(a:bc h E){n:Int}(j:1<=n)(k:(ay h.o n).2.2=true):0<=(ay h.o n).2.1/\(ay h.o n).2.1+n<=(tbl h).K.length/\(∀q:Nat,(ay h.o n).2.1<=q->(q:Int)<(ay h.o n).2.1+n->(nth (tbl h).K q).j=0)/\∀q:Int,(ay h.o n).2.1<=q->q<(ay h.o n).2.1+n->q∉pgs h.J h.M:=by
 obtain⟨r,l,f,t,o⟩:=oD a.rng j k;have g:∀q:Nat,(ay h.o n).2.1<=q->(q:Int)<(ay h.o n).2.1+n->(nth (tbl h).K q).j=0:=λq b c=>by
  have d:q<(tbl h).K.length:=by
   have:(ay h.o n).2.1+n<=((tbl h).K.length:Nat):=f;omega
  by_cases e:(nth (tbl h).K q).j=0
  ·exact e
  exact absurd (o q b c) ((a.pg.fre q d).1 e)
 refine⟨l,f,g,λq b c i=>?_⟩;have u:=a.pg.bnd q i;obtain⟨m,rfl⟩:=Z3 (show 0<=q by omega);have p:=(a.pg.own m ω).2 i;exact p (g m b c)
def bc.addS{h:ac}{E:List Int}{c:Int}(a:bc h E)(H:0<=c/\c<=3)(F:(ay h.o 1).2.2=true){k:ah}(s:xC h.F (ay h.o 1).2.1 (k,true)):bc (addS h k (ay h.o 1).1 (ay h.o 1).2.1 c) E:=by
 obtain⟨U,G,r3,J,r5⟩:=oD a.rng (Y6 _) F;obtain⟨-,V,u3,W⟩:=jb a (Y6 _) F;generalize (ay h.o 1).2.1=p at G r3 J r5 V u3 W s |-;generalize (ay h.o 1).1=fr at U J |-;obtain⟨f,f1,f2,K,f4⟩:=s.yes rfl;have M:=(bo.1 (aC.1 a.ker).2.2.1).2.2;change (tbl h).K.length<=32 at M;have X:=a.L;have N:=lX (FL p) h.J ⟨p,c,0⟩;have O:=H6 N (List.Perm.refl h.M);have w:(pgs (jW (FL p) h.J ⟨p,c,0⟩) h.M).Perm (p::pgs h.J h.M):=O;have B:p∉pgs h.J h.M:=W p (Y6 _) ω;have P:∀z∈h.J,z.R≠p:=λz g e=>B (by rw[<-e];exact dO g)
 have i:∀b d,jZ (jW (FL p) h.J ⟨p,c,0⟩) b d↔jZ h.J b d:=λb d=>by
  constructor
  ·rintro⟨s,C,A,Q⟩
   rcases cR.1 C with rfl|C
   ·exact absurd A (xU rfl b)
   exact⟨s,C,A,Q⟩
  rintro⟨s,C,A⟩
  exact⟨s,cR.2 (.inr C),A⟩
 exact {a with
   ker:=s.ker
   rng:=by show bG ((k.G.Q.K.length:Nat):Int) fr=true;rw[s.len];exact U
   lay:=by
     obtain⟨l1,l2,l3⟩:=eQ a.lay;unfold bx;simp only[I0,C0];refine⟨⟨v5.2 λz g=>?_,l2⟩,w.nodup_iff.2 (List.nodup_cons.2 ⟨B,l3⟩)⟩;rcases cR.1 g with rfl|g
     · have R:0<=lim c:=by
         have:=(hB H).1;obtain rfl|rfl|rfl|rfl:c=0\/c=1\/c=2\/c=3:=ω
         all_goals decide
       exact O0 ⟨G,by show p<=31;omega,H.1,H.2,Y6 _,R⟩
     exact X.sok z g
   srs:=mZ (f:=λz:aA=>z.R) (y:=⟨p,c,0⟩) a.srs P
   pg:=by
     refine a.pg.add (p:=p) (n:=1) s.len (by exact V) G (λq Y=>?_) (λq q1 q2=>?_) (λq=>J q) (λq=>?_) (λz g=>?_) (λl hl=>.inl hl)
     · exact(K q).trans (CC ω)
     · have Y:(q:Int)=p:=ω
       have Z:nth k.G.Q.K q = ⟨2,(f:Nat)⟩:=(K q).trans (CE Y);refine⟨C1 bm.j Z,λu S t r=>?_⟩;have fu:nth k.G.Q.K u=if(u:Int)=p then⟨2,(f:Nat)⟩ else nth h.F.G.Q.K u:=K u
       change (nth k.G.Q.K u).j≠0 at t;change (nth k.G.Q.K u).e=(nth k.G.Q.K q).e at r;rw[fu]at t r;rw[Z]at r;by_cases eu:(u:Int)=p
       · omega
       rw[CC eu]at t r;exact absurd r (f4 u S t)
     · show q∈pgs (jW (FL p) h.J ⟨p,c,0⟩) h.M↔_
       rw[w.mem_iff,List.mem_cons];constructor
       · rintro(e|e)
         · exact .inr ⟨ω,ω⟩
         exact .inl e
       rintro(e|e)
       · exact .inr e
       exact .inl ω
     rcases cR.1 g with rfl|g
     · exact⟨G,.inr ⟨Y6 _,by show p<p+((1:Nat):Int);omega⟩⟩
     exact⟨(aI (X.sok z g)).1,.inl g⟩
   oow:=λo F=>by
     rcases a.oow o F with⟨z,g,A,Q⟩|A
     · exact .inl ⟨z,cR.2 (.inr g),A,Q⟩
     exact .inr A
   hca:=λd hd j hj b D=>(i b j).2 (a.hca d hd j hj b D)
   hqu:=λy T=>(i _ _).2 (a.hqu y T)
   hfl:=λb D=>(i _ _).2 (a.hfl b D)
   hin:=λb D=>(i _ _).2 (a.hin b D)
   mem:=λb=>(a.mem b).trans (by
     show nX h.J h.M b↔nX (jW (FL p) h.J ⟨p,c,0⟩) h.M b;unfold nX;rw[i])
   job:=λhm=>by
     obtain⟨j1,⟨y,T,e1⟩,⟨u,S,e2⟩⟩:=a.job hm;exact⟨j1,⟨y,cR.2 (.inr T),e1⟩,⟨u,cR.2 (.inr S),e2⟩⟩}
def addL(h:ac)(k:ah)(a:List aB)(p n size t:Int):ac:={h with F:=k,o:=a,M:=jW (Tq p) h.M ⟨p,n,size⟩,O:=jW (LO (16*p)) h.O ⟨h.b,16*p,size,t⟩,b:=h.b+1}
def bc.addL{h:ac}{E:List Int}{size t:Int}{n:Nat}(a:bc h E)(g:9<=size/\size<=1000)(J:(n:Int)=(size+15) / 16)(i:(ay h.o n).2.2=true){k:ah}(s:jY h.F (ay h.o n).2.1 n (k,n))(hn:h.b<1000000)(ht:0<=t/\t<=h.S.length - 1) :
  bc (addL h k (ay h.o n).1 (ay h.o n).2.1 n size t) E:=by
 have B:(1:Int)<=n:=ω
 obtain⟨V,K,r3,M,r5⟩:=oD a.rng B i;obtain⟨-,W,u3,H⟩:=jb a B i;generalize (ay h.o n).2.1=p at K r3 M r5 W u3 H s |-;generalize (ay h.o n).1=fr at V M |-;have N:=(bo.1 (aC.1 a.ker).2.2.1).2.2;change (tbl h).K.length<=32 at N;have O:=a.L;have P:=lX (Tq p) h.M ⟨p,n,size⟩;have C:=lX (LO (16*p)) h.O ⟨h.b,16*p,size,t⟩;have Q:lpgs ⟨p,n,size⟩ ((n:Nat):Int).toNat=lpgs ⟨p,n,size⟩ n:=by rw[Y3]
 have D:(pgs h.J (jW (Tq p) h.M ⟨p,n,size⟩)).Perm (lpgs ⟨p,n,size⟩ n++pgs h.J h.M):=by
  refine(H6 (List.Perm.refl h.J) P).trans ?_;unfold pgs;rw[v9];simp only[Q];rw[<-Y7,<-Y7];exact List.perm_append_comm.append_right _
 have u:∀q,q∈lpgs ⟨p,n,size⟩ n↔p<=q/\q<p+n:=λq=>by
  rw[dK];constructor
  ·rintro⟨j,hj,rfl⟩;exact⟨by show p<=p+(j:Int);omega,by show p+(j:Int)<_;omega⟩
  rintro⟨X,Y⟩;exact⟨(q - p).toNat,ω,by show q=p+_;omega⟩
 have R:(lpgs ⟨p,n,size⟩ n).Nodup:=by
  unfold lpgs List.Nodup;rw[List.pairwise_map];exact List.nodup_range.imp λr e=>r (by simp only at e;omega)
 have r:∀z∈h.M,z.R≠p:=λz g e=>H p (Y6 _) ω (by rw[<-e];exact gR g (dK.2 ⟨0,by have:=aW (O.lok z g);omega,ω⟩))
 have S:¬nX h.J h.M (16*p):=by
  rintro(⟨z,g,d,-⟩|⟨l,c,e⟩)
  ·exact H p (Y6 _) ω (by rw[show p=z.R by have a1:=d.1;have a2:=d.2.1;omega];exact dO g)
  exact r l c ω
 have F:(16*p)∉E++holders h:=λT=>S ((a.mem _).1 T)
 have U:∀o∈h.O,o.Addr≠16*p:=λo i e=>F (t4.2 (.inr (by unfold holders;simp only[t4];exact .inl (.inl (.inl (O5.2 ⟨o,i,e⟩))))))
 have Z:(E++holders (Ab.addL h k fr p n size t)).Perm ((16*p)::(E++holders h)):=by
  have h0:=C.map (·.Addr);refine List.perm_iff_count.2 λb=>?_
  have d:=h0.count_eq b;simp only[I8,List.count_cons]at d;simp only[holders,cQ,Ab.addL,O8,List.count_cons];omega
 exact {a with
   ker:=s.ker
   rng:=by show bG ((k.G.Q.K.length:Nat):Int) fr=true;rw[s.len];exact V
   lay:=by
     obtain⟨l1,l2,l3⟩:=eQ a.lay;unfold bx;simp only[I0,C0];refine⟨⟨l1,v5.2 λz w=>?_⟩,D.nodup_iff.2 (List.nodup_append.2 ⟨R,l3,λq G b hb e=>?_⟩)⟩
     · rcases cR.1 w with rfl|w
       · exact O0 ⟨g.1,g.2,J,K,by show p<=32 - (n:Int);omega⟩
       exact O.lok z w
     subst e;have:=(u q).1 G;exact H q this.1 this.2 hb
   srl:=mZ (f:=λz:aE=>z.R) (y:=⟨p,n,size⟩) a.srl r
   pg:=by
     refine a.pg.add (p:=p) (n:=n) s.len (by exact W) K (λq G=>s.out q G) (λq X Y=>s.new q X Y) (λq=>M q) (λq=>?_) (λz g=>⟨(aI (O.sok z g)).1,.inl g⟩) (λl c=>?_)
     · show q∈pgs h.J (jW (Tq p) h.M ⟨p,n,size⟩)↔_
       rw[D.mem_iff,t4,u];exact Or.comm
     rcases cR.1 c with rfl|c
     · exact .inr λq G=>(u q).1 (by simpa using G)
     exact .inl c
   nums:=DO a.nums hn
   osr:=mZ (f:=λo:bu=>o.Addr) (y:=⟨h.b,16*p,size,t⟩) a.osr U
   onu:=λo i=>by
     rcases cR.1 i with rfl|i
     · have:=a.nums
       unfold cx at this;rw[C0]at this;exact⟨by show 1<=h.b;omega,by show h.b<=h.b+1 - 1;omega,ht⟩
     have:=a.onu o i;exact⟨this.1,by show o.Id<=h.b+1 - 1;omega,this.2.2⟩
   oid:=by
     show((jW (LO (16*p)) h.O ⟨h.b,16*p,size,t⟩).map (·.Id)).Nodup;rw[(C.map _).nodup_iff,I8];refine List.nodup_cons.2 ⟨λT=>?_,a.oid⟩;obtain⟨o,i,e⟩:=O5.1 T;have:=(a.onu o i).2.1;simp only at e;omega
   oow:=λo A=>by
     rcases cR.1 A with rfl|A
     · exact .inr ⟨_,cR.2 (.inl rfl),rfl,rfl⟩
     rcases a.oow o A with d|⟨l,c,d⟩
     · exact .inl d
     exact .inr ⟨l,cR.2 (.inr c),d⟩
   nd:=Z.nodup_iff.2 (List.nodup_cons.2 ⟨F,a.nd⟩)
   mem:=λb=>by
     rw[Z.mem_iff,List.mem_cons,a.mem b];show _↔nX h.J (jW (Tq p) h.M ⟨p,n,size⟩) b;unfold nX;constructor
     · rintro(rfl|d|⟨l,c,e⟩)
       · exact .inr ⟨_,cR.2 (.inl rfl),rfl⟩
       · exact .inl d
       exact .inr ⟨l,cR.2 (.inr c),e⟩
     rintro(d|⟨l,c,e⟩)
     · exact .inr (.inl d)
     rcases cR.1 c with rfl|c
     · exact .inl e
     exact .inr (.inr ⟨l,c,e⟩)}
structure JK(h h':ac):Prop where
 job:h'.Y=h.Y
 msh:h'.q=h.q
 sp:∀s∈h.J,fB h s.R=true->∃s'∈h'.J,s'.R=s.R/\∀u,meshable s u=true->meshable s' u=true
 ent:∀q:Nat,(nth (tbl h').K q).j≠0->((nth (tbl h).K q).j≠0/\(nth (tbl h').K q).e=(nth (tbl h).K q).e)\/∀u:Nat,(nth (tbl h').K u).j≠0->(nth (tbl h').K u).e=(nth (tbl h').K q).e->u=q
def JK.refl(h:ac):JK h h:=⟨rfl,rfl,λs a _=>⟨s,a,rfl,λ_ z=>z⟩,λ_ b=>.inl ⟨b,rfl⟩⟩
variable{h':ac}
def JK.pg(k:JK h h')(p:Int):fB h' p=fB h p:=by unfold fB;rw[k.job,k.msh]
def JK.trans{h1 g:ac}(a:JK h h1)(b:JK h1 g):JK h g:=by
 refine⟨b.job.trans a.job,b.msh.trans a.msh,λs o i=>?_,λq j=>?_⟩
 ·obtain⟨p,r,k,t⟩:=a.sp s o i
  obtain⟨w,y,A,B⟩:=b.sp p r (by rw[a.pg,k];exact i);exact⟨w,y,A.trans k,λu c=>B u (t u c)⟩
 rcases b.ent q j with⟨d,l⟩|d
 ·rcases a.ent q d with⟨e,C⟩|e
  ·exact .inl ⟨e,l.trans C⟩
  refine .inr λu c n=>?_
  rcases b.ent u c with⟨f,D⟩|f
  ·exact e u f (by rw[<-D,<-l];exact n)
  exact(f q j n.symm).symm
 exact .inr d
def pV.keep(f:0<=p)(d:(nth (tbl h').K p.toNat).j≠0)(g:pV (tbl h) p)(k:JK h h'):pV (tbl h') p:=λq e c=>by
 rcases k.ent p.toNat d with⟨n,i⟩|a
 ·rcases k.ent q e with⟨j,l⟩|b
  ·exact g q j (by rw[<-l,c,i])
  have:=b p.toNat d c.symm;omega
 have:=a q e c;omega
def bc.mapped(a:bc h E){s:aA}(b:s∈h.J):0<=s.R/\s.R<(tbl h).K.length/\(nth (tbl h).K s.R.toNat).j≠0:=by
 have c:=(aI (a.L.sok s b)).1;have d:=a.pg.bnd _ (dO (la:=h.M) b);refine⟨c,d,(a.pg.own s.R.toNat ω).2 ?_⟩;rw[show((s.R.toNat:Nat):Int)=s.R by omega];exact dO b
def JI.keep(l:JI h)(p:bc h' E)(k:JK h h'):JI h':=by
 have d:h.q=true->∃a∈h'.J,∃b∈h'.J,a.R=h.Y.X.a3/\b.R=h.Y.X.a0/\meshable a b=true:=λc=>by
  obtain⟨a,n,b,o,f,g,e⟩:=l.sp c;obtain⟨q,t,u,w⟩:=k.sp a n (by unfold fB;rw[c,f];simp);obtain⟨y,A,B,C⟩:=k.sp b o (by unfold fB;rw[c,g];simp);refine⟨q,t,y,A,u.trans f,B.trans g,?_⟩;have r:=w b e;rw[iH]at r |-;exact C q r
 refine⟨λc=>?_,λc=>?_,λc=>?_,λc=>?_⟩
 ·rw[k.msh]at c;rw[k.job];exact l.ph c
 ·rw[k.msh]at c;rw[k.job];exact d c
 ·rw[k.msh]at c
  obtain⟨a,n,b,o,f,g,e⟩:=d c;obtain⟨i,D,j⟩:=p.mapped n;rw[k.job];rw[f]at i j;exact(l.sk c).keep i j k
 rw[k.msh]at c;obtain⟨a,n,b,o,f,g,e⟩:=d c;obtain⟨i,D,j⟩:=p.mapped o;rw[k.job];rw[g]at i j;exact(l.sm c).keep i j k
def JK.less(h1:h'.Y=h.Y)(c:h'.q=h.q)(d:h'.J=h.J)(b:∀q:Nat,(nth (tbl h').K q).j≠0->nth (tbl h').K q=nth (tbl h).K q):JK h h':=
 ⟨h1,c,λs e _=>⟨s,by rw[d];exact e,rfl,λ_ z=>z⟩,λq a=>.inl ⟨by rw[<-b q a];exact a,by rw[b q a]⟩⟩
def JK.eq(h1:h'.Y=h.Y)(a:h'.q=h.q)(b:h'.J=h.J)(c:tbl h'=tbl h):JK h h':=.less h1 a b λq _=>by rw[c]
def JK.clrS{h:ac}{E:List Int}{a:Int}{i:Nat}(f:bc h E)(c:i<h.J.length)(d:eS (nth h.J i) a):JK h (clrS h i a):=by
 refine⟨rfl,rfl,λs g _=>?_,λq k=>.inl ⟨k,rfl⟩⟩;obtain⟨j,l,rfl⟩:=aR g;by_cases e:j=i
 ·subst e
  have b:=f.L.sok _ (au c);exact⟨_,jD _ c,rfl,λu n=>DX b (r9 b ⟨d.1,d.2.1⟩) n⟩
 exact⟨_,kW _ l e,rfl,λ_ z=>z⟩
def JK.giveP{h:ac}{E:List Int}{i:Nat}(d:bc h E)(f:i<h.J.length)(c:fB h (nth h.J i).R=false):JK h (giveP h i):=by
 obtain⟨g,k,-⟩:=d.mapped (au f);refine⟨rfl,rfl,λs l a=>?_,λq b=>.inl ?_⟩
 ·obtain⟨j,n,rfl⟩:=aR l
  exact⟨_,dz.2 ⟨j,n,λe=>(by subst e;rw[c]at a;cases a),rfl⟩,rfl,λ_ z=>z⟩
 have o:=sR d.ker (p:=(nth h.J i).R) ⟨g,k⟩ q;change (nth (co h.F (nth h.J i).R).G.Q.K q).j≠0 at b;show(nth h.F.G.Q.K q).j≠0/\(nth (co h.F (nth h.J i).R).G.Q.K q).e=(nth h.F.G.Q.K q).e;rw[o]at b |-;split at b
 ·exact absurd rfl b
 rename_i e;rw[CC e];exact⟨b,rfl⟩
def JK.freeS{h:ac}{E:List Int}{a:Int}{i:Nat}(c:bc h (a::E))(b:i<h.J.length)(d:eS (nth h.J i) a):JK h (freeS h i a):=by
 have g:=c.give b d;have f:=JK.clrS c b d;unfold Ab.freeS;split
 ·rename_i e
  have j:nth (Ab.clrS h i a).J i=ly (nth h.J i) (cT (nth h.J i) a):=by unfold Ab.clrS;simp only[bB,true_and];rw[CE b]
  exact f.trans (JK.giveP (h:=Ab.clrS h i a) g (by unfold Ab.clrS;simp only[I2];exact b) (by rw[j];exact e.2))
 exact f
def JK.freeA{h:ac}{E:List Int}{a:Int}(b:bc h (a::E)):JK h (freeA h a):=by
 obtain⟨c,d,-⟩:=b.at (b.hin a (X2 ..));exact JK.freeS b c d
def JK.recyc{h:ac}{E:List Int}{a:Int}{t:Nat}(b:bc h (a::E)):JK h (recyc t h a):=by
 unfold Ab.recyc;split
 ·exact JK.eq rfl rfl rfl rfl
 exact JK.freeA b
def JK.recycs{t:Nat}{E:List Int} : ∀{az:List Int}{h:ac},bc h (az++E)->t<h.S.length->JK h (recycs t h az)
 | [],h,_,_=>JK.refl h
 | a::az,h,b,c=>(JK.recyc (t:=t) b).trans (JK.recycs (az:=az) (h:=Ab.recyc t h a) (b.recyc c) (by rw[(pj t h a).1];exact c))
def JK.freeAs{E:List Int} : ∀{az:List Int}{h:ac},bc h (az++E)->JK h (freeAs h az)
 | [],h,_=>JK.refl h
 | a::az,h,b=>(JK.freeA b).trans (JK.freeAs (az:=az) (h:=Ab.freeA h a) b.freeA)
def JK.flushN{t:Nat}{h:ac}(c:bc h [])(d:t<h.S.length):∀{k:Nat},k<=4->JK h (flushN t h k).1
 | 0,_=>JK.refl h
 | k+1,e=>by
  obtain⟨h1,f,-⟩:=ge c d (k:=k) ω;have a:t<(Ab.flushN t h k).1.S.length:=ω
  have b:k<(nth (Ab.flushN t h k).1.S t).Z.length:=by rw[(eJ (h1.cach _ (au a))).1];omega
  exact JK.trans (h1:=Ab.spilt (Ab.flushN t h k).1 t k) ((JK.flushN c d (k:=k) ω).trans (JK.eq rfl rfl rfl rfl)) (JK.freeAs (h1.spilt a b))
def vM(a:bc h E){k:Nat}(b:k<h.M.length):0<=(nth h.M k).R/\(nth h.M k).R+((nth h.M k).a4.toNat:Nat)<=(tbl h).K.length:=by
 have c:=aW (a.L.lok _ (au b));have d:=a.pg.bnd _ (gR (sp:=h.J) (au b) (dK.2 ⟨(nth h.M k).a4.toNat - 1,ω,rfl⟩));exact⟨ω,ω⟩
def JK.freeL{h:ac}{E:List Int}{i k:Nat}(b:bc h E)(c:k<h.M.length):JK h (freeL h i k):=by
 obtain⟨d,f⟩:=vM b c;refine JK.less rfl rfl rfl λq a=>?_
 have g:=nZ b.ker d (nth h.M k).a4.toNat f q;change (nth (unmN h.F (nth h.M k).R (nth h.M k).a4.toNat).G.Q.K q).j≠0 at a;show nth (unmN h.F (nth h.M k).R (nth h.M k).a4.toNat).G.Q.K q=nth h.F.G.Q.K q;rw[g]at a |-;split at a
 ·exact absurd rfl a
 rename_i e;rw[CC e]
def JK.freeOb{h:ac}{t i:Nat}(a:bc h [])(c:i<h.O.length)(d:t<h.S.length):JK h (freeOb h t i).1:=by
 unfold Ab.freeOb;split
 ·rename_i b
  obtain⟨l,e,h1,-⟩:=(eH a (au c)).1 b;exact JK.freeL a (yc e h1).1
 rename_i b;split
 ·exact JK.refl h
 have h1:=a.inQuar c b;exact JK.trans (h1:=Ab.inQuar h i) (JK.eq rfl rfl rfl rfl) (JK.recycs (E:=[]) (by rw[List.append_nil];exact h1) d)
def JK.take{k sd:Int}(b:fB h (nth h.J i).R=false):JK h {h with b3:=sd,J:=h.J.set i (rJ (nth h.J i) k)}:=by
 refine⟨rfl,rfl,λs c a=>?_,λq d=>.inl ⟨d,rfl⟩⟩;obtain⟨j,f,rfl⟩:=aR c;exact⟨_,kW _ f λe=>(by subst e;rw[b]at a;cases a),rfl,λ_ z=>z⟩
def rc{t:aM}{q:Nat}(h:(nth t.K q).j≠0):q<t.K.length:=by
 by_cases e:q<t.K.length
 ·exact e
 exfalso;apply h;unfold nth;rw[X3,O3 ω]
 rfl
def JK.addS{h:ac}{k:ah}{l:List aB}{p c:Int}(s:xC h.F p (k,true)):JK h (addS h k l p c):=by
 obtain⟨f,t,w,d,n⟩:=s.yes rfl;have b:k.G.Q.K.length=h.F.G.Q.K.length:=s.len;refine⟨rfl,rfl,λz o _=>⟨z,cR.2 (.inr o),rfl,λ_ y=>y⟩,λq g=>?_⟩;change (nth k.G.Q.K q).j≠0 at g;show((nth h.F.G.Q.K q).j≠0/\(nth k.G.Q.K q).e=(nth h.F.G.Q.K q).e)\/∀u:Nat,(nth k.G.Q.K u).j≠0->(nth k.G.Q.K u).e=(nth k.G.Q.K q).e->u=q
 by_cases e:(q:Int)=p
 ·refine .inr λu i a=>?_
  have j:=rc i;have f3u:=d u;have f3q:=d q;simp only at f3u f3q;rw[CE e]at f3q;rw[f3q]at a;by_cases r:(u:Int)=p
  ·omega
  rw[CC r]at f3u;rw[f3u]at i a;exact absurd a (n u (by rw[<-b];exact j) i)
 have f3q:=d q;simp only at f3q;rw[CC e]at f3q;rw[f3q]at g |-;exact .inl ⟨g,rfl⟩
def JK.addL{h:ac}{k:ah}{g:List aB}{p size t:Int}{n:Nat}(s:jY h.F p n (k,n)):JK h (addL h k g p n size t):=by
 have a:k.G.Q.K.length=h.F.G.Q.K.length:=s.len;refine⟨rfl,rfl,λz i _=>⟨z,i,rfl,λ_ y=>y⟩,λq b=>?_⟩;change (nth k.G.Q.K q).j≠0 at b;show((nth h.F.G.Q.K q).j≠0/\(nth k.G.Q.K q).e=(nth h.F.G.Q.K q).e)\/∀u:Nat,(nth k.G.Q.K u).j≠0->(nth k.G.Q.K u).e=(nth k.G.Q.K q).e->u=q
 by_cases e:p<=q/\(q:Int)<p+n
 ·exact .inr λu d c=>(s.new q e.1 e.2).2 u (by rw[<-a];exact rc d) d c
 have f:=s.out q e;simp only at f;rw[f]at b |-;exact .inl ⟨b,rfl⟩
def vZ(h:ac):∀{n:Nat},n<=h.J.length->∀s∈jP h n,(aX h s.R).length=1
 | 0,_,s,a=>by cases a
 | n+1,b,s,a=>by
  unfold jP at a;split at a
  ·rename_i e
   rcases t4.1 a with a|a
   ·exact vZ h ω s a
   unfold sr at e;simp only[I0,C0]at e;rw[C2.1 a];exact e.2
  exact vZ h ω s a
def bc.sole(e:bc h E){s:aA}(f:s∈h.J)(h1:(aX h s.R).length=1):pV (tbl h) s.R:=λq a g=>by
 obtain⟨k,l,b⟩:=e.mapped f;have i:s.R=((s.R.toNat:Nat):Int):=ω
 rw[i,gk (by show s.R.toNat<(tbl h).K.length;omega) b]at h1;obtain⟨z,j⟩:=List.length_eq_one_iff.1 h1;have c:(s.R.toNat:Int)∈pagesOn (tbl h) (nth (tbl h).K s.R.toNat).e:=fp.2 ⟨ω,b,rfl⟩;have d:(q:Int)∈pagesOn (tbl h) (nth (tbl h).K s.R.toNat).e:=fp.2 ⟨rc a,a,g⟩;rw[j]at c d;simp only[C2]at c d;omega
def zR(hi:bc h [])(l:h.q=false):bc (started h).1 []/\JI (started h).1:=by
 have F:=hi.nums;unfold cx at F;rw[C0]at F;have L:=(kQ (bp h).length (show 0<=h.b3/\h.b3<=1073741823 by omega) ((bp h).length - 1)).2;have n:=my (bp h) (show 0<=h.b3/\h.b3<=1073741823 by omega);have c:cx {h with b3:=(shuf (bp h).length h.b3).2} = true:=by
  unfold cx;rw[C0];unfold shuf;simp only;omega
 cases o:jF (bp h) h.b3 with
 | nil=>
  have f:Ab.started h=({h with b3:=(shuf (bp h).length h.b3).2},false):=by unfold Ab.started;rw[o]
  rw[f];exact⟨{hi with nums:=c},⟨λe=>by simp[l]at e,λe=>by simp[l]at e,λe=>by simp[l]at e,λe=>by simp[l]at e⟩⟩
 | cons q Q=>
  obtain⟨R,S,g⟩:=n q (by rw[o];exact X2 ..);have f:Ab.started h=({h with b3:=(shuf (bp h).length h.b3).2,q:=true,Y:=ur (dl (nth (bp h) q.A.toNat) (nth (bp h) q.B.toNat))},true):=by unfold Ab.started;rw[o]
  rw[f];have d:∀s∈bp h,s∈h.J/\pV (tbl h) s.R:=λs M=>by
   have G:=List.mem_of_mem_take M;have H:=ot h (v4 _) s G;exact⟨H,hi.sole H (vZ h (v4 _) s G)⟩
  have j:=d _ (au (xs:=bp h) (i:=q.A.toNat) ω);have k:=d _ (au (xs:=bp h) (i:=q.B.toNat) ω);generalize nth (bp h) q.A.toNat=a at g j |-;generalize nth (bp h) q.B.toNat=b at g k |-;obtain⟨N,T,U⟩:=rh g;have p:(dl a b).a3=a.R/\(dl a b).a0=b.R\/(dl a b).a3=b.R/\(dl a b).a0=a.R:=by
   unfold dl;split
   ·exact .inr ⟨rfl,rfl⟩
   exact .inl ⟨rfl,rfl⟩
  have r:jX (ur (dl a b))=true:=cW.2 ⟨N,by show(0:Int)<=0;omega,by show(0:Int)<=5;omega,by show(0:Int)<=0;omega,by show(0:Int)<=(((dl a b).T.length:Nat):Int);omega⟩;have t:∃x∈h.J,∃y∈h.J,x.R=(dl a b).a3/\y.R=(dl a b).a0/\meshable x y=true/\pV (tbl h) x.R/\pV (tbl h) y.R:=by
   rcases p with⟨u,w⟩|⟨u,w⟩
   ·exact⟨a,j.1,b,k.1,u.symm,w.symm,g,j.2,k.2⟩
   exact⟨b,k.1,a,j.1,u.symm,w.symm,by rw[iH];exact g,k.2,j.2⟩
  obtain⟨x,J,y,K,C,D,E,O,P⟩:=t;exact⟨{hi with nums:=c,job:=λ_=>⟨r,⟨x,J,C⟩,⟨y,K,D⟩⟩,noj:=λe=>by cases e},⟨λ_=>⟨by show(0:Int)<=0;omega,by show(0:Int)<=3;omega⟩,λ_=>⟨x,J,y,K,C,D,E⟩,λ_=>by show pV (tbl h) (dl a b).a3;rw[<-C];exact O,λ_=>by show pV (tbl h) (dl a b).a0;rw[<-D];exact P⟩⟩
def gJ(m:aP)(f:Nat):aP:=⟨m.V.set f ((nth m.V f).drop 1),m.a2.set (nth (nth m.V f) 0).To.toNat (nth m.a2 (nth (nth m.V f) 0).To.toNat++[(nth (nth m.V f) 0).Addr])⟩
def mz(m:aP)(t:Nat):aP:=⟨m.V,m.a2.set t []⟩
def iU(m:aP)(f:Nat)(p:dI):aP:=⟨m.V.set f (nth m.V f++[p]),m.a2⟩
def dS{m:aP} : bT m=true↔(1<=m.V.length/\m.V.length<=4/\m.a2.length=m.V.length)/\(∀i,i<m.V.length->(∀p∈nth m.V i,0<=p.To/\p.To<=(m.V.length:Int) - 1/\0<=p.Addr)/\∀a∈nth m.a2 i,0<=a)/\bI m m.V.length<=30:=by
 unfold bT;simp only[I0,C0,cI,iF,v5,o6,Tz];exact and_assoc
def q8(m:aP)(f t:Nat)(x:List dI)(y:List Int)(g:f<m.V.length)(h:t<m.a2.length):∀n:Nat,bI ⟨m.V.set f x,m.a2.set t y⟩ n=bI m n+(if f<n then(x.length:Int) - ((nth m.V f).length:Nat) else 0)+(if t<n then(y.length:Int) - ((nth m.a2 t).length:Nat) else 0)
 | 0=>by simp[bI]
 | n+1=>by
  have i:=q8 m f t x y g h n;have j:(nth (m.V.set f x) n).length=if f=n then x.length else(nth m.V n).length:=by
   rw[bB];by_cases e:f=n
   ·rw[CE ⟨e,ω⟩,CE e]
   rw[CC λz=>e z.1,CC e]
  have k:(nth (m.a2.set t y) n).length=if t=n then y.length else(nth m.a2 n).length:=by
   rw[bB];by_cases e:t=n
   ·rw[CE ⟨e,ω⟩,CE e]
   rw[CC λz=>e z.1,CC e]
  simp only[bI,i,j,k];by_cases d:f=n
  ·subst d
   by_cases b:t=f
   ·subst b
    simp only[if_true,Nat.lt_irrefl,if_false,Nat.lt_succ_self];omega
   simp only[if_true,Nat.lt_irrefl,if_false,Nat.lt_succ_self,CC b];by_cases a:t<f
   ·rw[CE a,CE (show t<f+1 by omega)];omega
   rw[CC a,CC (show ¬t<f+1 by omega)];omega
  by_cases b:t=n
  ·subst b
   simp only[if_true,Nat.lt_irrefl,if_false,Nat.lt_succ_self,CC d];by_cases a:f<t
   ·rw[CE a,CE (show f<t+1 by omega)];omega
   rw[CC a,CC (show ¬f<t+1 by omega)];omega
  simp only[CC d,CC b];by_cases a:f<n
  ·rw[CE a,CE (show f<n+1 by omega)]
   by_cases c:t<n
   ·rw[CE c,CE (show t<n+1 by omega)];omega
   rw[CC c,CC (show ¬t<n+1 by omega)];omega
  rw[CC a,CC (show ¬f<n+1 by omega)];by_cases c:t<n
  ·rw[CE c,CE (show t<n+1 by omega)];omega
  rw[CC c,CC (show ¬t<n+1 by omega)];omega
variable{α:Type}
def LY[Inhabited α]{xs:List α}(h:i<xs.length):xs.set i (nth xs i)=xs:=by
 rw[<-I3.1 (ar h) |>.2];exact List.set_getElem_self h
def JJ{m:aP}(h:bT m=true)(d:f<m.V.length)(n:0<(nth m.V f).length):bT (gJ m f)=true:=by
 obtain⟨⟨o,q,r⟩,g,y⟩:=dS.1 h;obtain⟨t,A⟩:=g f d;have c:=t _ (au n);have u:(nth (nth m.V f) 0).To.toNat<m.a2.length:=ω
 refine dS.2 ⟨⟨?_,?_,?_⟩,λi j=>?_,?_⟩
 ·simp only[gJ,I2];exact o
 ·simp only[gJ,I2];exact q
 ·simp only[gJ,I2];exact r
 ·simp only[gJ,I2]at j |-
  obtain⟨k,l⟩:=g i j;simp only[bB];refine⟨λp c=>?_,λa b=>?_⟩
  ·split at c
   ·rename_i e;rw[<-e.1]at k
    refine(g f d).1 p (List.mem_of_mem_drop c)
   exact k p c
  split at b
  ·rename_i e
   rcases t4.1 b with b|b
   ·rw[e.1]at b;exact l a b
   rw[C2.1 b];exact c.2.2
  exact l a b
 have w:=q8 m f (nth (nth m.V f) 0).To.toNat ((nth m.V f).drop 1) (nth m.a2 (nth (nth m.V f) 0).To.toNat++[(nth (nth m.V f) 0).Addr]) d u m.V.length;simp only[gJ,I2];rw[w,CE d,CE ω,I4,C4,List.length_singleton];omega
variable{t:Nat}
def Ty{m:aP}(h:bT m=true)(d:t<m.a2.length):bT (mz m t)=true:=by
 obtain⟨⟨e,f,g⟩,j,o⟩:=dS.1 h;refine dS.2 ⟨⟨e,f,?_⟩,λi k=>?_,?_⟩
 ·simp only[mz,I2];exact g
 ·obtain⟨l,n⟩:=j i k
  simp only[mz,bB];refine⟨l,λa b=>?_⟩;split at b
  ·cases b
  exact n a b
 have c:=q8 m t t (nth m.V t) [] ω d m.V.length;rw[LY ω]at c;show bI ⟨m.V,m.a2.set t []⟩ m.V.length<=30;rw[c,CE ω,CE ω,List.length_nil];omega
def ma{m:aP}(h:bT m=true)(b:Int):(aV m).count b=(m.V.flatMap λl=>l.map (·.Addr)).count b+(m.a2.flatMap λx=>x).count b:=by
 unfold aV;rw[CE h,O8,mG]
def bc.mailed{c:List Int}{m:aP}(d:bc h E)(i:bT m=true)(j:m.V.length=h.w.V.length)(k:∀b,c.count b+(aV m).count b=E.count b+(aV h.w).count b)(f:∀a,a∈c\/a∈aV m->jZ h.J a (-1)):bc {h with w:=m} c:=by
 have g:(E++holders h).Perm (c++holders {h with w:=m}):=by
  refine List.perm_iff_count.2 λb=>?_
  have l:=k b;simp only[holders,cQ,O8];omega
 exact {d with
   mail:=i
   nc:=d.nc.trans j.symm
   hfl:=λa e=>f a (.inr e)
   hin:=λa e=>f a (.inl e)
   nd:=g.nodup_iff.1 d.nd
   mem:=λb=>by rw[<-g.mem_iff];exact d.mem b}
def Ku{d:List Int}{m:aP}(f:bc h E)(g:∀b,d.count b+(aV m).count b=E.count b+(aV h.w).count b):∀a,a∈d\/a∈aV m->jZ h.J a (-1):=λa c=>by
 have i:=g a;have j:0<d.count a+(aV m).count a:=by
  rcases c with c|c
  ·have:=List.count_pos_iff.2 c;omega
  have:=List.count_pos_iff.2 c;omega
 by_cases e:0<E.count a
 ·exact f.hin a (List.count_pos_iff.1 e)
 exact f.hfl a (List.count_pos_iff.1 ω)
def bc.deliv(a:bc h E)(e:f<h.w.V.length)(d:0<(nth h.w.V f).length):bc {h with w:=gJ h.w f} E:=by
 have c:=JJ a.mail e d;obtain⟨⟨q,r,t⟩,j,u⟩:=dS.1 a.mail;have k:=(j f e).1 _ (au d);have g:∀b,E.count b+(aV (gJ h.w f)).count b=E.count b+(aV h.w).count b:=λb=>by
  rw[ma c,ma a.mail];have i:=jI (λl:List dI=>l.map (·.Addr)) b h.w.V f ((nth h.w.V f).drop 1) e;have n:=jI (λx:List Int=>x) b h.w.a2 (nth (nth h.w.V f) 0).To.toNat (nth h.w.a2 (nth (nth h.w.V f) 0).To.toNat++[(nth (nth h.w.V f) 0).Addr]) ω;have o:(nth h.w.V f).map (·.Addr)=(nth (nth h.w.V f) 0).Addr::((nth h.w.V f).drop 1).map (·.Addr):=by
   generalize nth h.w.V f=l at d
   match l,d with
   | p::l,_=>rfl
  simp only[gJ];rw[o]at i;simp only[List.count_cons]at i;simp only[O8,List.count_singleton]at n;omega
 exact a.mailed c (by simp[gJ]) g (Ku a g)
def bc.coll(c:bc h E)(d:t<h.w.a2.length):bc {h with w:=mz h.w t} (nth h.w.a2 t++E):=by
 have a:=Ty c.mail d;have e:∀b,(nth h.w.a2 t++E).count b+(aV (mz h.w t)).count b=E.count b+(aV h.w).count b:=λb=>by
  rw[ma a,ma c.mail];have f:=jI (λx:List Int=>x) b h.w.a2 t [] d;simp only[List.count_nil]at f;simp only[mz,O8];omega
 exact c.mailed a rfl e (Ku c e)
def bc.send{p:dI}(c:bc h (p.Addr::E))(e:f<h.w.V.length)(a:bT (iU h.w f p)=true):bc {h with w:=iU h.w f p} E:=by
 have d:∀b,E.count b+(aV (iU h.w f p)).count b=(p.Addr::E).count b+(aV h.w).count b:=λb=>by
  rw[ma a,ma c.mail];have g:=jI (λl:List dI=>l.map (·.Addr)) b h.w.V f (nth h.w.V f++[p]) e;simp only[Z7,I8,List.map_nil,O8,List.count_singleton]at g;simp only[iU,List.count_cons];omega
 exact c.mailed a (by simp[iU]) d (Ku c d)
def vp(now:Int):List aT->Nat
 | []=>0
 | x::xs=>if x.b7<now - 100 then vp now xs+1 else 0
def aged(h:ac)(n:Int):ac:={h with b2:=h.b2+n,a7:=⟨h.a7.b8,h.a7.a6.drop (vp (h.b2+n) h.a7.a6)⟩}
def o7(h:ac)(n:Int):List Int:=(h.a7.a6.take (vp (h.b2+n) h.a7.a6)).map (·.Addr)
def tick(h:ac)(n:Int):ac:=freeAs (aged h n) (o7 h n)
def qJ(x:aT)(xs:List aT):∀n,quarCells (x::xs) (n+1)=csz x.d+quarCells xs n
 | 0=>by simp only[quarCells];show 0+csz x.d=csz x.d+0;omega
 | n+1=>by
  rw[jL,qJ x xs n,jL];show csz x.d+quarCells xs n+csz (nth xs n).d=_;omega
def V7(k:Int):0<=csz k:=by
 unfold csz;split
 ·exact Int.le_of_lt (Int.pow_pos (by decide))
 decide
def Mm:∀(l:List aT)(k:Nat),qc (l.drop k)<=qc l
 | [],k=>by simp
 | x::xs,0=>Y6 _
 | x::xs,k+1=>by
  have a:=Mm xs k;have b:=V7 x.d;have c:qc (x::xs)=csz x.d+qc xs:=qJ x xs xs.length;show qc (xs.drop k)<=qc (x::xs);omega
def bc.aged{h:ac}{E:List Int}{n:Int}(a:bc h E)(t:0<=n)(u:h.b2+n<=1000000):bc (aged h n) (o7 h n++E):=by
 obtain⟨i,j,k,o,p,q⟩:=kT.1 a.quar;have c:=a.nums;unfold cx at c;rw[C0]at c;have e:=List.drop_sublist (vp (h.b2+n) h.a7.a6) h.a7.a6;have g:(E++holders h).Perm ((o7 h n++E)++holders (Ab.aged h n)):=by
  refine List.perm_iff_count.2 λb=>?_
  have r:=C1 (λl:List aT=>(l.map (·.Addr)).count b) (List.take_append_drop (vp (h.b2+n) h.a7.a6) h.a7.a6);simp only[Z7,O8]at r;simp only[holders,cQ,Ab.aged,o7,O8];omega
 exact {a with
   nums:=by unfold cx;rw[C0];simp only[Ab.aged];omega
   quar:=kT.2 ⟨λy d=>i y (e.subset d),j.sublist e,k.sublist (e.map _),o,p,X6 (Mm _ _) q⟩
   snc:=λy d=>by
     have:=a.snc y (e.subset d);show y.b7<=h.b2+n;omega
   hqu:=λy d=>a.hqu y (e.subset d)
   hin:=λb f=>by
     rcases t4.1 f with f|f
     · obtain⟨y,d,rfl⟩:=O5.1 f
       exact(a.hqu y (List.mem_of_mem_take d)).any
     exact a.hin b f
   nd:=g.nodup_iff.1 a.nd
   mem:=λb=>by rw[<-g.mem_iff];exact a.mem b}
def bc.tick{h:ac}{n:Int}(a:bc h [])(b:0<=n)(c:h.b2+n<=1000000):bc (tick h n) []/\JK h (tick h n):=by
 have h1:=a.aged b c;exact⟨bc.freeAs h1,JK.trans (h1:=Ab.aged h n) (JK.eq rfl rfl rfl rfl) (JK.freeAs h1)⟩
def collect(h:ac)(t:Nat):ac:=recycs t {h with w:=mz h.w t} (nth h.w.a2 t)
def bc.collect{h:ac}{t:Nat}(a:bc h [])(b:t<h.S.length):bc (collect h t) []/\JK h (collect h t):=by
 have h1:=a.coll (t:=t) (by rw[(dS.1 a.mail).1.2.2,<-a.nc];exact b);exact⟨bc.recycs h1 b,JK.trans (h1:={h with w:=mz h.w t}) (JK.eq rfl rfl rfl rfl) (JK.recycs h1 b)⟩
def Qg(h:ac)(t i:Nat):ac:={h with F:=gc h.F (nth h.O i).Addr (csz (aL (nth h.O i).y)).toNat,O:=dele h.O i,w:=iU h.w t ⟨(nth h.O i).a5,(nth h.O i).Addr⟩}
def freeT(h:ac)(t i:Nat):ac × Int:=
 if aL (nth h.O i).y<0 then(freeL h i (B5 h (nth h.O i).Addr),0)
 else if(af (tbl h) ((nth h.O i).Addr / 16)).j=1 then(h,5)
 else if(nth h.O i).a5=t then(GK h t i,0)
 else if bT (iU h.w t ⟨(nth h.O i).a5,(nth h.O i).Addr⟩)=true then(Qg h t i,0) else(h,5)
def Ej(e:(nth h.O i).a5=t):freeT h t i=freeOb h t i:=by
 unfold freeT freeOb;rw[CE e]
def bc.freeT{h:ac}{t i:Nat}(a:bc h [])(b:i<h.O.length)(c:t<h.S.length):bc (freeT h t i).1 []/\JK h (freeT h t i).1:=by
 by_cases e:(nth h.O i).a5=t
 ·rw[Ej e];exact⟨a.freeOb b c,JK.freeOb a b c⟩
 have d:=a.freeOb b c;have f:=JK.freeOb a b c;unfold Ab.freeOb at d f;unfold Ab.freeT;split
 ·rename_i g
  rw[CE g]at d f;exact⟨d,f⟩
 rename_i g;rw[CC g]at d f;split
 ·exact⟨a,JK.refl h⟩
 split
 ·rename_i j
  obtain⟨⟨s,l,n,o⟩,u⟩:=(eH a (au b)).2 g;have q:=a.dropO b (jZ.any ⟨s,l,n,.inr o⟩);have r:=q.cells (k:=gc h.F (nth h.O i).Addr (csz (aL (nth h.O i).y)).toNat) (GT a.ker _ _) rfl;exact⟨bc.send (p:=⟨(nth h.O i).a5,(nth h.O i).Addr⟩) r (by show t<h.w.V.length;rw[<-a.nc];exact c) j,JK.eq rfl rfl rfl rfl⟩
 exact⟨a,JK.refl h⟩
def ew(k:ah)(a v:Int):ah:=setCell k (df k a) (a % 16) v
variable{a:Int}
def zT(h:aD k=true){v:Int}(b:(af k.G.Q (a / 16)).j≠0)(c:0<=v/\v<=999):aD (ew k a v)=true:=by
 obtain⟨d,e,-⟩:=gM h b;exact sN h (f:=df k a) d e c
def bc.store{v:Int}(b:bc h [])(c:(af h.F.G.Q (a / 16)).j≠0)(d:0<=v/\v<=999):bc {h with F:=ew h.F a v} []/\JK h {h with F:=ew h.F a v}:=
 ⟨b.cells (zT b.ker c d) rfl,JK.eq rfl rfl rfl rfl⟩
open Go.RowKit
set_option maxRecDepth 20000
set_option maxHeartbeats 4000000
def Uc{xs:List Int}{x:Int}(h:dv xs.length (λj=>decide (nth xs j≠x))=true):x∉xs:=λb=>by
 obtain⟨j,a⟩:=List.mem_iff_getElem?.1 b;have:=fG h (I3.1 a).1;rw[bq a]at this;simp at this
def JF(xs:List Int)(x:Int)(g:xs.length<=4611686018427387904):zzA 353 false [.val none (aH .U xs),.val none [I x]] .one [B (decide (x∈xs))]:=by
 refine fO 18 [] Tryz.func353 rfl ?_
 refine ZP ?_
 refine CK (ι:=Nat) (λi=>[(0,.H .one (aH .U xs)),(1,.H .one [I (x)]),(5,.H .one [I ((i:Nat):Int)])]) (λi=>i<=xs.length/\dv i (λj=>decide (nth xs j≠x))=true) (λi=>xs.length - i) 0 ?_ ⟨Z0 _,rfl⟩ λi a=>?_
 ·exact wB
 obtain⟨a,b⟩:=a;by_cases c:i<xs.length
 ·have d:=ar c
  by_cases e:nth xs i=x
  ·refine ZB ?_
   exact C1 (λz=>[B z]) ((by symm;exact O0 (by rw[<-e];exact au c)))
  refine ZB ?_
  (refine CG (i+1) ⟨ω,bZ b (O0 e)⟩ ω ?_;(exact wB))
 refine ZE ?_
 obtain rfl:i=xs.length:=ω
 exact C1 (λz=>[B z]) ((by symm;exact X0 (Uc b)))
theorem bA.more{M c:am}{w d:World}(h:bA M w d)(f:∀b o,M b o->c b o):bA c w d:=
 ⟨h.os,h.tape,h.output,h.size,λb a e=>h.blk b a ψ,λb o a e=>h.cel b o a ψ,λb o a e=>h.fro b o a ψ⟩
variable{rcs c:List C}
theorem aQ.wk{P:Program}{sh:Bool}{u:List C}{A B:List MA}{k:Kd}(h:aQ P f sh A (.ptr c::B) k rcs)(D:R1 c u):aQ P f sh A (.ptr u::B) k rcs:=by
 refine⟨h.has,λw S V i E F l G=>(h.run w S V i E F l G).mono λe w1 H=>?_⟩;obtain⟨v,J,K,X,L,M,N,n,p,a,q,r,b,O,Q,y⟩:=H;refine⟨v,J,K,X,L,M,N,n,p,a,q,r,b,O,Q,?_⟩;cases i with
 | nil=>exact y.elim
 | cons v0 i=>
  obtain⟨⟨R,Y,T,U,W,⟨g,o,Z,e2⟩,d⟩,t⟩:=y;refine⟨⟨R,Y,T,U,W,⟨g,o,Z,λj hj=>e2 j (by grind [uX])⟩,EX D d⟩,t⟩
def aQ.frame{P:Program}{sh:Bool}{c' r:List C}{A B:List MA}{k:Kd}(h:aQ P f sh (.ptr c::A) (.ptr c'::B) k rcs)(hl:c'.length=c.length):aQ P f sh (.ptr (c++r)::A) (.ptr (c'++r)::B) k rcs:=by
 refine⟨h.has,λw S V vs hS hV hVd hA=>?_⟩;cases vs with
 | nil=>exact hA.elim
 | cons v0 vs=>
 obtain⟨⟨X1,Y,hX1,hY,O,⟨g,q,rfl,u⟩,ff,hf1,J,hf3⟩,hA'⟩:=hA;have hlen:(c++r).length=c.length+r.length:=C4
 let V0:am:=piece g q ff 0 c.length
 let W:Nat->am:=QF V0 (λi=>V (i+1))
 have hcX:∀o,q<=o->o<q+(c++r).length->X1 g o:=λo l a=>by
  have:=(u (o - q) ω).1
  rwa [show q+(o - q)=o by omega]at this
 have hV0:∀b o,V0 b o->V 0 b o:=λb o p=>by
  rcases p with⟨rfl,l,a⟩|⟨j,-,a,Q⟩
  ·exact hX1 _ _ (hcX o ω ω)
  exact hY _ _ (J j ω b o Q)
 have K:∀i b o,W i b o->V i b o:=λi b o p=>by
  cases i with
  | zero=>exact hV0 b o p
  | succ i=>exact p
 have hA2:MO w S W (.ptr c::A) (.pointer (some ⟨g,q,none⟩)::vs):=by
  refine⟨?_,hA'⟩;have:=vR (lo:=0) (n:=c.length) (cs:=c++r) ω u hf1 J hf3 O;rw[show bN (c++r) 0 c.length=c by simp[bN]]at this;simp only[C9,Nat.add_zero]at this;exact this
 refine(h.run w S W _ hS (λi b o p=>hV i b o (K i b o p)) (λi i' D b o l a=>hVd i i' D b o (K i b o l) (K i' b o a)) hA2).mono λe w1 hv=>?_
 obtain⟨v,he,hk,X,V',S1,hX,E,hS1,hVd',hXV,hXS,hVS1,hh,hr,hm⟩:=hv;have H:∀b o,(∃i,W i b o)->∃i,V i b o:=λb o ⟨i,Z⟩=>⟨i,K i b o Z⟩
 let R:am:=λb o=>V 0 b o/\¬V0 b o
 have hRW:∀b o,R b o->¬∃i,W i b o:=λb o y ⟨i,Z⟩=>by
  cases i with
  | zero=>exact y.2 Z
  | succ i=>exact hVd 0 (i+1) ω b o y.1 Z
 have F:∀b o,R b o->b<w.heap.size:=λb o y=>(hV 0 b o y.1).1
 have t:∀b o,R b o->¬((∃i,W i b o)\/(b<w1.heap.size/\w.heap.size<=b)):=λb o y p=>by
  rcases p with p|p
  ·exact hRW b o y p
  have:=F b o y;omega
 have hRsame:bv R w w1:=λb o y=>⟨hk.cel b o (F b o y) (hRW b o y),hk.fro b o (F b o y) (hRW b o y)⟩
 have hRS1:∀b o,R b o->¬S1 b o:=λb o y hs=>by
  rcases hS1 b o hs with⟨-,l⟩|l
  ·exact(hV 0 b o y.1).2 l
  exact t b o y l
 have hSsame:bv S w w1:=λb o hb=>⟨hk.cel b o (hS b o hb) (λ⟨i,Z⟩=>(hV i b o (K i b o Z)).2 hb),hk.fro b o (hS b o hb) (λ⟨i,Z⟩=>(hV i b o (K i b o Z)).2 hb)⟩
 have hRc:∀j,c.length<=j->j<(c++r).length->R g (q+j):=λj l a=>by
  refine⟨hX1 _ _ (u j a).1,λp=>?_⟩;rcases p with⟨-,Q,h4⟩|⟨N,Q,h4,h5⟩
  ·omega
  exact O _ _ (u j a).1 (J N ω _ _ h5)
 have L:∀j,c.length<=j->j<(c++r).length->∀b o,ff j b o->R b o:=λj l a b o p=>by
  refine⟨hY _ _ (J j a b o p),λhp=>?_⟩;rcases hp with⟨rfl,Q,h4⟩|⟨N,Q,h4,h5⟩
  ·exact O _ _ (hcX o ω ω) (J j a _ _ p)
  exact hf3 j N a ω ω b o p h5
 let U:Nat->am:=QF (λb o=>V' 0 b o\/R b o) (λi=>V' (i+1))
 have hU:∀i b o,U i b o->V' i b o\/(i=0/\R b o):=λi b o p=>by
  cases i with
  | zero=>exact p.imp id (λh=>⟨rfl,h⟩)
  | succ i=>exact .inl p
 refine⟨v,he,hk.more H,X,U,S1,λb o p=>(hX b o p).imp (H b o) id,λi b o p=>?_,λb o p=>(hS1 b o p).imp id (Or.imp (H b o) id),λi i' D b o l a=>?_,λi b o l a=>?_,hXS,λi b o l a=>?_,hh,hr,?_,hm.2⟩
 ·rcases hU i b o p with l|⟨-,l⟩
  ·exact(E i b o l).imp (H b o) id
  exact .inl ⟨0,l.1⟩
 ·rcases hU i b o l with l|⟨e1,l⟩
  ·rcases hU i' b o a with a|⟨e2,a⟩
   ·exact hVd' i i' D b o l a
   exact t b o a (E i b o l)
  rcases hU i' b o a with a|⟨e2,a⟩
  ·exact t b o l (E i' b o a)
  exact D ω
 ·rcases hU i b o a with a|⟨-,a⟩
  ·exact hXV i b o l a
  exact t b o a (hX b o l)
 ·rcases hU i b o l with l|⟨-,l⟩
  ·exact hVS1 i b o l a
  exact hRS1 b o l a
 obtain⟨Xa,Ya,ha1,ha2,ha3,⟨ga,oa,hea,ha4⟩,fa,ha5,ha6,ha7⟩:=(show qT w1 (λb o=>S b o\/S1 b o) (V' 0) (.ptr c') (.pointer (some ⟨g,q,none⟩)) from hm.1)
 obtain⟨rfl,rfl⟩ : g=ga/\q=oa:=by simpa using hea
 have G:(c'++r).length=c.length+r.length:=by rw[C4,hl]
 show qT w1 (λb o=>S b o\/S1 b o) (λb o=>V' 0 b o\/R b o) (.ptr (c'++r)) (.pointer (some ⟨g,q,none⟩));have faV:∀j,j<c.length->∀b o,fa j b o->V' 0 b o:=λj M b o p=>ha2 _ _ (ha6 j ω b o p)
 refine⟨λb o=>Xa b o\/(R b o/\∃j,c.length<=j/\j<(c++r).length/\b=g/\o=q+j),λb o=>Ya b o\/∃j,c.length<=j/\j<(c++r).length/\ff j b o,λb o p=>?_,λb o p=>?_,λb o l a=>?_,⟨g,q,rfl,λj M=>?_⟩,λj=>if j<c.length then fa j else ff j,λj d M=>?_,λj M b o p=>?_,λj N M hj' D b o l a=>?_⟩
 ·exact p.imp (ha1 b o) (·.1)
 ·rcases p with p|⟨j,l,a,Q⟩
  ·exact .inl (ha2 b o p)
  exact .inr (L j l a b o Q)
 ·rcases l with l|⟨l,j,j1,j2,rfl,rfl⟩
  ·rcases a with a|⟨j,j1,j2,j3⟩
   ·exact ha3 b o l a
   exact t b o (L j j1 j2 b o j3) (E 0 b o (ha1 b o l))
  rcases a with a|⟨N,j3,j4,j5⟩
  ·exact t _ _ l (E 0 _ _ (ha2 _ _ a))
  exact O _ _ (u j j2).1 (J N j4 _ _ j5)
 ·rw[G]at M
  by_cases hc:j<c.length
  ·have:=ha4 j ω
   exact⟨.inl this.1,this.2⟩
  have y:=hRc j ω ω;have hs:=hRsame _ _ y;have T:=u j ω;refine⟨.inr ⟨y,j,ω,ω,rfl,rfl⟩,?_,?_⟩
  ·rw[hs.1];exact T.2.1
  rw[hs.2];exact T.2.2
 ·dsimp only
  by_cases hc:j<c.length
  ·rw[CE hc]
   rw[Y5 ω]at M;exact ha5 j d M
  rw[CC hc];rw[Z5 ω,hl]at M;have hj2:(c++r)[j]? = some d:=by rw[Z5 ω];exact M
  have hjl:=(I3.1 hj2).1;have Q:=(hf1 j d hj2).keep hSsame (λb o p=>hRsame b o (L j ω hjl b o p));have T:=(hRsame _ _ (hRc j ω hjl)).1;have:cw w1 .box (.pointer (some ⟨g,q,none⟩)) j=cw w .box (.pointer (some ⟨g,q,none⟩)) j:=by
   simp only[cw];rw[T]
  rw[this];exact Q.mono (λ_ _ h=>.inl h) (λ_ _ h=>h)
 ·rw[G]at M
  split at p
  ·rename_i hc;exact .inl (ha6 j ω b o p)
  exact .inr ⟨j,ω,ω,p⟩
 rw[G]at M hj';split at l
 ·rename_i c1
  split at a
  ·exact ha7 j N ω ω D b o l a
  exact t b o (L N ω ω b o a) (E 0 b o (faV j c1 b o l))
 split at a
 ·rename_i c1;exact t b o (L j ω ω b o l) (E 0 b o (faV N c1 b o a))
 exact hf3 j N ω ω D b o l a
mutual
def We:∀c:C,fz (fz c)=fz c
 | .v x=>by simp[fz]
 | .s o rows=>by simp only[fz];rw[Mj rows]
 | .x=>by simp[fz]
 | .z=>by simp[fz]
 | .m _=>by simp[fz]
 | .it _ _=>by simp[fz]
def Mj:∀a:List (List C),fzR (fzR a)=fzR a
 | []=>rfl
 | r::a=>by simp only[fzR];rw[tY r,Mj a]
def tY:∀cs:List C,dM (dM cs)=dM cs
 | []=>rfl
 | c::cs=>by simp only[dM];rw[We c,tY cs]
end
def oB(k:ah)(a:aD k=true)(e:k.Calls≠100000):zzB 484 false [.ptr (ah.enc .own k)] [.ptr (ah.enc .own (cu k))] .one [B (!refd k)]:=by
 have b:=bk a;have c:=(aC.1 a).2.2.2.2;have d:=JF k.u k.Calls (by have:=b.2;omega);refine fM 22 [] [(2,9,[11,12,13,14,15,16,17,18,19])] [(0,0)] Tryz.func484 rfl (λu q=>?_)
 repeat'(first|refine gP ?_|refine CH (d) ⟨⟨rfl,dH _⟩,⟨rfl,C1 (λz=>[I z]) ω⟩,trivial⟩ ?_)
 refine CL rfl ?_ ?_
 ·rfl
 exact wB
def pM(k:ah)(p m:Int)(a:aD k=true)(j:k.Calls≠100000)(d:(af k.G.Q p).j≠0)(l:m=1\/m=2):zzB 575 false [.ptr (ah.enc .own k),.val none [I p],.val none [I m]] [.ptr (ah.enc .own (fI k p m).1),.val none [I p],.val none [I m]] .one [B (fI k p m).2]:=by
 have n:=bk a;have b:=oB k a j;have g:=fg (cu k) p n.1.2;have c:=aK m 1 2;rw[O0 ω]at c;obtain⟨o,t,w,-⟩:=bK a d;have h:=ar (xs:=k.G.Q.K) (i:=p.toNat) ω;have r:¬(af (cu k).G.Q p).j=0:=d;unfold fI;cases e:refd k<;>rw[e]at b
 ·rw[CC (by simp),wl]
  refine fM 31 [(484,[2])] [] [(0,0),(0,0),(0,0)] Tryz.func575 rfl (λu q=>?_)
  repeat'(first|refine gB ?_|refine CH (g) ⟨CS (cu k),⟨rfl,rfl⟩,trivial⟩ ?_|refine CO o (aa h) ?_|refine CR rfl rfl (aa h) rfl (Z1 rfl) rfl ?_)
  refine CL rfl ?_ ?_
  ·rfl
  exact wB
 rw[CE rfl];refine fM 31 [(484,[2])] [] [(0,0),(0,0),(0,0)] Tryz.func575 rfl (λu q=>?_)
 repeat'(first|refine gB ?_|refine CH (g) ⟨CS (cu k),⟨rfl,rfl⟩,trivial⟩ ?_)
 refine CL rfl ?_ ?_
 ·rfl
 exact wB
def Rw.two{off k j d e b:Nat}{K:List C->Nat->Prop}{o f:dX}{rows rows2:List (List C)}{r a:List C}(h1:c[off]? = some (.s o rows))(g:rows[i]? = some r)(h:r.length=k)(l:r[j]? = some (.s f rows2))(n:rows2[d]? = some a)(p:a.length=e)(q:K a b):Rw c off [(i,k,j),(d,e,b)] K:=
 Rw.mk (r:=a) (j:=b) (by simp[cA,h1,g,h,l,n,p]) q
def De(k:ah)(a b c:Int)(h:aD k=true)(F:(af k.G.Q a).j≠0)(G:(af k.G.Q b).j≠0)(g:0<=c/\c<=15):zzB 576 false [.ptr (ah.enc .own k),.val none [I a],.val none [I b],.val none (aH .U [c])] [.ptr (ah.enc .own (pQ k a b c)),.val none [I a],.val none [I b],.val none (aH .U [c])] .one [B true]:=by
 have w:=bk h;have H:=fg k a w.1.2;have J:=fg k b w.1.2;have y:=aK c 0 15;rw[O0 g]at y;obtain⟨K,O,L,C,P⟩:=bK h F;obtain⟨M,Q,D,E,R⟩:=bK h G;have N:=(aZ.1 (aC.1 h).2.1).2.2.1;have S:=row16 h (f:=bF k a) (by unfold bF;omega);have T:=row16 h (f:=bF k b) (by unfold bF;omega);have d:k.G.W.T[(af k.G.Q a).e.toNat]? = some (nth k.G.W.T (bF k a)):=ar ω;have e:k.G.W.T[(af k.G.Q b).e.toNat]? = some (nth k.G.W.T (bF k b)):=ar ω;have l:=ar (xs:=nth k.G.W.T (bF k a)) (i:=c.toNat) ω;have o:=ar (xs:=nth k.G.W.T (bF k b)) (i:=c.toNat) ω;have p:=ar (xs:=k.G.Q.K) (i:=a.toNat) ω;have r:=ar (xs:=k.G.Q.K) (i:=b.toNat) ω;rw[L]at C d;rw[D]at E e;have t:[c][0]? = some c:=rfl;refine fM 90 [] [(13,28,[61,62,63,64,65,66,67,68,69,70,71,72,73,74,75,76,77,78,79,80,81,82,83,84,85,86,87,88])] [(0,0),(0,0),(0,0),(0,0)] Tryz.func576 rfl (λu q=>?_)
 repeat'(first|refine gB ?_|refine CH (H) ⟨CS k,⟨rfl,rfl⟩,trivial⟩ ?_|refine CH (J) ⟨CS k,⟨rfl,rfl⟩,trivial⟩ ?_)
 refine CK (ι:=Nat) (λn=>[(0,.H .box (ah.enc .own k)),(1,.H .one [I (a)]),(2,.H .one [I (b)]),(3,.H .one (aH .U [c])),(9,.H .one [I ((n:Nat):Int)])]) (λn=>n<=1) (λn=>1 - n) (0) ?_ (Z0 _) λn U=>?_
 ·exact wB
 by_cases V:n<1
 ·obtain rfl:n=0:=ω
  repeat'(first|refine gE ?_|refine CO (by decide) (aa t) ?_)
  (refine CG 1 ω ω ?_;(exact wB))
 obtain rfl:n=1:=ω
 repeat'(first|refine gE ?_|refine CO K (aa p) ?_|refine CO M (aa r) ?_)
 refine CK (ι:=Nat) (λj=>[(0,.H .box (ah.enc .own (MK k a b c j))),(3,.H .one (aH .U [c])),(10,.H .one [I ((nth k.G.Q.K a.toNat).e)]),(11,.H .one [I ((nth k.G.Q.K b.toNat).e)]),(12,.H .one [I ((j:Nat):Int)])]) (λj=>j<=1) (λj=>1 - j) (0) ?_ (Z0 _) λj W=>?_
 ·exact wB
 by_cases X:j<1
 ·obtain rfl:j=0:=ω
  repeat'(first|refine gE ?_|refine CO (by decide) (aa t) ?_|refine CO C (aa d) ?_|refine CO E (aa e) ?_|refine CO g.1 (aa l) ?_|refine CO g.1 (aa o) ?_|refine Rw.two rfl (aa d) rfl rfl (aa l) rfl ?_|refine Pu.two rfl rfl (aa e) rfl rfl rfl (aa o) rfl (v4 _) rfl ?_)
  (refine CG 1 ω ω ?_)
  rw[show MK k a b c 1=pQ k a b c from rfl];unfold pQ;rw[xa,show bF k b=(nth k.G.Q.K b.toNat).e.toNat by unfold bF;rw[D]];exact wB
 obtain rfl:j=1:=ω
 refine ZE ?_
 refine CL rfl ?_ ?_
 ·rfl
 exact wB
def JW(k:ah)(p o:Int)(a:aD k=true)(y:k.Calls≠100000)(g:(af k.G.Q p).j≠0)(h:(af k.G.Q o).j≠0)(C:p≠o):zzB 577 false [.ptr (ah.enc .own k),.val none [I p],.val none [I o]] [.ptr (ah.enc .own (sJ k p o).1),.val none [I p],.val none [I o]] .one [B (sJ k p o).2]:=by
 have b:=bk a;have c:=oB k a y;have j:=fg (cu k) p b.1.2;have l:=fg (cu k) o b.1.2;obtain⟨D,K,E,n,r⟩:=bK a g;obtain⟨F,L,M,N,O⟩:=bK a h;have G:=(aZ.1 (aC.1 a).2.1).2.2.1;have d:=ar (xs:=k.G.Q.K) (i:=p.toNat) ω;have t:=ar (xs:=k.G.Q.K) (i:=o.toNat) ω;have H:¬(af (cu k).G.Q p).j=0:=g;have J:¬(af (cu k).G.Q o).j=0:=h;rw[E]at n r;have w:=ug (vG (cu k) p.toNat ⟨2,(nth k.G.Q.K o.toNat).e⟩) (nth k.G.Q.K p.toNat).e (JC _ _ b.1.2) ⟨n,by show _<((k.G.W.T.length:Nat):Int);omega,r⟩;rw[J1]at w;unfold sJ;cases e:refd k<;>rw[e]at c
 ·rw[CC (by simp)]
  refine fM 60 [(484,[2]),(486,[2,0])] [(4,274,[38,39,40,41,42,43,44,45,46,47,48,49,50,51,52,53,54,56,0,1,2,3,4,5,6,7,8,9,10,11,12,13,14,15,16,17,1000,1001,1002,1003,1004,1005,1006,18,19])] [(0,0),(0,0),(0,0)] Tryz.func577 rfl (λu q=>?_)
  repeat'(first|refine gB ?_|refine CH (j) ⟨CS (cu k),⟨rfl,rfl⟩,trivial⟩ ?_|refine CH (l) ⟨CS (cu k),⟨rfl,rfl⟩,trivial⟩ ?_|refine CO D (aa d) ?_|refine CO F (aa t) ?_|refine CR rfl rfl (aa d) rfl (Z1 rfl) rfl ?_)
  refine CL rfl ?_ ?_
  ·rfl
  exact wB
 rw[CE rfl];refine fM 60 [(484,[2]),(486,[2,0])] [(4,274,[38,39,40,41,42,43,44,45,46,47,48,49,50,51,52,53,54,56,0,1,2,3,4,5,6,7,8,9,10,11,12,13,14,15,16,17,1000,1001,1002,1003,1004,1005,1006,18,19])] [(0,0),(0,0),(0,0)] Tryz.func577 rfl (λu q=>?_)
 repeat'(first|refine gB ?_|refine CH (j) ⟨CS (cu k),⟨rfl,rfl⟩,trivial⟩ ?_|refine CH (l) ⟨CS (cu k),⟨rfl,rfl⟩,trivial⟩ ?_)
 refine CL rfl ?_ ?_
 ·rfl
 exact wB
def Bm(m:aY)(a:Int)(d:aY.sml m)(c:0<=a/\a<512):zzA 590 false [.val (some 3) (aY.enc .U m),.val none [I a]] (.tup [some 2,none]) (bm.enc .own (af m.Q (a / 16))++[I (a % 16)]):=by
 have e:=dy m.Q (a / 16) d.2;have b:a.tmod 16=a % 16:=eK c.1;refine fO 16 [] Tryz.func590 rfl ?_ (.inr ⟨trivial,trivial,trivial,trivial⟩)
 repeat'(first|refine gE ?_|refine CP (qB c) ?_|refine CQ (by decide) ?_|refine CU b ?_)
 rfl
def KG(m:aY)(a v:Int)(o:dx m=true)(e:aY.sml m)(p:0<=a/\a<512)(q:0<=v/\v<=999)(r:(af m.Q (a / 16)).j≠0->0<=(af m.Q (a / 16)).e/\(af m.Q (a / 16)).e<m.W.T.length/\(nth m.W.T (af m.Q (a / 16)).e.toNat).length=16):zzA 588 false [.val (some 3) (aY.enc .U m),.val none [I a],.val none [I v]] (.tup [some 3,none]) (aY.enc .own (gg m a v).1++[I (gg m a v).2]):=by
 have c:=qg m e;rw[o]at c;have g:=tW m e;have h:=Bm m a e p;have d:=aK v 0 999;rw[O0 q]at d;have b:=aY.enc_fr (gg m a v).1;unfold gg at b |-;by_cases j:(af m.Q (a / 16)).j=0
 ·rw[CE j]at b |-
  refine fO 47 [] Tryz.func588 rfl ?_ (.inr (aJ b ⟨trivial,trivial⟩))
  refine ZB ?_
  rfl
 rw[CC j]at b |-;by_cases l:(af m.Q (a / 16)).j=1
 ·rw[CE l]at b |-
  refine fO 47 [] Tryz.func588 rfl ?_ (.inr (aJ b ⟨trivial,trivial⟩))
  refine ZB ?_
  rfl
 rw[CC l]at b |-;obtain⟨t,u,w⟩:=r j;have k:=ar (xs:=m.W.T) (i:=(af m.Q (a / 16)).e.toNat) ω;have n:=ar (xs:=nth m.W.T (af m.Q (a / 16)).e.toNat) (i:=(a % 16).toNat) ω;simp only at b |-;rw[zL]at b |-;refine fO 47 [] Tryz.func588 rfl ?_ (.inr (aJ b ⟨trivial,trivial⟩))
 repeat'(first|refine gB ?_|refine CO t (aa k) ?_|refine CO ω (aa n) ?_|refine Pu.two rfl rfl (aa k) rfl rfl rfl (aa n) rfl (v4 _) rfl ?_)
 rfl
def iq{j:cz} : jmay k j=true↔(aD k=true/\k.Calls≠100000)/\jX j=true/\(af k.G.Q j.X.a3).j≠0/\(af k.G.Q j.X.a0).j≠0/\(af k.G.Q j.X.a3).e≠(af k.G.Q j.X.a0).e:=by
 unfold jmay;simp only[I0,C0]
def mc{p:cn}(h:fk p=true):p.T.length<=16:=by
 unfold fk at h;simp only[I0]at h;have a:∀i,i<p.T.length->(i:Int)<=nth p.T i:=λi=>by
  induction i with
  | zero=>
   intro a;have:=fG h.1 a;unfold nv at this;rw[C0]at this;exact this.1
  | succ i b=>
   intro a;have c:=b ω;have:=fG h.1 a;unfold nv at this;rw[C0]at this;have d:=this.2.2.resolve_left ω;rw[Nat.add_sub_cancel]at d;omega
 by_cases e:p.T.length<=16
 ·exact e
 exfalso;have c:=a 16 ω;have:=fG h.1 (show 16<p.T.length by omega);unfold nv at this;rw[C0]at this;omega
def vD{j:cz}(h:jX j=true):cz.sml j:=by
 have:=mc (cW.1 h).1;show j.X.T.length<=1048576;omega
def oe(h:aD k=true):dx k.G=true:=by
 unfold aD at h;simp only[I0]at h;exact h.1.2
def EW(k:ah)(j:cz)(p:jmay k j=true)(g:j.b0=3):zzB 578 false [.ptr (ah.enc .own k),.ptr (zp j)] [.ptr (ah.enc .own (jstep k j).1),.ptr (zp (jstep k j).2)] (.tup []) []:=by
 obtain⟨⟨a,r⟩,t,c,d,w⟩:=iq.1 p;obtain⟨h,H,J,K,L⟩:=cW.1 t;have y:=bk a;obtain⟨M,N,O,B,P⟩:=bK a c;have l:=(bo.1 (aC.1 a).2.2.1).2.2;have C:=mc h;have D:=(aZ.1 (aC.1 a).2.1).2.2.1;unfold jstep;rw[CC ω,CC ω,CC ω,CE g];by_cases n:0<j.b
 ·rw[CE n]
  have o:=fU h (i:=(j.b - 1).toNat) ω;have E:=ar (xs:=j.X.T) (i:=(j.b - 1).toNat) ω;have F:0<=j.X.a3*16+nth j.X.T (j.b - 1).toNat/\j.X.a3*16+nth j.X.T (j.b - 1).toNat<512:=ω
  have G:(j.X.a3*16+nth j.X.T (j.b - 1).toNat) / 16=j.X.a3:=ω
  have b:=KG k.G (j.X.a3*16+nth j.X.T (j.b - 1).toNat) 0 (oe a) y.1 F ω (λ_=>by rw[G];exact⟨B,ω,row16 a (f:=bF k j.X.a3) (by unfold bF;omega)⟩);generalize (gg k.G (j.X.a3*16+nth j.X.T (j.b - 1).toNat) 0).1=m at b |-;generalize (gg k.G (j.X.a3*16+nth j.X.T (j.b - 1).toNat) 0).2=e at b;refine fM 59 [(575,[2,0,0])] [(2,283,[20,21,22,23,24,25,26,27,28,29,30,31,32,33,34,35,36,37,38,39,40,41,42,19,43,44,4,0,1,2,3,4,5,6,7,8,9,10,11,12,13,14,15,16,17,18,19,20,21,22,23,24,25,26,27,1025,28])] [(0,0),(1,0)] Tryz.func578 rfl (λu q=>?_) (.inr trivial)
  repeat'(first|refine gE ?_|refine CH (b) ⟨⟨rfl,aY.enc_fz k.G⟩,⟨rfl,rfl⟩,⟨rfl,rfl⟩,trivial⟩ ?_|refine CO ω (aa E) ?_)
  refine CL rfl rfl ?_;exact wC
 rw[CC n];have b:=pM k j.X.a0 2 a r d (.inr rfl);cases e:(fI k j.X.a0 2).2<;>rw[e]at b
 ·refine fM 59 [(575,[2,0,0])] [(2,283,[20,21,22,23,24,25,26,27,28,29,30,31,32,33,34,35,36,37,38,39,40,41,42,19,43,44,4,0,1,2,3,4,5,6,7,8,9,10,11,12,13,14,15,16,17,18,19,20,21,22,23,24,25,26,27,1025,28])] [(0,0),(1,0)] Tryz.func578 rfl (λu q=>?_) (.inr trivial)
  refine ZE ?_
  refine CL rfl rfl ?_;rw[<-g];exact wC
 refine fM 59 [(575,[2,0,0])] [(2,283,[20,21,22,23,24,25,26,27,28,29,30,31,32,33,34,35,36,37,38,39,40,41,42,19,43,44,4,0,1,2,3,4,5,6,7,8,9,10,11,12,13,14,15,16,17,18,19,20,21,22,23,24,25,26,27,1025,28])] [(0,0),(1,0)] Tryz.func578 rfl (λu q=>?_) (.inr trivial)
 refine ZE ?_
 refine CL rfl rfl ?_;exact wC
def Gs(k:ah)(j:cz)(g:jmay k j=true):zzB 529 false [.ptr (ah.enc .own k),.ptr (zp j)] [.ptr (ah.enc .own (jstep k j).1),.ptr (zp (jstep k j).2)] (.tup []) []:=by
 obtain⟨⟨h,p⟩,B,c,b,l⟩:=iq.1 g;obtain⟨r,F,G,H,J⟩:=cW.1 B;have n:j.X.a0≠j.X.a3:=λe=>l (by rw[e])
 have C:=mc r;by_cases d:j.b0=0
 ·have a:=pM k j.X.a0 1 h p b (.inl rfl)
  unfold jstep;rw[CE d];cases e:(fI k j.X.a0 1).2<;>rw[e]at a
  ·refine fM 80 [(575,[2,0,0]),(576,[2,0,0,0]),(577,[2,0,0]),(578,[2,2])] [(7,7,[27,28,29,30,31,32,33]),(9,14,[38,39,40,41,42,43,44,45,46,47,48,49,50,51])] [(0,0),(1,0)] Tryz.func529 rfl (λu q=>?_) (.inr trivial)
   refine ZB ?_
   refine CL rfl rfl ?_;exact wC
  refine fM 80 [(575,[2,0,0]),(576,[2,0,0,0]),(577,[2,0,0]),(578,[2,2])] [(7,7,[27,28,29,30,31,32,33]),(9,14,[38,39,40,41,42,43,44,45,46,47,48,49,50,51])] [(0,0),(1,0)] Tryz.func529 rfl (λu q=>?_) (.inr trivial)
  refine ZB ?_
  refine CL rfl rfl ?_;exact wC
 by_cases o:j.b0=1
 ·unfold jstep
  rw[CC d,CE o];by_cases t:j.b=j.X.T.length
  ·rw[CE t]
   refine fM 80 [(575,[2,0,0]),(576,[2,0,0,0]),(577,[2,0,0]),(578,[2,2])] [(7,7,[27,28,29,30,31,32,33]),(9,14,[38,39,40,41,42,43,44,45,46,47,48,49,50,51])] [(0,0),(1,0)] Tryz.func529 rfl (λu q=>?_) (.inr trivial)
   refine ZB ?_
   refine CL rfl rfl ?_;exact wC
  rw[CC t];have D:=ar (xs:=j.X.T) (i:=j.b.toNat) ω;have a:=De k j.X.a0 j.X.a3 (nth j.X.T j.b.toNat) h b c (fU r ω);have E:=(iq.1 g).2.1;refine fM 80 [(575,[2,0,0]),(576,[2,0,0,0]),(577,[2,0,0]),(578,[2,2])] [(7,7,[27,28,29,30,31,32,33]),(9,14,[38,39,40,41,42,43,44,45,46,47,48,49,50,51])] [(0,0),(1,0)] Tryz.func529 rfl (λu q=>?_) (.inr trivial)
  repeat'(first|refine gB ?_|refine CM a (.inr ⟨rfl,Cc _,trivial⟩) ?_|refine CO ω (aa D) ?_)
  refine CL rfl rfl ?_;exact wC
 by_cases w:j.b0=2
 ·have a:=JW k j.X.a0 j.X.a3 h p b c n
  unfold jstep;rw[CC d,CC o,CE w];cases e:(sJ k j.X.a0 j.X.a3).2<;>rw[e]at a
  ·refine fM 80 [(575,[2,0,0]),(576,[2,0,0,0]),(577,[2,0,0]),(578,[2,2])] [(7,7,[27,28,29,30,31,32,33]),(9,14,[38,39,40,41,42,43,44,45,46,47,48,49,50,51])] [(0,0),(1,0)] Tryz.func529 rfl (λu q=>?_) (.inr trivial)
   refine ZB ?_
   refine CL rfl rfl ?_;exact wC
  refine fM 80 [(575,[2,0,0]),(576,[2,0,0,0]),(577,[2,0,0]),(578,[2,2])] [(7,7,[27,28,29,30,31,32,33]),(9,14,[38,39,40,41,42,43,44,45,46,47,48,49,50,51])] [(0,0),(1,0)] Tryz.func529 rfl (λu q=>?_) (.inr trivial)
  refine ZB ?_
  refine CL rfl rfl ?_;exact wC
 by_cases y:j.b0=3
 ·have a:=EW k j g y
  refine fM 80 [(575,[2,0,0]),(576,[2,0,0,0]),(577,[2,0,0]),(578,[2,2])] [(7,7,[27,28,29,30,31,32,33]),(9,14,[38,39,40,41,42,43,44,45,46,47,48,49,50,51])] [(0,0),(1,0)] Tryz.func529 rfl (λu q=>?_) (.inr trivial)
  refine ZB ?_
  refine CL rfl rfl ?_;exact wC
 unfold jstep;rw[CC d,CC o,CC w,CC y];refine fM 80 [(575,[2,0,0]),(576,[2,0,0,0]),(577,[2,0,0]),(578,[2,2])] [(7,7,[27,28,29,30,31,32,33]),(9,14,[38,39,40,41,42,43,44,45,46,47,48,49,50,51])] [(0,0),(1,0)] Tryz.func529 rfl (λu q=>?_) (.inr trivial)
 refine ZB ?_
 refine CL rfl rfl ?_;exact wC
def JG(k:ah)(j:cz)(e:aD k=true)(i:jX j=true):zzA 528 false [.val (some 5) (ah.enc .U k),.val (some 5) (cz.enc .U j)] .one [B (jmay k j)]:=by
 have c:=bk e;have b:dM (ah.enc .U k)=ah.enc .U k:=by rw[<-CS k,tY]
 have r:=(aC.1 e).2.2.2.2;have a:=nk k c;rw[e]at a;have d:=Az j (vD i);rw[i]at d;have l:=fg k j.X.a3 c.1.2;have n:=fg k j.X.a0 c.1.2;have t:=dy k.G.Q j.X.a3 c.1.2;have u:=dy k.G.Q j.X.a0 c.1.2;by_cases o:k.Calls=100000
 ·rw[X0 ω]at a
  rw[show jmay k j=false by rw[<-S7,iq];exact λh=>h.1.2 o];refine fO 44 [(3,16,[27,28,29,30,31,32,33,34,35,36,37,38,39,40,41,42])] Tryz.func528 rfl ?_
  refine ZP ?_
  rfl
 rw[O0 ω]at a;by_cases p:(af k.G.Q j.X.a3).j=0
 ·rw[show jmay k j=false by rw[<-S7,iq];exact λh=>h.2.2.1 p]
  refine fO 44 [(3,16,[27,28,29,30,31,32,33,34,35,36,37,38,39,40,41,42])] Tryz.func528 rfl ?_
  repeat'(first|refine gB ?_|refine CH (l) ⟨b,⟨rfl,rfl⟩,trivial⟩ ?_|refine CH (n) ⟨b,⟨rfl,rfl⟩,trivial⟩ ?_)
  rfl
 by_cases q:(af k.G.Q j.X.a0).j=0
 ·rw[show jmay k j=false by rw[<-S7,iq];exact λh=>h.2.2.2.1 q]
  refine fO 44 [(3,16,[27,28,29,30,31,32,33,34,35,36,37,38,39,40,41,42])] Tryz.func528 rfl ?_
  repeat'(first|refine gB ?_|refine CH (l) ⟨b,⟨rfl,rfl⟩,trivial⟩ ?_|refine CH (n) ⟨b,⟨rfl,rfl⟩,trivial⟩ ?_)
  rfl
 refine fO 44 [(3,16,[27,28,29,30,31,32,33,34,35,36,37,38,39,40,41,42])] Tryz.func528 rfl ?_
 repeat'(first|refine gB ?_|refine CH (l) ⟨b,⟨rfl,rfl⟩,trivial⟩ ?_|refine CH (n) ⟨b,⟨rfl,rfl⟩,trivial⟩ ?_)
 exact C1 (λz=>[B z]) (by
   unfold jmay;rw[e,i,O0 o];by_cases g:(af k.G.Q j.X.a3).e=(af k.G.Q j.X.a0).e
   · rw[X0 (λh=>h.2.2 g)];simp[g]
   rw[O0 ⟨p,q,g⟩];simp[g])
def F8(j:cz):zzA 530 false [.val (some 5) (cz.enc .U j)] .one [B (over j)]:=by
 by_cases a:j.b0=4
 ·rw[show over j=true from O0 (.inl a)]
  refine fO 11 [] Tryz.func530 rfl ?_
  refine ZB ?_
  rfl
 rw[show over j=decide (j.b0=5) from decide_eq_decide.2 ω];refine fO 11 [] Tryz.func530 rfl ?_
 refine ZB ?_
 exact C1 (λz=>[B z]) (by rw[I6];simp)
def M2(x:ac):List C:=(bL x).set 21 .z
def Jr{x:ac}(h:x.Y.X.T=[]):R1 (M2 x) (bL x):=by
 unfold M2 bL;simp only[List.set,h,List.map_nil]
 repeat'(first|exact trivial|exact dG _|refine CN ?_ ?_|rfl)
def FB(h:ac)(j:bc h [])(k:h.q=true):zzB 431 false [.ptr (bL h)] [.ptr (bL (mStep h))] .one [B (m9 h)]:=by
 obtain⟨l,-,-⟩:=j.job k;have b:=JG h.F h.Y j.ker l;have a:=F8 (eE h.F h.Y).2;unfold m9 mStep;cases e:jmay h.F h.Y with
 | false=>
  rw[e]at b;have d:eE h.F h.Y=(h.F,h.Y):=by unfold eE;rw[e];rfl
  rw[d]at a |-;simp only at a |-;cases g:over h.Y<;>rw[g]at a
  ·refine fM 39 [(529,[3,5,5])] [(1,8,[4,5,6,7,8,9,10,11]),(2,6,[13,14,15,16,17,18])] [(0,0)] Tryz.func431 rfl (λu q=>?_)
   repeat'(first|refine gP ?_|refine CH (b) ⟨⟨rfl,CS h.F⟩,⟨rfl,rfl⟩,trivial⟩ ?_)
   refine CL rfl ?_ ?_
   ·exact C1 (λz=>[B z]) (by rw[I6];simp)
   exact wC
  refine aQ.wk (c:=M2 _) ?_ (Jr rfl);refine fM 39 [(529,[3,5,5])] [(1,8,[4,5,6,7,8,9,10,11]),(2,6,[13,14,15,16,17,18])] [(0,0)] Tryz.func431 rfl (λu q=>?_)
  repeat'(first|refine gP ?_|refine CH (b) ⟨⟨rfl,CS h.F⟩,⟨rfl,rfl⟩,trivial⟩ ?_)
  refine CL rfl ?_ ?_
  ·exact C1 (λz=>[B z]) (by rw[I6];simp)
  exact wC
 | true=>
  rw[e]at b;have d:eE h.F h.Y=jstep h.F h.Y:=by unfold eE;rw[e];rfl
  have i:=Gs h.F h.Y e;rw[d]at a |-;generalize jstep h.F h.Y=r at i a |-;cases g:over r.2<;>rw[g]at a
  ·refine fM 39 [(529,[3,5,5])] [(1,8,[4,5,6,7,8,9,10,11]),(2,6,[13,14,15,16,17,18])] [(0,0)] Tryz.func431 rfl (λu q=>?_)
   repeat'(first|refine gP ?_|refine CH (b) ⟨⟨rfl,CS h.F⟩,⟨rfl,rfl⟩,trivial⟩ ?_)
   refine CL rfl ?_ ?_
   ·exact C1 (λz=>[B z]) (by rw[I6];simp)
   exact wC
  refine aQ.wk (c:=M2 _) ?_ (Jr rfl);refine fM 39 [(529,[3,5,5])] [(1,8,[4,5,6,7,8,9,10,11]),(2,6,[13,14,15,16,17,18])] [(0,0)] Tryz.func431 rfl (λu q=>?_)
  repeat'(first|refine gP ?_|refine CH (b) ⟨⟨rfl,CS h.F⟩,⟨rfl,rfl⟩,trivial⟩ ?_)
  refine CL rfl ?_ ?_
  ·exact C1 (λz=>[B z]) (by rw[I6];simp)
  exact wC
def LX{k:Int} : ∀{l s s2 c:List Int}(n:Nat),(∀x∈s2,x∈s)->tL k s l=some c->∃d,tL k s2 (l.take n)=some d/\∀x∈d,x∈c
 | [],s,s2,c,n,h,e=>by
  simp only[tL,I1,List.take_nil]at e |-;subst e;exact⟨s2,rfl,h⟩
 | a::l,s,s2,c,0,h,e=>⟨s2,rfl,λx b=>(qX (λ_ y=>y) e).1 x (h x b)⟩
 | a::l,s,s2,c,n+1,h,e=>by
  simp only[List.take_succ_cons,tL]at e |-;split at e
  ·rename_i g
   rw[CE (show good k s2 a from⟨g.1,g.2.1,g.2.2.1,λx=>g.2.2.2 (h a x)⟩)];exact LX (l:=l) (s:=s++[a]) (s2:=s2++[a]) n (λx b=>by
     rcases t4.1 b with b|b
     · exact t4.2 (.inl (h x b))
     exact t4.2 (.inr b)) e
  cases e
def JR:∀{a:List (List Int)}{k:Nat}{s s2:List Int}(i n:Nat),(∀x∈s2,x∈s)->(iC k s a).isSome=true->(iC k s2 (a.set i ((nth a i).take n))).isSome=true
 | [],_,_,_,_,_,_,_=>rfl
 | l::a,k,s,s2,i,n,h,e=>by
  simp only[iC,gf]at e;split at e
  ·rename_i g
   cases b:tL k s l with
   | none=>rw[b]at e;cases e
   | some j=>
    rw[b]at e;cases i with
    | zero=>
     obtain⟨c,d,f⟩:=LX n h b;simp only[List.set_cons_zero,iC,gf];rw[CE ⟨by have:=g.1;simp only[nth,List.getD_cons_zero,O2];omega,g.2⟩];show((tL (k:Nat) s2 (l.take n)).bind λj=>iC (k+1) j a).isSome=true;rw[d];exact w6 f e
    | succ i=>
     obtain⟨o,c,d,f⟩:=qX h b;simp only[List.set_cons_succ,iC,gf];rw[CE g,d];exact JR i n f e
  cases e
def M1{c:aF}(h:bD c=true)(k:Nat):bD (rM c k)=true:=by
 unfold bD at h |-;simp only[I0,C0]at h |-;exact⟨by simp only[rM,I2];exact h.1,JR k _ (λ_ h=>h) h.2⟩
def m7(b:Int):Nat->List Int
 | 0=>[]
 | j+1=>if bf b (j:Nat)=true then m7 b j else m7 b j++[((j:Nat):Int)]
def wy{b:Int} : ∀{n:Nat}{z:Int},z∈m7 b n->0<=z/\z<n/\bf b z=false
 | 0,_,h=>by cases h
 | n+1,z,h=>by
  unfold m7 at h;split at h
  ·have:=wy h;exact⟨this.1,ω,this.2.2⟩
  rename_i e;rcases t4.1 h with h|h
  ·have:=wy h;exact⟨this.1,ω,this.2.2⟩
  rw[C2.1 h];exact⟨ω,ω,by simpa using e⟩
def rg(b:Int):∀n,(m7 b n).length<=n
 | 0=>v4 _
 | n+1=>by have:=rg b n;unfold m7;split<;>simp<;>omega
def pc(k b:Int):List Int:=if P6 k b=true then m7 b (slots k).toNat else []
def iy(h:ac)(i:Nat):List Int:=pc (nth h.J i).d (eB h i)
def tq{k b z:Int}(h:z∈pc k b):0<=z/\z<slots k/\bf b z=false:=by
 unfold pc at h;split at h
 ·have:=wy h;exact⟨this.1,ω,this.2.2⟩
 cases h
def z8(k b:Int):(pc k b).length<=16:=by
 unfold pc;split
 ·rename_i h
  unfold P6 at h;rw[C0]at h;have:=(hB (k:=k) ⟨h.1,h.2.1⟩).2.2.1;have:=rg b (slots k).toNat;omega
 exact Z0 _
def og(h:ac)(i:Nat):Int:=nth (iy h i) (G3 h.b3 ((iy h i).length:Nat)).toNat
def slotT(h:ac)(i:Nat):ac:={h with b3:=Bh h.b3,J:=h.J.set i (rJ (nth h.J i) (og h i))}
def qz(h:ac)(i:Nat):Int:=16*(nth h.J i).R+og h i*csz (nth h.J i).d
def we(a:0<(iy h i).length):og h i∈iy h i:=by
 have:=qq h.b3 (n:=((iy h i).length:Nat)) ω;exact au ω
def bc.slotT{h:ac}{E:List Int}{i:Nat}(a:bc h E)(b:i<h.J.length)(e:0<(iy h i).length):bc (slotT h i) (qz h i::E)/\jZ (slotT h i).J (qz h i) (nth h.J i).d:=by
 obtain⟨c,d,f⟩:=tq (we e);exact⟨a.take b ⟨c,d⟩ f (Fh _),(jZ.setS a.L b ⟨c,d⟩ _ _).2 (.inr ⟨rfl,.inr rfl⟩)⟩
def p6(h:ac)(c:Int)(i:Nat):Bool:=decide ((nth h.J i).d=c)&&(!fB h (nth h.J i).R&&decide (0<(iy h i).length))
def pn(h:ac)(c:Int):Option Nat:=(List.range h.J.length).find? (p6 h c)
def mL(h:ac)(c:Int):ac:=addS h (newK h.F (ay h.o 1).2.1).1 (ay h.o 1).1 (ay h.o 1).2.1 c
def mM(h:ac):Nat:=jE (FL (ay h.o 1).2.1) h.J
def jw(h:ac)(i:Nat):ac × Int:=if(iy h i).length=0 then(h,-1) else(slotT h i,qz h i)
def smallA(h:ac)(t c:Nat):ac × Int:=
 if 0<(nth (nth h.S t).Z c).length then({h with S:=h.S.set t (rM (nth h.S t) c)},nth (nth (nth h.S t).Z c) ((nth (nth h.S t).Z c).length - 1))
 else match pn h c with
 | some i=>(slotT h i,qz h i)
 | none=>if(ay h.o 1).2.2=false then(h,-1)
  else if(newK h.F (ay h.o 1).2.1).2=false then({h with F:=(newK h.F (ay h.o 1).2.1).1},-1)
  else jw (mL h c) (mM h)
def EK[Inhabited α](p:α->Bool)(xs:List α)(y:α):jE p xs<(jW p xs y).length/\nth (jW p xs y) (jE p xs)=y:=by
 have b:=TZ p xs;have a:(xs.take (jE p xs)).length=jE p xs:=by rw[O2];omega
 refine⟨by rw[(lX p xs y).length_eq,List.length_cons];omega,bq ?_⟩;unfold jW;rw[Z5 ω,a,Nat.sub_self]
 rfl
def bc.tEq{h:ac}{E:List Int}(a:bc h E){k:ah}(c:aD k=true)(b:tEq (tbl h) k.G.Q):bc {h with F:=k} E/\JK h {h with F:=k}:=
 ⟨a.step (j:=h.Y) (m:=h.q) c b.1 (a.pg.tEq b) a.job a.noj,⟨rfl,rfl,λs d _=>⟨s,d,rfl,λ_ z=>z⟩,λq e=>.inl ⟨(b.2 q).1.1 e,(b.2 q).2⟩⟩⟩
structure Wv(h:ac)(c:Int)(r:ac × Int):Prop where
 no:r.2<0->bc r.1 []
 yes:0<=r.2->bc r.1 [r.2]/\jZ r.1.J r.2 c
 jk:JK h r.1
 nx:r.1.b=h.b
 cl:r.1.S.length=h.S.length
def jZ.nn(b:bc h E){c:Int}(d:jZ h.J a c):0<=a:=(jZ.bd b d).1
def Wv.slot{c:Int}(g:bc h' [])(j:i<h'.J.length)(k:0<(iy h' i).length)(l:(nth h'.J i).d=c)(n:JK h h')(a:fB h' (nth h'.J i).R=false)(h1:h'.b=h.b)(o:h'.S.length=h.S.length):Wv h c (slotT h' i,qz h' i):=by
 obtain⟨d,f⟩:=g.slotT j k;have b:=jZ.nn d f;exact⟨λe=>absurd b (by simp only at e;omega),λ_=>⟨d,by rw[<-l];exact f⟩,n.trans (JK.take a),h1,o⟩
def ov{c:Nat}(a:bc h [])(q:t<h.S.length)(P:c<=3)(B:h.F.Calls<=90000):Wv h c (smallA h t c):=by
 have f:=a.cach _ (au q);have C:=kR f;unfold smallA;split
 ·rename_i D
  obtain⟨d,b⟩:=a.pop q ω D (M1 f c);have l:=jZ.nn a b;exact⟨λe=>absurd l (by simp only at e;omega),λ_=>⟨d,b⟩,JK.eq rfl rfl rfl rfl,rfl,I2 ..⟩
 split
 ·rename_i i r
  have g:=List.find?_some r;have E:=List.mem_range.1 (List.mem_of_find?_eq_some r);unfold p6 at g;simp only[I0,C0,Bool.not_eq_true']at g;exact Wv.slot a E g.2.2 g.1 (JK.refl h) g.2.1 rfl rfl
 split
 ·exact⟨λ_=>a,λe=>absurd e (by show ¬(0:Int)<=-1;decide),JK.refl h,rfl,rfl⟩
 rename_i F;have j:(ay h.o 1).2.2=true:=by simpa using F
 obtain⟨G,H,J,u⟩:=jb a (Y6 1) j;have s:=xC.of (p:=(ay h.o 1).2.1) a.ker ω ⟨G,by have:(ay h.o 1).2.1+1<=(h.F.G.Q.K.length:Nat):=H;omega⟩ (J _ ω ω);split
 ·rename_i n
  rw[s.no n];obtain⟨d,b⟩:=a.tEq (nU a.ker ω) (tEq.refl _);exact⟨λ_=>d,λe=>absurd e (by show ¬(0:Int)<=-1;decide),b,rfl,rfl⟩
 rename_i n;have o:(newK h.F (ay h.o 1).2.1).2=true:=by simpa using n
 have w:xC h.F (ay h.o 1).2.1 ((newK h.F (ay h.o 1).2.1).1,true):=by rw[<-o];exact s
 have d:=a.addS (c:=c) ⟨ω,ω⟩ j w;have b:JK h (mL h c):=JK.addS w;obtain⟨K,A⟩:=EK (FL (ay h.o 1).2.1) h.J ⟨(ay h.o 1).2.1,c,0⟩;unfold jw;split
 ·exact⟨λ_=>d,λe=>absurd e (by show ¬(0:Int)<=-1;decide),b,rfl,rfl⟩
 refine Wv.slot (h':=mL h c) (i:=mM h) d K ω (by show(nth (jW (FL (ay h.o 1).2.1) h.J ⟨(ay h.o 1).2.1,c,0⟩) (mM h)).d=_;unfold mM;rw[A]) b ?_ rfl rfl;show fB (mL h c) (nth (jW (FL (ay h.o 1).2.1) h.J ⟨(ay h.o 1).2.1,c,0⟩) (mM h)).R=false;unfold mM;rw[A,b.pg];rw[<-S7];intro k;unfold fB at k;simp only[I0,X8,C0]at k;obtain⟨-,⟨y,L,M⟩,⟨z,N,O⟩⟩:=a.job k.1;rcases k.2 with e|e
 ·exact u _ (Y6 _) ω (by rw[e,<-M];exact dO L)
 exact u _ (Y6 _) ω (by rw[e,<-O];exact dO N)
def gQ(size:Int):Nat:=((size+15) / 16).toNat
def ef(h:ac)(size:Int):ah × Nat:=newsK h.F (ay h.o (gQ size:Nat)).2.1 (gQ size)
def largeA(h:ac)(t size:Int):ac × Int × Int:=
 if(ay h.o (gQ size:Nat)).2.2=false then(h,-1,4)
 else if(ef h size).2=gQ size then(addL h (ef h size).1 (ay h.o (gQ size:Nat)).1 (ay h.o (gQ size:Nat)).2.1 (gQ size:Nat) size t,16*(ay h.o (gQ size:Nat)).2.1,0)
 else({h with F:=unmN (ef h size).1 (ay h.o (gQ size:Nat)).2.1 (ef h size).2},-1,4)
def tJ(xs:List bu):Nat->Int
 | 0=>0
 | i+1=>tJ xs i+(nth xs i).y
def iw(h:ac):Int:=tJ h.O h.O.length
def allocH(h:ac)(t size:Int):ac × Int × Int:=
 if 1000000<=h.b\/90000<h.F.Calls then(h,-1,5)
 else if ¬(0<=t/\t<=h.S.length - 1) then(h,-1,1)
 else if ¬(1<=size/\size<=1000) then(h,-1,2)
 else if h.b1<iw h+size then(h,-1,3)
 else if 0<=aL size then(if(smallA h t.toNat (aL size).toNat).2<0 then((smallA h t.toNat (aL size).toNat).1,-1,4) else(addO (smallA h t.toNat (aL size).toNat).1 (smallA h t.toNat (aL size).toNat).2 size t,(smallA h t.toNat (aL size).toNat).2,0))
 else largeA h t size
variable{size:Int}
def Dt{t:Int}(a:bc h [])(g:9<=size/\size<=1000)(i:h.b<1000000)(j:h.F.Calls<=90000)(k:0<=t/\t<=h.S.length - 1):bc (largeA h t size).1 []/\JK h (largeA h t size).1:=by
 have l:(gQ size:Int)=(size+15) / 16:=by unfold gQ;omega
 unfold largeA;split
 ·exact⟨a,JK.refl h⟩
 rename_i o;have b:(ay h.o (gQ size:Nat)).2.2=true:=by simpa using o
 obtain⟨c,d,e,w⟩:=jb a (show(1:Int)<=(gQ size:Nat) by omega) b;have s:=jY.of (p:=(ay h.o (gQ size:Nat)).2.1) (n:=gQ size) a.ker ω ⟨c,d⟩ e (gQ size) (v4 _);split
 ·rename_i q
  have f:jY h.F (ay h.o (gQ size:Nat)).2.1 (gQ size) ((ef h size).1,gQ size):=by
   have:((ef h size).1,gQ size)=ef h size:=by rw[<-q]
   rw[this];exact s
  exact⟨a.addL g l b f i k,JK.addL f⟩
 obtain⟨r,u⟩:=s.undo a.ker ⟨c,d⟩ e;exact a.tEq r u
def lZ{t:Int}(a:bc h []):bc (allocH h t size).1 []/\JK h (allocH h t size).1:=by
 unfold allocH;split
 ·exact⟨a,JK.refl h⟩
 rename_i d;rw[not_or]at d;split
 ·exact⟨a,JK.refl h⟩
 rename_i n;split
 ·exact⟨a,JK.refl h⟩
 rename_i o;split
 ·exact⟨a,JK.refl h⟩
 split
 ·rename_i b
  have f:aL size<=3:=by unfold aL;repeat' split<;>omega
  have s:=ov (t:=t.toNat) (c:=(aL size).toNat) a ω ω ω;generalize smallA h t.toNat (aL size).toNat=r at s;split
  ·rename_i e;exact⟨s.no e,s.jk⟩
  rename_i e;obtain⟨g,i⟩:=s.yes ω;refine⟨g.addO (.inl ?_) (by rw[s.nx];omega) (by rw[s.cl];omega),s.jk.trans (JK.eq rfl rfl rfl rfl)⟩;obtain⟨z,j,k,p⟩:=i;exact⟨z,j,k,by show z.d=aL size;omega⟩
 rename_i b;have l:9<=size:=by
  unfold aL at b
  repeat' split at b<;>omega
 exact Dt a ⟨l,ω⟩ ω ω ω
def lN{β:Type}[Inhabited α]{f:α->β}{xs:List α}{y:α}(a:i<xs.length)(e:f y=f (nth xs i)):(xs.set i y).map f=xs.map f:=by
 rw[S8];refine List.ext_getElem (by simp) λj b c=>?_
 rw[List.getElem_set];split
 ·rename_i g;subst g
  rw[List.getElem_map,e,bq (C3 a)]
 rfl
def pR{α β:Type}[Inhabited α](f:α->List β):∀(xs:List α)(i:Nat)(y:α),i<xs.length->(f y).Sublist (f (nth xs i))->((xs.set i y).flatMap f).Sublist (xs.flatMap f)
 | [],_,_,h,_=>absurd h (Nat.not_lt_zero _)
 | x::xs,0,y,_,a=>by
  rw[List.set_cons_zero,v9,v9];exact List.Sublist.append a (List.Sublist.refl _)
 | x::xs,i+1,y,h,a=>by
  rw[List.set_cons_succ,v9,v9];exact List.Sublist.append (List.Sublist.refl _) (pR f xs i y (by simpa using h) a)
def zK(k:ah)(a:Int):Nat->ah
 | 0=>k
 | m+1=>ew (zK k a m) (a+m) 0
def oQ(k:ah)(a:Int):∀m,(zK k a m).G.Q=k.G.Q/\(zK k a m).Calls=k.Calls/\(zK k a m).u=k.u
 | 0=>⟨rfl,rfl,rfl⟩
 | m+1=>oQ k a m
def Rt{k:ah}(h:aD k=true){a:Int} : ∀{m:Nat},(∀j:Nat,j<m->(af k.G.Q ((a+j) / 16)).j≠0)->aD (zK k a m)=true
 | 0,_=>h
 | m+1,b=>zT (Rt h λj c=>b j ω) (by rw[(oQ k a m).1];exact b m ω) ⟨ω,ω⟩
theorem Ki(j:bc h E){o:List aB}(y:p+n<=h.F.G.Q.K.length)(A:sp.Sublist h.J)(M:∀l∈la,∀q∈lpgs l l.a4.toNat,∃w∈h.M,q∈lpgs w w.a4.toNat)(N:0<=p)(B:∀q,q∈pgs sp la↔q∈pgs h.J h.M/\¬(p<=q/\q<p+n))(O:∀q,RH o q↔RH h.o q\/(p<=q/\q<p+n)) :
  Pg (unmN h.F p n).G.Q o sp la:=by
 have b:=(eZ h.F p n).1;have d:=nZ j.ker N n y;have f:∀q:Nat,(q:Int)∈pgs sp la->nth (unmN h.F p n).G.Q.K q=nth (tbl h).K q:=λq c=>by rw[d,CC ((B q).1 c).2];rfl
 have a:∀q:Nat,(nth (unmN h.F p n).G.Q.K q).j≠0↔(nth (tbl h).K q).j≠0/\¬(p<=q/\(q:Int)<p+n):=λq=>by
  rw[d];by_cases e:p<=q/\(q:Int)<p+n
  ·rw[CE e];exact⟨λx=>absurd rfl x,λx=>absurd e x.2⟩
  rw[CC e];exact⟨λx=>⟨x,e⟩,λx=>x.1⟩
 refine⟨λl g q c r J C k=>?_,λq c=>?_,λq c=>?_,λq c=>?_,λs g u D F K=>?_⟩
 ·have t:=(a r).1 C
  rw[b]at J;rw[f q (gR g c),d,CC t.2]at k;obtain⟨w,G,H⟩:=M l g _ c;exact j.pg.one w G q H r J t.1 k
 ·rw[b];exact j.pg.bnd q ((B q).1 c).1
 ·rw[b]at c
  rw[a,B,j.pg.own q c]
 ·rw[b]at c
  rw[a,O,j.pg.fre q c]
  grind
 have i:∀s∈sp,0<=s.R:=λs g=>(aI (j.L.sok s (A.subset g))).1
 have P:=f s.R.toNat (by rw[Int.toNat_of_nonneg (i s g)];exact dO g);have Q:=f u.R.toNat (by rw[Int.toNat_of_nonneg (i u D)];exact dO D);rw[P,Q]at K;exact j.pg.mesh s (A.subset g) u (A.subset D) F K
def trimL(l:aE)(size:Int):aE:=⟨l.R,(size+15) / 16,size⟩
def dP(l:aE)(size:Int):Nat:=(l.a4 - (size+15) / 16).toNat
def bc.trimL{h:ac}{E:List Int}{i k:Nat}{size:Int}(t:bc h E)(T:i<h.O.length)(H:k<h.M.length)(Y:(nth h.O i).Addr=16*(nth h.M k).R)(N:9<=size/\size<=(nth h.M k).y) :
  ∃o,(dP (nth h.M k) size=0->o=h.o)/\(0<dP (nth h.M k) size->cB (fo h) h.o ⟨(nth h.M k).R+(size+15) / 16,(dP (nth h.M k) size:Nat)⟩ = some o)/\
   bc {h with F:=unmN h.F ((nth h.M k).R+(size+15) / 16) (dP (nth h.M k) size),M:=h.M.set k (trimL (nth h.M k) size),O:=h.O.set i {nth h.O i with y:=size},o:=o} E:=by
 have U:=t.L;have C:=U.lok _ (au H);have hf:=aW C;unfold bR at C;rw[C0]at C;obtain⟨b1,b2⟩:=vM t H;have O:=U.dis;have G:=λj n=>U.one j k n H
 have y:=(au H:nth h.M k∈h.M)
 have d:∀z∈h.M.set k (Ab.trimL (nth h.M k) size),z=Ab.trimL (nth h.M k) size\/∃j,j<h.M.length/\j≠k/\nth h.M j=z:=λz N=>eL N
 have p:Ab.trimL (nth h.M k) size∈h.M.set k (Ab.trimL (nth h.M k) size):=jD _ H;have u:∀j,j<h.M.length->j≠k->nth h.M j∈h.M.set k (Ab.trimL (nth h.M k) size):=λj n e=>kW _ n e
 have hpageM:(h.M.set k (Ab.trimL (nth h.M k) size)).map (·.R)=h.M.map (·.R):=lN H rfl;have w:(pgs h.J (h.M.set k (Ab.trimL (nth h.M k) size))).Sublist (pgs h.J h.M):=by
  unfold pgs;refine List.Sublist.append (List.Sublist.refl _) (pR _ _ _ _ H ?_);unfold lpgs;exact(List.range_sublist.2 (by simp only[Ab.trimL];omega)).map _
 obtain⟨l,V⟩ : ∃l,nth h.M k=l:=⟨_,rfl⟩
 rw[V]at C hf b1 b2 G y d p u hpageM w Y N |-;generalize hla:h.M.set k (Ab.trimL l size)=la at d p u hpageM w |-;have hn1:(1:Int)<=(size+15) / 16/\(size+15) / 16+(dP l size:Nat)=l.a4:=by unfold dP;omega
 have D:∀q,q∈lpgs l l.a4.toNat↔l.R<=q/\q<l.R+l.a4:=λq=>by
  rw[dK];constructor
  ·rintro⟨j,n,rfl⟩;omega
  rintro⟨Z,q2⟩;exact⟨(q - l.R).toNat,ω,ω⟩
 have J:∀q,q∈lpgs (Ab.trimL l size) (Ab.trimL l size).a4.toNat↔l.R<=q/\q<l.R+(size+15) / 16:=λq=>by
  rw[dK];simp only[Ab.trimL];constructor
  ·rintro⟨j,n,rfl⟩;omega
  rintro⟨Z,q2⟩;exact⟨(q - l.R).toNat,ω,ω⟩
 have hpe:l.R+(size+15) / 16+(dP l size:Nat)=l.R+l.a4:=ω
 have P:∀q,q∈pgs h.J la↔q∈pgs h.J h.M/\¬(l.R+(size+15) / 16<=q/\q<l.R+(size+15) / 16+(dP l size:Nat)):=λq=>by
  rw[rv,rv,hpe];constructor
  ·rintro(⟨s,W,rfl⟩|⟨z,c,B⟩)
   ·exact⟨.inl ⟨s,W,rfl⟩,λe=>O s W l y (s.R - l.R).toNat ω ω⟩
   rcases d z c with rfl|⟨j,n,hjk,rfl⟩
   ·have:=(J q).1 B
    exact⟨.inr ⟨l,y,(D q).2 ⟨ω,ω⟩⟩,ω⟩
   refine⟨.inr ⟨_,au n,B⟩,λe=>?_⟩;obtain⟨m,hm,rfl⟩:=dK.1 B;exact hjk (G j n m ((nth h.M j).R+(m:Int) - l.R).toNat hm ω ω)
  rintro⟨⟨s,W,rfl⟩|⟨z,c,B⟩,hne⟩
  ·exact .inl ⟨s,W,rfl⟩
  obtain⟨j,n,rfl⟩:=aR c;by_cases e:j=k
  ·subst e
   rw[V]at B;have:=(D q).1 B;exact .inr ⟨_,p,(J q).2 ⟨ω,ω⟩⟩
  exact .inr ⟨_,u j n e,B⟩
 have K:∃o,(dP l size=0->o=h.o)/\(0<dP l size->cB (fo h) h.o ⟨l.R+(size+15) / 16,(dP l size:Nat)⟩ = some o)/\bG (fo h) o=true/\∀q,RH o q↔RH h.o q\/(l.R+(size+15) / 16<=q/\q<l.R+(size+15) / 16+(dP l size:Nat)):=by
  by_cases e:dP l size=0
  ·refine⟨h.o,λ_=>rfl,λg=>absurd g ω,t.rng,λq=>⟨.inl,λg=>g.resolve_right ω⟩⟩
  obtain⟨o,o1,o2,o3⟩:=xm (r:=⟨l.R+(size+15) / 16,(dP l size:Nat)⟩) t.rng ⟨by simp only;omega,by simp only;omega,by show l.R+(size+15) / 16+(dP l size:Nat)<=(fo h:Int);have:((tbl h).K.length:Int)=(fo h:Int):=rfl;omega⟩ λq Z q2=>by
   simp only at Z q2;obtain⟨m,rfl⟩:=Z3 (show 0<=q by omega);have Q:m<(tbl h).K.length:=ω
   exact(t.pg.fre m Q).1 ((t.pg.own m Q).2 (gR y ((D _).2 ⟨ω,ω⟩)))
  exact⟨o,λg=>absurd g e,λ_=>o1,o2,o3⟩
 obtain⟨o,o0,o1,o2,o3⟩:=K;have R:=(eZ h.F (l.R+(size+15) / 16) (dP l size)).1;have M:∀z∈h.O.set i {nth h.O i with y:=size},z = {nth h.O i with y:=size}\/∃j,j<h.O.length/\j≠i/\nth h.O j=z:=λz N=>eL N
 have F:(h.O.set i {nth h.O i with y:=size}).map (·.Addr)=h.O.map (·.Addr):=lN T rfl;have S:(h.O.set i {nth h.O i with y:=size}).map (·.Id)=h.O.map (·.Id):=lN T rfl;have hli:=(au T:nth h.O i∈h.O)
 generalize h.O.set i {nth h.O i with y:=size} = ob at M F S |-;refine⟨o,o0,o1,{t with
   ker:=io t.ker _ _
   rng:=by show bG (((unmN h.F (l.R+(size+15) / 16) (dP l size)).G.Q.K.length:Nat):Int) o=true;rw[R];exact o2
   lay:=?_
   srl:=?_
   pg:=Ki t (by have:((tbl h).K.length:Int)=(h.F.G.Q.K.length:Int):=rfl;omega) (List.Sublist.refl _) (λz c q B=>?_) ω P o3
   osr:=?_
   onu:=λz c=>?_
   oid:=by show(ob.map (·.Id)).Nodup;rw[S];exact t.oid
   oow:=λz c=>?_
   nd:=?_
   mem:=λb=>?_}⟩
 ·obtain⟨l1,l2,l3⟩:=eQ t.lay
  unfold bx;simp only[I0,C0];refine⟨⟨l1,v5.2 λz c=>?_⟩,l3.sublist w⟩;rcases d z c with rfl|⟨j,n,-,rfl⟩
  ·exact O0 ⟨N.1,by show size<=1000;omega,rfl,by show 0<=l.R;omega,by show l.R<=32 - (size+15) / 16;omega⟩
  exact U.lok _ (au n)
 ·have A:(h.M.map (·.R)).Pairwise (λa b=>a<b):=List.pairwise_map.2 t.srl
  rw[<-hpageM]at A;exact List.pairwise_map.1 A
 ·rcases d z c with rfl|⟨j,n,-,rfl⟩
  ·have:=(J q).1 B
   exact⟨l,y,(D q).2 ⟨ω,ω⟩⟩
  exact⟨_,au n,B⟩
 ·have A:(h.O.map (·.Addr)).Pairwise (λa b=>a<b):=List.pairwise_map.2 t.osr
  rw[<-F]at A;exact List.pairwise_map.1 A
 ·rcases M z c with rfl|⟨j,n,-,rfl⟩
  ·exact t.onu (nth h.O i) hli
  exact t.onu _ (au n)
 ·rcases M z c with rfl|⟨j,n,hji,rfl⟩
  ·exact .inr ⟨_,p,Y,rfl⟩
  rcases t.oow _ (au n) with A|⟨l',hl',e1,X⟩
  ·exact .inl A
  obtain⟨m,hm,rfl⟩:=aR hl';by_cases e:m=k
  ·subst e
   rw[V]at e1;exact absurd (cX (f:=(·.Addr)) (dw t.osr) n T (e1.trans Y.symm)) hji
  exact .inr ⟨_,u m hm e,e1,X⟩
 ·have hh:holders {h with F:=unmN h.F (l.R+(size+15) / 16) (dP l size),M:=la,O:=ob,o:=o} = holders h:=by
   show((ob.map (·.Addr)++cQ h)++h.a7.a6.map (·.Addr))++aV h.w=_;rw[F];rfl
  rw[hh];exact t.nd
 have hh:holders {h with F:=unmN h.F (l.R+(size+15) / 16) (dP l size),M:=la,O:=ob,o:=o} = holders h:=by
  show((ob.map (·.Addr)++cQ h)++h.a7.a6.map (·.Addr))++aV h.w=_;rw[F];rfl
 rw[hh,t.mem b];show nX h.J h.M b↔nX h.J la b;unfold nX;constructor
 ·rintro(A|⟨z,c,e⟩)
  ·exact .inl A
  obtain⟨j,n,rfl⟩:=aR c;by_cases X:j=k
  ·subst X
   rw[V]at e;exact .inr ⟨_,p,e⟩
  exact .inr ⟨_,u j n X,e⟩
 rintro(A|⟨z,c,e⟩)
 ·exact .inl A
 rcases d z c with rfl|⟨j,n,-,rfl⟩
 ·exact .inr ⟨l,y,e⟩
 exact .inr ⟨_,au n,e⟩
def lE(h:ac)(k:Nat)(size:Int):ah:=zK h.F (16*(nth h.M k).R+size) (16*((size+15) / 16) - size).toNat
def Mq(h:ac)(k:Nat)(size:Int):List aB:=if 0<dP (nth h.M k) size then(cB (fo h) h.o ⟨(nth h.M k).R+(size+15) / 16,(dP (nth h.M k) size:Nat)⟩).getD h.o else h.o
def trimH(h:ac)(i k:Nat)(size:Int):ac:={h with F:=unmN (lE h k size) ((nth h.M k).R+(size+15) / 16) (dP (nth h.M k) size),M:=h.M.set k (trimL (nth h.M k) size),O:=h.O.set i {nth h.O i with y:=size},o:=Mq h k size}
def kO(b:bc h E){k:Nat}(c:k<h.M.length)(g:16*(nth h.M k).R<=a/\a<16*(nth h.M k).R+16*(nth h.M k).a4):(af h.F.G.Q (a / 16)).j≠0:=by
 obtain⟨i,j⟩:=vM b c;have l:=aW (b.L.lok _ (au c));have d:(a / 16)∈pgs h.J h.M:=gR (au c) (dK.2 ⟨(a / 16 - (nth h.M k).R).toNat,ω,ω⟩);have e:=b.pg.bnd _ d;have f:=(b.pg.own (a / 16).toNat ω).2 (by rw[show(((a / 16).toNat:Nat):Int)=a / 16 by omega];exact d);unfold af;rw[CE ⟨ω,e⟩];exact f
def z7(b:bc h E){k:Nat}(c:k<h.M.length)(d:9<=size/\size<=(nth h.M k).y):∀{m:Nat},m<=(16*((size+15) / 16) - size).toNat->aD (zK h.F (16*(nth h.M k).R+size) m)=true:=fun {m} hm=>by
 have a:=b.L.lok _ (au c);unfold bR at a;rw[C0]at a;exact Rt b.ker λj e=>kO b c ⟨ω,ω⟩
def bc.trimH{h:ac}{i k:Nat}{size:Int}(d:bc h [])(A:i<h.O.length)(f:k<h.M.length)(B:(nth h.O i).Addr=16*(nth h.M k).R)(r:9<=size/\size<=(nth h.M k).y):bc (trimH h i k size) []/\JK h (trimH h i k size):=by
 have t:=z7 d f r (v4 _);have l:=(oQ h.F (16*(nth h.M k).R+size) (16*((size+15) / 16) - size).toNat).1;have C:=d.cells t l;obtain⟨o,u,w,y⟩:=C.trimL (i:=i) (k:=k) (size:=size) A f B r;simp only at u w y;have n:fo {h with F:=zK h.F (16*(nth h.M k).R+size) (16*((size+15) / 16) - size).toNat} = fo h:=by
  unfold fo;simp only[l]
 have D:Mq h k size=o:=by
  unfold Mq;split
  ·rename_i g;have:=w g;rw[n]at this;rw[this];rfl
  exact(u ω).symm
 have E:Ab.trimH h i k size = {h with F:=unmN (lE h k size) ((nth h.M k).R+(size+15) / 16) (dP (nth h.M k) size),M:=h.M.set k (Ab.trimL (nth h.M k) size),O:=h.O.set i {nth h.O i with y:=size},o:=o}:=by unfold Ab.trimH;rw[D]
 refine⟨by rw[E];exact y,JK.less rfl rfl rfl λq j=>?_⟩;have a:=d.L.lok _ (au f);unfold bR at a;rw[C0]at a;obtain⟨F,G⟩:=vM d f;have b:(lE h k size).G.Q=h.F.G.Q:=l;have c:=nZ (k:=lE h k size) t (p:=(nth h.M k).R+(size+15) / 16) ω (dP (nth h.M k) size) (by rw[b];have:((tbl h).K.length:Int)=(h.F.G.Q.K.length:Int):=rfl;unfold dP;omega) q;change (nth (unmN (lE h k size) ((nth h.M k).R+(size+15) / 16) (dP (nth h.M k) size)).G.Q.K q).j≠0 at j;show nth (unmN (lE h k size) ((nth h.M k).R+(size+15) / 16) (dP (nth h.M k) size)).G.Q.K q=nth h.F.G.Q.K q;rw[c]at j |-;split at j
 ·exact absurd rfl j
 rename_i e;rw[CC e,b]
def KU(h:1<=t/\t<=4):bT (eR t)=true:=by
 have f:∀n,n<=t->bI (eR t) n=0:=λn=>by
  induction n with
  | zero=>intro _;rfl
  | succ n g=>
   intro j;have a:nth (eR t).V n=[]:=dN ω;have b:nth (eR t).a2 n=[]:=dN ω;simp only[bI,g ω,a,b,List.length_nil]
   decide
 have e:(eR t).V.length=t:=Y4 ..;refine dS.2 ⟨⟨ω,ω,by simp[eR]⟩,λi c=>?_,by rw[e,f t (v4 _)];omega⟩;rw[e]at c;have a:nth (eR t).V i=[]:=dN c;have b:nth (eR t).a2 i=[]:=dN c;rw[a,b];exact⟨λp d=>(by cases d),λp d=>(by cases d)⟩
def xl(t:Nat):aV (eR t)=[]:=by
 unfold aV;split
 ·simp[eR]
 rfl
def tt(k:ah)(t:Nat)(sd ck lim:Int):ac:=⟨k,[⟨0,(k.G.Q.K.length:Nat)⟩],[],[],[],List.replicate t gx,eR t,⟨16,[]⟩,sd,ck,lim,1,false,⟨⟨0,0,[]⟩,0,0⟩⟩
def Ha:bD gx=true:=by decide
def bc.fresh{lim sd ck:Int}(A:aD k=true)(B:∀q,q<k.G.Q.K.length->(nth k.G.Q.K q).j=0)(E:1<=t/\t<=4)(g:0<=lim/\lim<=1000)(h:0<=sd/\sd<=1073741823)(d:0<=ck/\ck<=1000000):bc (tt k t sd ck lim) []:=by
 obtain⟨G,H,J⟩:=bo.1 (aC.1 A).2.2.1;have hca:cQ (tt k t sd ck lim)=[]:=by
  unfold cQ;refine List.flatMap_eq_nil_iff.2 λc d=>?_
  rw[(List.mem_replicate.1 d).2]
  rfl
 have C:holders (tt k t sd ck lim)=[]:=by
  unfold holders;rw[hca];show(([]++[])++[])++aV (eR t)=[];rw[xl];rfl
 have i:∀a,¬nX (tt k t sd ck lim).J (tt k t sd ck lim).M a:=λa=>by
  rintro(⟨s,h,-⟩|⟨l,g,-⟩)
  ·cases h
  cases g
 exact {
   ker:=A
   rng:=gN.2 ⟨⟨List.pairwise_singleton ..,λy n=>by rw[C2.1 n];show(1:Int)<=(k.G.Q.K.length:Nat);omega⟩,λy n=>by
       rw[C2.1 n];refine⟨Y6 _,by show(1:Int)<=(k.G.Q.K.length:Nat);omega,?_⟩;show(0:Int)+(k.G.Q.K.length:Nat)<=(k.G.Q.K.length:Nat);omega,by show(1:Int)<=(k.G.Q.K.length:Nat);omega,by show((k.G.Q.K.length:Nat):Int)<=32;omega⟩
   lay:=by show bx [] []=true;decide
   srs:=List.Pairwise.nil
   srl:=List.Pairwise.nil
   pg:=⟨λl g=>(by cases g),λp f=>(by cases f),λp f=>⟨λe=>absurd (B p f) e,λe=>by cases e⟩,λp f=>⟨λe=>absurd (B p f) e,λe=>absurd ⟨_,C2.2 rfl,by show(0:Int)<=p;omega,by
       show(p:Int)<0+(k.G.Q.K.length:Nat);have F:p<k.G.Q.K.length:=f;omega⟩ e⟩,λs h=>by cases h⟩
   mail:=KU E
   nc:=by show(List.replicate t gx).length=(List.replicate t _).length;simp
   quar:=by show ia ⟨16,[]⟩ = true;decide
   snc:=λx r=>by cases r
   cach:=λc d=>by rw[(List.mem_replicate.1 d).2];exact Ha
   nums:=by unfold cx;rw[C0];simp only[tt];omega
   osr:=List.Pairwise.nil
   onu:=λo u=>by cases u
   oid:=List.nodup_nil
   oow:=λo u=>by cases u
   hca:=λc d j D a b=>by
     rw[(List.mem_replicate.1 d).2]at D b;have w:j<4:=D;have:nth gx.Z j=[]:=dN w;rw[this]at b;cases b
   hqu:=λx r=>by cases r
   hfl:=λa b=>by
     have:aV (eR t)=[]:=xl t;change a∈aV (eR t) at b;rw[this]at b;cases b
   hin:=λa b=>by cases b
   nd:=by rw[C];exact List.nodup_nil
   mem:=λa=>by rw[C];exact⟨λe=>(by cases e),λe=>absurd e (i a)⟩
   job:=λe=>by cases e
   noj:=λ_=>by show rZ ⟨⟨0,0,[]⟩,0,0⟩ = true;decide}
def JI.no(a:h.q=false):JI h:=⟨λe=>(by rw[a]at e;cases e),λe=>(by rw[a]at e;cases e),λe=>(by rw[a]at e;cases e),λe=>(by rw[a]at e;cases e)⟩
def sC{p:Nat}{a:List Int}(d:1<=p/\p<=32)(e:1<=f/\f<=32)(b:a.length<=40/\∀x∈a,0<=x):aD (cr p f a)=true:=by
 obtain⟨-,g,h,i,c⟩:=aC.1 (F5 d e);exact aC.2 ⟨λj k=>b.2 _ (au k),g,h,i,c.1,c.2.1,b.1⟩
def HJ{p:Nat}{lim:Int}{a:List Int}(c:1<=p/\p<=32)(d:1<=f/\f<=32)(g:1<=t/\t<=4)(i:0<=lim/\lim<=1000)(j:a.length<=40/\∀x∈a,0<=x):bc (newHeap p f t lim a) []:=by
 have h:=bc.fresh (k:=cr p f a) (t:=t) (lim:=lim) (sd:=0) (ck:=0) (sC c d j) (λq l=>by
   have b:q<p:=by simpa[cr,gt] using l
   rw[show nth (cr p f a).G.Q.K q = ⟨0,0⟩ from dN b]) g i ω ω
 have e:(cr p f a).G.Q.K.length=p:=by simp[cr,gt]
 unfold tt at h;rw[e]at h;exact h
structure fj where
 b6:Int
 a5:Int
 N:Int
 At:Int
 Value:Int
deriving DecidableEq,Inhabited
def fj.enc(_:dX)(x:fj):List C:=[I x.b6,I x.a5,I x.N,I x.At,I x.Value]
def pB(id:Int)(o:bJ):Bool:=decide (o.Id=id)
def pZ(r:aG)(id:Int):Int:=cV (pB id) r.O
def jT(r:aG)(n:Int):aG:=if 1<=n/\n<=1000 then {r with b:=r.b+1,O:=r.O++[⟨r.b,List.replicate n.toNat 0⟩]} else r
def kG(r:aG)(id:Int):aG:=if pZ r id<0 then r else {r with O:=dele r.O (pZ r id).toNat}
def fe(r:aG)(id at_ v:Int):aG:=if 0<=pZ r id/\(0<=at_/\at_<=(nth r.O (pZ r id).toNat).T.length - 1)/\0<=v/\v<=999 then {r with O:=r.O.set (pZ r id).toNat ⟨(nth r.O (pZ r id).toNat).Id,(nth r.O (pZ r id).toNat).T.set at_.toNat v⟩} else r
def gn(r:aG)(id n:Int):aG:=if 0<=pZ r id/\1<=n/\n<=(nth r.O (pZ r id).toNat).T.length then {r with O:=r.O.set (pZ r id).toNat ⟨(nth r.O (pZ r id).toNat).Id,(nth r.O (pZ r id).toNat).T.take n.toNat⟩} else r
structure uS(r:aG)(m:Nat):Prop where
 len:r.O.length<=m
 cel:∀o∈r.O,o.T.length<=1000
 nx:0<=r.b/\r.b<=m+1
variable{m:Nat}{r:aG}
def uS.more(h:uS r m)(a:m<=n):uS r n:=⟨by have:=h.len;omega,h.cel,h.nx.1,by have:=h.nx.2;omega⟩
def uS.sml(h:uS r m)(b:m<=1000):aG.sml r:=⟨by have:=h.len;omega,λo a=>by have:=h.cel o a;show o.T.length<=1048576;omega⟩
def uS.alloc(h:uS r m)(n:Int):uS (jT r n) (m+1):=by
 unfold jT;split
 ·refine⟨by have:=h.len;simp only[C4,List.length_singleton];omega,λo a=>?_,by have:=h.nx.1;simp only;omega,by have:=h.nx.2;simp only;omega⟩
  rcases t4.1 a with a|a
  ·exact h.cel o a
  rw[C2.1 a];simp only[Y4];omega
 exact h.more ω
def uS.free(h:uS r m)(id:Int):uS (kG r id) m:=by
 unfold kG;split
 ·exact h
 have a:=fD r.O (pZ r id).toNat;exact⟨O6 a.length_le h.len,λo b=>h.cel o (a.subset b),h.nx⟩
def uS.set{x:bJ}(h:uS r m)(b:x.T.length<=1000):uS {r with O:=r.O.set i x} m:=
 ⟨by simp only[I2];exact h.len,λo a=>by
   rcases Z8 a with a|rfl
   · exact h.cel o a
   exact b,h.nx⟩
def gq[Inhabited α](p:α->Bool)(xs:List α)(h:0<=cV p xs):(cV p xs).toNat<xs.length/\p (nth xs (cV p xs).toNat)=true/\cV p xs=((cV p xs).toNat:Nat):=by
 rcases mS p xs with e|⟨n,a,e,b⟩
 ·omega
 rw[e,Y3];exact⟨a,b,rfl⟩
def uS.store(h:uS r m)(id a v:Int):uS (fe r id a v) m:=by
 unfold fe;split
 ·rename_i e
  refine h.set ?_;simp only[I2];exact h.cel (nth r.O (pZ r id).toNat) (au (gq _ _ e.1).1)
 exact h
def uS.trim(h:uS r m)(id n:Int):uS (gn r id n) m:=by
 unfold gn;split
 ·rename_i e
  refine h.set ?_;have:=h.cel (nth r.O (pZ r id).toNat) (au (gq _ _ e.1).1);simp only[O2];omega
 exact h
def QI(id:Int)(o:bu):Bool:=decide (o.Id=id)
def rO(h:ac)(id:Int):Int:=cV (QI id) h.O
def M4(a:Int)(l:aE):Bool:=decide (l.R*16=a)
def Da(h:ac)(a:Int):Int:=cV (M4 a) h.M
def pD(h:ac)(a:fj):Prop:=0<=a.a5/\a.a5<=h.S.length - 1
instance (h:ac) (a:fj):Decidable (pD h a):=by unfold pD;infer_instance
def re(w:br)(a:fj)(i:Nat):br × Int:=
 if w.a.F.Calls=100000 then(w,6)
 else if pD w.a a then(⟨(freeT w.a a.a5.toNat i).1,if(freeT w.a a.a5.toNat i).2=0 then kG w.b5 (nth w.a.O i).Id else w.b5⟩,(freeT w.a a.a5.toNat i).2)
 else(w,1)
def ow(w:br)(a:fj)(i:Nat):br × Int:=
 if ¬(0<=a.At/\a.At<=(nth w.a.O i).y - 1) then(w,90)
 else if(af w.a.F.G.Q (((nth w.a.O i).Addr+a.At) / 16)).j=1 then(w,2)
 else if ¬(0<=a.Value/\a.Value<=999) then(w,3)
 else(⟨{w.a with F:=ew w.a.F ((nth w.a.O i).Addr+a.At) a.Value},fe w.b5 (nth w.a.O i).Id a.At a.Value⟩,0)
def mX(h:ac)(i:Nat)(n:Int):Prop:=0<=Da h (nth h.O i).Addr/\9<=n/\n<=(nth h.M (Da h (nth h.O i).Addr).toNat).y
instance (h:ac) (i:Nat) (n:Int):Decidable (mX h i n):=by unfold mX;infer_instance
def qY(w:br)(a:fj)(i:Nat):br × Int:=
 if w.a.F.Calls≠100000/\mX w.a i a.Value then(⟨trimH w.a i (Da w.a (nth w.a.O i).Addr).toNat a.Value,gn w.b5 (nth w.a.O i).Id a.Value⟩,0) else(w,90)
def nK(w:br)(a:fj)(i:Nat):br × Int:=if a.b6=2 then re w a i else if a.b6=3 then ow w a i else qY w a i
def g9(h:ac)(a:fj):ac × Int:=
 if a.b6=5 then(if pD h a/\0<(nth h.w.V a.a5.toNat).length then({h with w:=gJ h.w a.a5.toNat},0) else(h,90))
 else if ¬(h.F.Calls≠100000/\pD h a) then(h,0)
 else if a.b6=6 then(collect h a.a5.toNat,((nth h.w.a2 a.a5.toNat).length:Nat))
 else((flushN a.a5.toNat h 4).1,((flushN a.a5.toNat h 4).2:Nat))
def pw(h:ac)(n:Int):ac × Int:=if h.F.Calls≠100000/\(0<=n/\n<=1000)/\h.b2+n<=1000000 then(tick h n,((o7 h n).length:Nat)) else(h,0)
def uy(h:ac):Bool:=h.q&&decide (h.F.Calls<=99000)
def stN(h:ac):Nat->ac × Nat
 | 0=>(h,0)
 | i+1=>if uy (stN h i).1=true then(mStep (stN h i).1,(stN h i).2+1) else stN h i
def pk(h:ac):ac × Int:=if h.q=true then(h,90) else((started h).1,if(started h).2=true then 0 else 90)
def mN(w:br)(a:fj):br × Int:=
 if a.b6=1 then(⟨(allocH w.a a.a5 a.N).1,if(allocH w.a a.a5 a.N).2.2=0 then jT w.b5 a.N else w.b5⟩,(allocH w.a a.a5 a.N).2.2)
 else if a.b6=2\/a.b6=3\/a.b6=4 then(if rO w.a a.N<0 then(w,90) else nK w a (rO w.a a.N).toNat)
 else if a.b6=5\/a.b6=6\/a.b6=7 then(⟨(g9 w.a a).1,w.b5⟩,(g9 w.a a).2)
 else if a.b6=8 then(⟨(pw w.a a.N).1,w.b5⟩,(pw w.a a.N).2)
 else if a.b6=9 then(⟨(pk w.a).1,w.b5⟩,(pk w.a).2)
 else if a.b6=10/\0<=a.N/\a.N<=50 then(⟨(stN w.a a.N.toNat).1,w.b5⟩,((stN w.a a.N.toNat).2:Nat))
 else(w,90)
structure tM(w:br)(m:Nat):Prop where
 inv:bc w.a []
 ji:JI w.a
 ref:uS w.b5 m
variable{w:br}
def tM.more(h:tM w m)(a:m<=n):tM w n:=⟨h.inv,h.ji,h.ref.more a⟩
def tM.jk(h:tM w m){g:ac}(a:bc g []/\JK w.a g)(b:uS r m):tM ⟨g,r⟩ m:=⟨a.1,h.ji.keep a.1 a.2,b⟩
def db(a:bc h E){o:bu}(p:o∈h.O){k:Int}(D:0<=k/\k<=o.y - 1):(af h.F.G.Q ((o.Addr+k) / 16)).j≠0/\0<=o.Addr/\o.Addr+k<512:=by
 rcases a.oow o p with⟨s,g,q,r⟩|⟨l,i,F,G⟩
 ·have b:=a.L.sok s g
  have t:=aI b;obtain⟨u,w,y⟩:=a.mapped g;have d:=cg t.2.2;obtain⟨H,J,A,-⟩:=q;have f:o.y<=csz s.d:=by
   have K:=jq (n:=o.y) ω;rw[r];have:o.y=1\/o.y=2\/o.y=3\/o.y=4\/o.y=5\/o.y=6\/o.y=7\/o.y=8:=ω
   rcases this with e|e|e|e|e|e|e|e<;>rw[e]<;>decide
  have B:(o.Addr+k) / 16=s.R:=by
   rcases d with e|e|e|e<;>rw[e]at A f<;>omega
  rw[B];refine⟨?_,ω,ω⟩;unfold af;rw[CE ⟨u,w⟩];exact y
 obtain⟨j,C,rfl⟩:=aR i;have c:=a.L.lok _ i;unfold bR at c;rw[C0]at c;exact⟨kO a C ⟨ω,ω⟩,ω,ω⟩
def tM.obj(h:tM w m)(a:fj)(b:i<w.a.O.length):tM (nK w a i).1 m:=by
 unfold nK;split
 ·unfold re
  split
  ·exact h
  split
  ·rename_i d
   unfold pD at d;refine h.jk (h.inv.freeT b ω) ?_;split
   ·exact h.ref.free _
   exact h.ref
  exact h
 split
 ·unfold ow
  split
  ·exact h
  rename_i l;split
  ·exact h
  split
  ·exact h
  rename_i n;exact h.jk (h.inv.store (db h.inv (au b) ω).1 ω) (h.ref.store _ _ _)
 unfold qY;split
 ·rename_i e
  obtain⟨-,f,g⟩:=e;obtain⟨j,k,o⟩:=gq _ _ f;have c:=of_decide_eq_true k;exact h.jk (h.inv.trimH b j (c.symm.trans (Int.mul_comm _ _)) g) (h.ref.trim _ _)
 exact h
def tM.thread(h:tM w m)(a:fj):tM ⟨(g9 w.a a).1,w.b5⟩ m:=by
 unfold g9;split
 ·split
  ·rename_i e
   obtain⟨b,i⟩:=e;unfold pD at b;exact h.jk (g:={w.a with w:=gJ w.a.w a.a5.toNat}) ⟨h.inv.deliv (by rw[<-h.inv.nc];omega) i,JK.eq rfl rfl rfl rfl⟩ h.ref
  exact h
 split
 ·exact h
 rename_i e;have e:=Classical.not_not.1 e;obtain⟨-,b⟩:=e;unfold pD at b;split
 ·exact h.jk (g:=collect w.a a.a5.toNat) (h.inv.collect ω) h.ref
 have c:a.a5.toNat<w.a.S.length:=ω
 have d:=(ge h.inv c (v4 4)).1;have f:=JK.flushN h.inv c (v4 4);generalize flushN a.a5.toNat w.a 4=r at d f |-;exact h.jk (g:=r.1) ⟨d,f⟩ h.ref
def wh{h:ac}(a:bc h [])(b:JI h):∀n,bc (stN h n).1 []/\JI (stN h n).1
 | 0=>⟨a,b⟩
 | n+1=>by
  obtain⟨c,d⟩:=wh a b n;unfold stN;split
  ·rename_i e
   unfold uy at e;rw[I0]at e;exact c.mStep d e.1
  exact⟨c,d⟩
def tM.act(h:tM w m)(a:fj):tM (mN w a).1 (m+1):=by
 unfold mN;split
 ·have b:=lZ (t:=a.a5) (size:=a.N) h.inv
  refine⟨b.1,h.ji.keep b.1 b.2,?_⟩;show uS (if _ then _ else _) (m+1);split
  ·exact h.ref.alloc _
  exact h.ref.more ω
 refine tM.more (m:=m) ?_ ω;split
 ·split
  ·exact h
  rename_i e;exact h.obj a (gq _ _ (by unfold rO at e;omega)).1
 split
 ·exact h.thread a
 split
 ·unfold pw
  split
  ·rename_i e
   exact h.jk (h.inv.tick e.2.1.1 e.2.2) h.ref
  exact h
 split
 ·unfold pk
  split
  ·exact h
  rename_i e;have b:=zR h.inv (by simpa using e);exact⟨b.1,b.2,h.ref⟩
 split
 ·have b:=wh h.inv h.ji a.N.toNat
  exact⟨b.1,b.2,h.ref⟩
 exact h
structure cS where
 a4:Nat
 W:Nat
 c4:Nat
 b1:Int
 u:List Int
deriving Inhabited
structure H4(c:cS):Prop where
 p:1<=c.a4/\c.a4<=32
 f:1<=c.W/\c.W<=32
 t:1<=c.c4/\c.c4<=4
 l:0<=c.b1/\c.b1<=1000
 r:c.u.length<=40/\∀x∈c.u,0<=x
def world0(c:cS):br:=⟨newHeap c.a4 c.W c.c4 c.b1 c.u,{b:=1,O:=[]}⟩
def Bi(c:cS)(acts:List fj):Nat->br × List Int
 | 0=>(world0 c,[])
 | i+1=>((mN (Bi c acts i).1 (nth acts i)).1,(Bi c acts i).2++[(mN (Bi c acts i).1 (nth acts i)).2])
def NX{c:cS}(h:H4 c):tM (world0 c) 0:=
 ⟨HJ h.p h.f h.t h.l h.r,JI.no rfl,⟨v4 _,λo a=>(by cases a),by show(0:Int)<=1;omega,by show(1:Int)<=((0:Nat):Int)+1;omega⟩⟩
def vL{c:cS}(h:H4 c)(acts:List fj):∀n,tM (Bi c acts n).1 n
 | 0=>NX h
 | n+1=>(vL h acts n).act _
def Vq(f:dh h=true){z:Int}{k:Nat}(b:k<h.O.length):(nth h.O k).Id=z↔cV (fL z) h.O=(k:Nat):=by
 constructor
 ·rintro rfl
  refine dE (ar b) (by unfold fL;simp) λj y i c=>?_
  have a:=(I3.1 c).1;have:=Vg f a b ω;rw[bq c]at this;unfold fL;exact X0 this
 intro e;rcases mS (fL z) h.O with g|⟨n,l,g,d⟩
 ·omega
 obtain rfl:n=k:=ω
 unfold fL at d;simpa using d
def Nz(a:dh h=true)(b:i<h.O.length):0<=(nth h.O i).Addr/\(nth h.O i).Addr<=2000/\1<=(nth h.O i).y/\(nth h.O i).y<=1000:=by
 obtain⟨g,j,c,d,e,f,-⟩:=Fu a b;exact⟨c,d,e,f⟩
def Qk(h:ac)(k:Nat):List Int:=cellsOf h.F (nth h.O k).Addr (nth h.O k).y.toNat
def zC(o:bu)(z:Int):zzA 89 false [.val (some 4) (bu.enc .U o),.ptr [I z]] .one [B (fL z o)]:=by
 refine fO 8 [] Tryz.func89 rfl ?_
 refine ZP ?_
 exact C1 (λz=>[B z]) ((by unfold fL;rw[I6];simp))
def H5(h:ac)(z:Int)(n:Nat)(b:ac.sml h)(a:dh h=true)(c:n<h.O.length)(g:cV (fL z) h.O=(n:Nat)):zzA 28 false [.val (some 24) (ac.enc .U h),.val none [I z]] (.tup [none,none]) [.s .own ((Qk h n).map (rI .own)),B true]:=by
 have d:=f8 h b;rw[gW,a]at d;have i:h.O.length<=1048576:=b.2.2.2.2.1.1;have p:=Nz a c;have j:=FC h (nth h.O n).Addr (nth h.O n).y (Gz a) ω ω;have l:=ar c;have e:=sH h.O (fL z) ω;rw[g]at e;refine fO 32 [(4,13,[18,19,20,21,22,23,24,25,26,27,28,29,30])] Tryz.func28 rfl ?_ (.inr ⟨⟨.inl λh=>(by cases h),bi _ _ λy _=>qj y⟩,trivial,trivial⟩)
 repeat'(first|refine gE ?_|refine Cq.mk (Bv (some 4) (bu.enc .U) (fL z) h.O) (zC default z).has (λL k rcs o=>?_) ?_)
 ·obtain⟨y,-,rfl,rfl,rfl⟩:=o
  exact zC y z
 rfl
def or64{z1 z2:Int}(h1:0<=z1/\z1<=65535)(a:0<=z2/\z2<=65535):IntKind.i64.wrap ((BitVec.ofInt IntKind.i64.bits z1 ||| BitVec.ofInt IntKind.i64.bits z2).toNat:Nat)=bor z1 z2:=by
 rw[BitVec.toNat_or,rD ω,rD ω];have b:=Ko h1 a;unfold bor at b |-;exact fJ ω ω
def Bq(h:ac)(i:Nat)(n:dY h.J)(d:xG h)(a:∀s∈h.J,bh s=true)(y:i<h.J.length):zzA 479 false [.val (some 24) (ac.enc .U h),.val none [I (i:Nat)]] .one [I (eB h i)]:=by
 have F:=n.1;have G:=ar y;have g:=nj a y;have B:=aK ((i:Nat):Int) 0 ((h.J.length:Int) - 1);rw[O0 (show(0:Int)<=(i:Nat)/\((i:Nat):Int)<=(h.J.length:Int) - 1 by omega)]at B;have C:=je h (nth h.J i).R d;have o:=gh h (nth h.J i).R;have H:fo h<=1048576:=d.1;have c:eB h i=iV h.J (aX h (nth h.J i).R) (nth h.J i).a9 (aX h (nth h.J i).R).length:=rfl;obtain⟨ps,q⟩ : ∃ps,aX h (nth h.J i).R=ps:=⟨_,rfl⟩
 obtain⟨b,r⟩ : ∃b,(nth h.J i).a9=b:=⟨_,rfl⟩
 rw[q]at C o c;rw[r]at c g;rw[c];have J:iV h.J ps b 0=b:=rfl;refine fO 63 [(4,7,[22,23,24,25,26,27,28]),(11,10,[43,44,45,46,47,48,49,50,51,52])] Tryz.func479 rfl ?_
 refine ZP ?_
 refine CK (ι:=Nat) (λu=>[(2,.H .box (ac.enc .U h)),(5,.H .one [I (iV h.J ps b u)]),(6,.H .one (aH .own ps)),(7,.H .one [I ((u:Nat):Int)])]) (λu=>u<=ps.length) (λu=>ps.length - u) (0) ?_ (Z0 _) λu M=>?_
 ·exact wB
 by_cases K:u<ps.length
 ·have l:=ar K
  have t:=mE a (ps:=ps) g u
  refine ZE ?_
  refine CK (ι:=Nat) (λj=>[(2,.H .box (ac.enc .U h)),(5,.H .one [I (qE h.J (nth ps u) (iV h.J ps b u) j)]),(6,.H .one (aH .own ps)),(7,.H .one [I ((u:Nat):Int)]),(8,.H .one [I ((j:Nat):Int)])]) (λj=>j<=h.J.length) (λj=>h.J.length - j) (0) ?_ (Z0 _) λj L=>?_
  ·exact wB
  by_cases D:j<h.J.length
  ·have E:=ar D
   have w:=ya a (p:=nth ps u) t j L;by_cases e:(nth h.J j).R=nth ps u
   ·have k:qE h.J (nth ps u) (iV h.J ps b u) (j+1)=bor (qE h.J (nth ps u) (iV h.J ps b u) j) (nth h.J j).a9:=CE e
    repeat'(first|refine gB ?_|refine CP (or64 w (nj a D)) ?_)
    (refine CG (j+1) ω ω ?_;(exact wB))
   have k:qE h.J (nth ps u) (iV h.J ps b u) (j+1)=qE h.J (nth ps u) (iV h.J ps b u) j:=CC e
   refine ZB ?_
   (refine CG (j+1) ω ω ?_;(exact wB))
  obtain rfl:j=h.J.length:=ω
  refine ZE ?_
  (refine CG (u+1) ω ω ?_;(exact wB))
 obtain rfl:u=ps.length:=ω
 refine ZE ?_
 rfl
def om{xs:List bu}(h:∀o∈xs,0<=o.y/\o.y<=1000):∀k:Nat,k<=xs.length->0<=tJ xs k/\tJ xs k<=1000*k
 | 0,_=>⟨Y6 _,Y6 _⟩
 | k+1,a=>by
  have b:=om h k ω;have c:=h _ (au (xs:=xs) (i:=k) ω);simp only[tJ];omega
def yh(h:ac)(a:∀o∈h.O,0<=o.y/\o.y<=1000)(e:h.O.length<=1048576):zzA 19 false [.val (some 24) (ac.enc .U h)] .one [I (iw h)]:=by
 refine fO 21 [] Tryz.func19 rfl ?_
 refine ZP ?_
 refine CK (ι:=Nat) (λk=>[(1,.H .box (ac.enc .U h)),(3,.H .one [I (tJ h.O k)]),(4,.H .one [I ((k:Nat):Int)])]) (λk=>k<=h.O.length) (λk=>h.O.length - k) (0) ?_ (Z0 _) λk c=>?_
 ·exact wB
 have g:=om a k c;by_cases b:k<h.O.length
 ·have d:=ar b
  have i:=a _ (au b)
  refine ZE ?_
  (refine CG (k+1) ω ω ?_;(exact wB))
 obtain rfl:k=h.O.length:=ω
 refine ZE ?_
 rfl
def yX(k b:Int)(h:b<=9223372036854775807):zzA 478 false [.val none [I (slots k)],.val none [I b]] .one (aH .own (pc k b)):=by
 have c:=sI k b;have p:0<=slots k/\slots k<=16:=by unfold slots;repeat' split<;>omega
 unfold pc;cases e:P6 k b<;>rw[e]at c
 ·rw[CC (by simp)]
  refine fO 27 [] Tryz.func478 rfl ?_ (.inr (bO _))
  refine ZP ?_
  refine CK (ι:=Nat) (λj=>[(0,.H .one [I (slots k)]),(1,.H .one [I (b)]),(5,.H .one (aH .own [])),(6,.H .one [I ((j:Nat):Int)])]) (λj=>j=0) (λj=>1 - j) (0) ?_ (rfl) λj g=>?_
  ·exact wB
  subst g
  repeat'(first|refine gE ?_|with_reducible refine Bf.D (λi=>?_) (λi=>?_))
  all_goals rfl
 rw[CE rfl];refine fO 27 [] Tryz.func478 rfl ?_ (.inr (bO _))
 refine ZP ?_
 refine CK (ι:=Nat) (λj=>[(0,.H .one [I (slots k)]),(1,.H .one [I (b)]),(5,.H .one (aH .own (m7 b j))),(6,.H .one [I ((j:Nat):Int)])]) (λj=>j<=(slots k).toNat) (λj=>(slots k).toNat - j) (0) ?_ (Z0 _) λj g=>?_
 ·exact wB
 have l:=rg b j;by_cases q:j<(slots k).toNat
 ·have d:=jN b (j:Nat) h
  have a:m7 b (j+1)=if bf b (j:Nat)=true then m7 b j else m7 b j++[((j:Nat):Int)]:=rfl
  cases n:bf b (j:Nat)<;>rw[n]at d a
  ·rw[CC (by simp)]at a
   repeat'(first|refine gE ?_|refine CV cC (λr o=>by rw[C2.1 o];rfl) (by simp[bn,eG]) (by simp;omega) (by simp only[O1];exact zd (by simp;omega) (by decide)) rfl ?_)
   (refine CG (j+1) ω ω ?_)
   rw[a]
   repeat'(first|exact trivial|rfl|exact CN rfl (CN (C1 (C.s dX.own) (by simp[rI])) trivial)|refine CN ?_ ?_|(exact Be (by first|omega|(simp only;omega)|(simp;omega))))
  rw[CE rfl]at a
  refine ZE ?_
  (refine CG (j+1) ω ω ?_)
  rw[a];exact wB
 obtain rfl:j=(slots k).toNat:=ω
 refine ZE ?_
 rfl
def Dw(b i:Int):bor b (2 ^ i.toNat)=ib b i:=by
 unfold bor ib;have:((2 ^ i.toNat:Nat):Int)=(2:Int) ^ i.toNat:=Int.natCast_pow 2 i.toNat;rw[<-this,Y3]
def BY(b i:Int)(d:0<=b/\b<=65535)(a:0<=i/\i<=15):zzA 481 false [.val none [I b],.val none [I i]] .one [I (ib b i)]:=by
 have c:=rG b i;rw[O0 ω]at c;have e:IntKind.u64.wrap i=i:=by unfold IntKind.wrap;simp[IntKind.signed,IntKind.bits];omega
 have h:=(shl64 a).2;have g:=(or64 (z1:=b) (z2:=2 ^ i.toNat) d ω).trans (Dw b i);refine fO 15 [] Tryz.func481 rfl ?_
 repeat'(first|refine gP ?_|refine CQ ω ?_|refine CP e ?_|refine CP (shl64 a).1 ?_|refine CP g ?_)
 rfl
def Rf{s:aA}(b:bh s=true){k:Int}(d:0<=k/\k<slots s.d):0<=k*csz s.d/\k*csz s.d<=15:=by
 have a:=aI b;have c:=hB a.2.2;rcases cg a.2.2 with e|e|e|e<;>rw[e]at c |-<;>omega
def Bz(s:aA)(k:Int)(a:bh s=true)(d:0<=k/\k<slots s.d):zzA 482 false [.val (some 3) (aA.enc .U s),.val none [I k]] .one [I (16*s.R+k*csz s.d)]:=by
 have e:=aI a;have i:=Rf a d;have j:=hB e.2.2;have b:=iz s;rw[a]at b;have g:=oz s.d;have c:=aK k 0 (slots s.d - 1);rw[O0 ω]at c;have h:=eP s.d;refine fO 26 [(3,8,[17,18,19,20,21,22,23,24])] Tryz.func482 rfl ?_
 refine ZP ?_
 exact C1 (λz=>[I z]) ω
def FR(f:aU)(g:f.a1.length<=1048576):zzA 483 false [.val (some 2) (aU.enc .U f)] .one [I (cV (λu=>!u) f.a1)]:=by
 refine fO 18 [] Tryz.func483 rfl ?_
 refine ZP ?_
 refine CK (ι:=Nat) (λi=>[(1,.H .box (aU.enc .U f)),(3,.H .one [I ((i:Nat):Int)])]) (λi=>i<=f.a1.length/\∀(j:Nat)(z:Bool),j<i->f.a1[j]? = some z->(!z)=false) (λi=>f.a1.length - i) (0) ?_ (⟨Z0 _,λj z h=>ω⟩) λi c=>?_
 ·exact wB
 obtain⟨c,b⟩:=c;by_cases d:i<f.a1.length
 ·have a:=ar d
  cases e:nth f.a1 i<;>rw[e]at a
  ·refine ZE ?_
   exact C1 (λz=>[I z]) (dE a rfl b).symm
  refine ZE ?_
  (refine CG (i+1) ⟨ω,eA a rfl b⟩ ω ?_;(exact wB))
 refine ZE ?_
 exact C1 (λz=>[I z]) (gv ω b).symm
def oZ(m:aP):∀(n i:Nat),i<n->((nth m.V i).length:Int)+(nth m.a2 i).length<=bI m n/\0<=bI m n
 | 0,i,h=>absurd h (Nat.not_lt_zero i)
 | n+1,i,h=>by
  have a:0<=bI m n:=by
   cases n with
   | zero=>exact Y6 _
   | succ k=>exact(oZ m (k+1) 0 ω).2
  simp only[bI];by_cases e:i=n
  ·subst e;omega
  have:=(oZ m n i ω).1;omega
structure lf(m:aP):Prop where
 b4:1<=m.V.length/\m.V.length<=4
 i4:m.a2.length=m.V.length
 bl:∀i,i<m.V.length->(nth m.V i).length<=30
 il:∀i,i<m.V.length->(nth m.a2 i).length<=30
def lf.of{m:aP}(h:bT m=true):lf m:=by
 obtain⟨⟨b,c,d⟩,-,e⟩:=dS.1 h;exact⟨⟨b,c⟩,d,λi a=>by have:=(oZ m m.V.length i a).1;omega,λi a=>by have:=(oZ m m.V.length i a).1;omega⟩
def lf.sml{m:aP}(h:lf m):aP.sml m:=by
 have c:=h.b4;have d:=h.i4;refine⟨⟨ω,λl a=>?_⟩,⟨ω,λl a=>?_⟩⟩
 ·obtain⟨i,b,rfl⟩:=aR a
  have:=h.bl i b;exact⟨ω,λ_ _=>trivial⟩
 obtain⟨i,b,rfl⟩:=aR a;have:=h.il i ω;show(nth m.a2 i).length<=1048576;omega
def uj(m:aP)(k:Int)(a:aP.sml m):zzA 520 false [.val (some 2) (aP.enc .U m),.val none [I k]] .one [B (bT m&&decide (0<=k/\k<=m.V.length - 1))]:=by
 have b:=mV m a;have c:m.V.length<=1048576:=a.1.1;cases e:bT m<;>rw[e]at b
 all_goals
  refine fO 15 [] Tryz.func520 rfl ?_
  repeat'(first|refine gP ?_|refine CB (aK k 0 (m.V.length - 1:Int)) ?_)
  all_goals rfl
def VY{m:aP}(a:f<m.V.length):m.V[f]? = some (nth m.V f):=ar a
def Pr(m:aP)(f:Nat)(p:dI):aP.enc .own (iU m f p)=[.s .own ((m.V.map (cL .own)).set f (cL .own (nth m.V f++[p]))),.s .own (m.a2.map (aH .own))]:=by simp[aP.enc,iU,S8]
def NQ{m:aP}(h:lf m)(c:f<m.V.length)(p:dI):aP.sml (iU m f p):=by
 have d:=h.b4;have b:=h.sml;refine⟨⟨by simp only[iU,I2];omega,λl a=>?_⟩,b.2⟩;rcases Z8 a with a|rfl
 ·exact b.1.2 l a
 have:=h.bl f c;exact⟨by simp;omega,λ_ _=>trivial⟩
def NL(m:aP)(f:Nat)(p:dI)(j:bT m=true)(g:f<m.V.length):zzA 512 false [.val (some 2) (aP.enc .U m),.val none [I (f:Nat)],.val (some 2) (dI.enc .U p)] (.tup [some 2,none]) (aP.enc .own (if bT (iU m f p)=true then iU m f p else m)++[B (bT (iU m f p))]):=by
 have c:=lf.of j;have k:=c.sml;have q:=c.b4;have h:=uj m f k;rw[j,O0 ω]at h;have l:=gG m k;have b:=NQ c g p;have i:=mV (iU m f p) b;have n:=gG (iU m f p) b;have a:=VY g;have o:=c.bl f g;have d:=aP.enc_fz (iU m f p);rw[Pr]at d;cases e:bT (iU m f p)<;>rw[e]at i
 ·rw[CC (by simp)]
  refine fO 35 [(4,267,[16,17,18,19,20,21,22,23,24,25,27,0,1,2,3,4,5,6,7,8,9,10,1000,1001,1002,11,12])] Tryz.func512 rfl ?_ (.inr (aJ (aP.enc_fr _) ⟨trivial,trivial⟩))
  repeat'(first|refine gP ?_|refine CF (fE a) ?_|refine CJ rfl (fE a) rfl ?_|refine Lq.one rfl rfl (aa a) rfl (Z1 rfl) rfl rfl ?_|refine CR rfl rfl (fE a) rfl (Z1 rfl) (show [C.s dX.own ((m.V.map (cL .own)).set f (cL .own (nth m.V f++[p]))),C.s .own (m.a2.map (aH .own))]=_ from by simp only[List.set_cons_zero,List.set_set,Y3];rfl) ?_|refine Ap.sm (aO λ_=>rfl) rfl (by simp;omega) (by decide) (gS _ _ _) ?_|refine CH (i) ⟨⟨rfl,d⟩,trivial⟩ ?_)
  rfl
 rw[CE rfl];refine fO 35 [(4,267,[16,17,18,19,20,21,22,23,24,25,27,0,1,2,3,4,5,6,7,8,9,10,1000,1001,1002,11,12])] Tryz.func512 rfl ?_ (.inr (aJ (aP.enc_fr _) ⟨trivial,trivial⟩))
 repeat'(first|refine gP ?_|refine CF (fE a) ?_|refine CJ rfl (fE a) rfl ?_|refine Lq.one rfl rfl (aa a) rfl (Z1 rfl) rfl rfl ?_|refine CR rfl rfl (fE a) rfl (Z1 rfl) (show [C.s dX.own ((m.V.map (cL .own)).set f (cL .own (nth m.V f++[p]))),C.s .own (m.a2.map (aH .own))]=_ from by simp only[List.set_cons_zero,List.set_set,Y3];rfl) ?_|refine Ap.sm (aO λ_=>rfl) rfl (by simp;omega) (by decide) (gS _ _ _) ?_|refine CH (i) ⟨⟨rfl,d⟩,trivial⟩ ?_|refine CH (n) ⟨⟨rfl,d⟩,trivial⟩ ?_)
 rfl
def KN(m:aP)(f:Int)(a:bT m=true)(d:¬(0<=f/\f<=m.V.length - 1)):zzA 422 false [.val (some 2) (aP.enc .U m),.val none [I f]] (.tup [some 2,none]) (aP.enc .own m++[B false]):=by
 have e:=lf.of a;have b:=e.sml;have c:=uj m f b;rw[a,X0 d]at c;have g:=gG m b;refine fO 60 [(5,267,[31,32,33,34,35,36,37,38,39,40,42,0,1,2,3,4,5,6,7,8,9,10,1000,1001,1002,11,12]),(6,270,[43,44,45,46,47,48,49,50,51,52,53,54,55,57,0,1,2,3,4,5,6,7,8,9,10,11,12,13,1000,1001,1002,1003,14,15])] Tryz.func422 rfl ?_ (.inr (aJ (aP.enc_fr _) ⟨trivial,trivial⟩))
 refine ZP ?_
 rfl
def KC(m:aP)(f t:Nat)(a:(nth (nth m.V f) 0).To=t):aP.enc .own (gJ m f)=[.s .own ((m.V.map (cL .own)).set f [.s .own (((nth m.V f).drop 1).map (dI.enc .U))]),.s .own ((m.a2.map (aH .own)).set t (aH .own (nth m.a2 t++[(nth (nth m.V f) 0).Addr])))]:=by
 unfold aP.enc gJ;simp only[S8,a,Y3]
 rfl
def J6(m:aP)(f:Nat)(h:bT m=true)(i:f<m.V.length):zzA 422 false [.val (some 2) (aP.enc .U m),.val none [I (f:Nat)]] (.tup [some 2,none]) (aP.enc .own (if 0<(nth m.V f).length then gJ m f else m)++[B (decide (0<(nth m.V f).length))]):=by
 have d:=lf.of h;have u:=d.sml;have K:=d.b4;have D:=d.i4;have j:=uj m f u;rw[h,O0 ω]at j;have w:=gG m u;have a:=VY i;have F:=d.bl f i;by_cases e:0<(nth m.V f).length
 ·rw[CE e,O0 e]
  have g:=((dS.1 h).2.1 f i).1 _ (au e);obtain⟨t,k⟩:=Z3 g.1;have l:t<m.a2.length:=ω
  have y:=ar e;have c:=ar l;have G:=d.il t ω;have n:=(lf.of (JJ h i e)).sml;have H:=gG (gJ m f) n;have o:=aP.enc_fz (gJ m f);rw[KC m f t k]at o;have q:=aJ (b:=[B true]) (aP.enc_fr (gJ m f)) ⟨trivial,trivial⟩;generalize L:nth (nth m.V f) 0=p at *;obtain⟨M,J⟩:=p;simp only at k g o;subst k;refine fO 60 [(5,267,[31,32,33,34,35,36,37,38,39,40,42,0,1,2,3,4,5,6,7,8,9,10,1000,1001,1002,11,12]),(6,270,[43,44,45,46,47,48,49,50,51,52,53,54,55,57,0,1,2,3,4,5,6,7,8,9,10,11,12,13,1000,1001,1002,1003,14,15])] Tryz.func422 rfl ?_ (.inr q)
  repeat'(first|refine gB ?_|with_reducible refine Bf.E (λr=>?_) (λr=>?_)|refine CO (by decide) (aa y) ?_|refine CF (fE a) ?_|refine CF (fE c) ?_|refine CJ rfl (fE a) rfl ?_|refine CJ rfl (fE c) rfl ?_|refine Lq.one rfl rfl (aa c) rfl (Z1 rfl) rfl rfl ?_|refine Cb 1 rfl (by rw[O1];omega) (aO λ_=>rfl) I5 ?_|refine CZ (λ_=>rfl) (λ_=>rfl) (by rw[I4];omega) (by decide) ?_|refine CT (λ_=>rfl) (λ_=>rfl) (by rw[I4];omega) (by decide) ?_|refine CR rfl rfl (aa a) rfl (Z1 rfl) rfl ?_|refine CR rfl rfl (fE c) rfl (Z1 rfl) (show [C.s dX.own ((m.V.map (cL .own)).set f [.s .own (((nth m.V f).drop 1).map (dI.enc .U))]),C.s .own ((m.a2.map (aH .own)).set t (aH .own (nth m.a2 t++[J])))]=_ from by simp only[List.set_cons_zero,List.set_cons_succ,List.set_set,Y3];rfl) ?_|refine Ap.sm (aO λ_=>rfl) rfl (by simp;omega) (by decide) (gS _ _ _) ?_|refine CH (H) ⟨⟨rfl,o⟩,trivial⟩ ?_)
  rfl
 rw[CC e,X0 e];refine fO 60 [(5,267,[31,32,33,34,35,36,37,38,39,40,42,0,1,2,3,4,5,6,7,8,9,10,1000,1001,1002,11,12]),(6,270,[43,44,45,46,47,48,49,50,51,52,53,54,55,57,0,1,2,3,4,5,6,7,8,9,10,11,12,13,1000,1001,1002,1003,14,15])] Tryz.func422 rfl ?_ (.inr (aJ (aP.enc_fr _) ⟨trivial,trivial⟩))
 repeat'(first|refine gB ?_|with_reducible refine Bf.E (λr=>?_) (λr=>?_))
 rfl
def PB.set(rows:List (List C))(i:Nat){r n:List C}(h:Rm r n):PB (.s .own (rows.set i r)) (.s .own (rows.set i n)):=by
 refine .own_ _ _ (by simp) (λj a b d f=>?_) (λj l a b c p d f o g=>?_)
 ·by_cases e:i=j
  ·subst e
   have k:i<rows.length:=by have:=(I3.1 d).1;simpa using this
   rw[X4 k]at d f;cases d;cases f;exact h.1
  rw[List.getElem?_set_ne e]at d f;rw[d]at f;cases f;rfl
 by_cases e:i=j
 ·subst e
  have k:i<rows.length:=by have:=(I3.1 d).1;simpa using this
  rw[X4 k]at d f;cases d;cases f;exact h.2 l c p o g
 rw[List.getElem?_set_ne e]at d f;rw[d]at f;cases f;rw[o]at g;cases g;exact .rfl_ _
def FM(m:aP)(t:Nat)(d:bT m=true)(h:t<m.V.length):zzA 521 false [.val (some 2) (aP.enc .U m),.val none [I (t:Nat)]] (.tup [some 2,none]) (aP.enc .own (mz m t)++aH .own (nth m.a2 t)):=by
 have b:=lf.of d;have e:=b.sml;have o:=b.b4;have j:=b.i4;have g:=uj m t e;rw[d,O0 ω]at g;have k:=gG m e;have c:=ar (xs:=m.a2) (i:=t) ω;have l:=b.il t h;have a:=aJ (aP.enc_fr (mz m t)) (bO (nth m.a2 t));have n:aP.enc .own (mz m t)=[.s .own (m.V.map (cL .own)),.s .own ((m.a2.map (aH .own)).set t [.s .own []])]:=by simp[aP.enc,mz,S8];rfl
 rw[n]at a |-;refine fO 28 [(5,263,[20,21,22,23,24,25,26,0,1,2,3,4,5,6,7,1000,8,9])] Tryz.func521 rfl ?_ (.inr a)
 repeat'((conv=>whnf);first|with_reducible (first|refine Lm ?_|refine Wm ω ?_|refine CF (aa c) ?_|refine Bn ?_|refine jV.dk rfl ?_)|refine Bt ?_|refine Bu ?_|refine CD ?_|refine CB (g) ?_|refine CB (k) ?_|refine CJ rfl (aa c) rfl ?_|refine CR rfl rfl (aa c) rfl (Z1 rfl) rfl ?_|refine CZ (λ_=>rfl) (λ_=>rfl) ω (by decide) ?_|refine CT (λ_=>rfl) (λ_=>rfl) ω (by decide) ?_|refine CD ?_)
 exact .cons (.rfl_ _) (.cons (PB.set _ _ (.cons .z_ .nil)) (.cons (.rfl_ _) .nil))
def Nf(now:Int):∀{l:List aT}{i:Nat},i<=l.length->(∀j,j<i->(nth l j).b7<now - 100)->(i<l.length->¬(nth l i).b7<now - 100)->vp now l=i
 | [],i,h,_,_=>by simp at h;subst h;rfl
 | x::xs,0,_,_,h=>by
  unfold vp;exact CC (h (by simp))
 | x::xs,i+1,b,a,c=>by
  unfold vp;refine(CE (a 0 ω)).trans ?_;rw[Nf now (l:=xs) (i:=i) (by simp at b;omega) (λj d=>a (j+1) ω) (λe=>c (by simp;omega))]
def U3(q:bS)(now:Int):List C:=bS.enc .own ⟨q.b8,q.a6.drop (vp now q.a6)⟩++dm .own (q.a6.take (vp now q.a6))
def xJ(q:bS)(now:Int)(g:ia q=true)(G:q.a6.length<=4096)(u:0<=now/\now<=1000000):zzA 425 false [.val (some 2) (bS.enc .U q),.val none [I now],.val none [I 100]] (.tup [some 2,none]) (U3 q now):=by
 have w:bS.sml q:=⟨ω,λ_ _=>trivial⟩
 have n:=qb q w;rw[g]at n;have o:=aK now 0 1000000;rw[O0 u]at o;have p:=aK 100 0 1000000;rw[O0 (by decide)]at p;have h:=(kT.1 g).1;have a:i6 (U3 q now):=aJ (bS.enc_fr _) (xg _);have y:∀i,i<q.a6.length->0<=(nth q.a6 i).b7:=λi b=>(h _ (au b)).2.2.2
 unfold U3 at a |-;generalize B:vp now q.a6=k at a |-;refine fO 59 [(6,270,[44,45,46,47,48,49,50,51,53,54,55,56,57,58,0,1,2,3,4,5,6,7,9,10,11,12,13,14,8,1009,1010,1011,1012,1013,1014,15,16])] Tryz.func425 rfl ?_ (.inr a)
 refine ZP ?_
 refine CK (ι:=Nat) (λi=>[(1,.H .one [I (now)]),(2,.H .one [I (100)]),(3,.H .box (bS.enc .U q)),(6,.H .box [I 0,.z]),(8,.H .one [I ((i:Nat):Int)])]) (λi=>i<=q.a6.length/\∀j,j<i->(nth q.a6 j).b7<now - 100) (λi=>q.a6.length - i) (0) ?_ (⟨Z0 _,λj C=>ω⟩) λi b=>?_
 ·exact wC
 obtain⟨b,r⟩:=b;by_cases l:i<q.a6.length/\(nth q.a6 i).b7<now - 100
 ·have c:=ar l.1
  refine ZE ?_
  (refine CG (i+1) ⟨ω,λj C=>by by_cases e:j=i;(subst e;exact l.2);exact r j ω⟩ ω ?_;(exact wC))
 have d:=Nf now (i:=i) b r (λE F=>l ⟨E,F⟩);rw[B]at d;subst d;by_cases t:k<q.a6.length
 ·have c:=ar t
  have:=y k t
  repeat'(first|refine gE ?_|with_reducible refine Bf.D (λg=>?_) (λg=>?_)|refine CY k rfl (by rw[O1];omega) (aO λ_=>rfl) C5 ?_|refine Cb k rfl (by rw[O1];omega) (aO λ_=>rfl) I5 ?_|refine CZ (λ_=>rfl) (λ_=>rfl) (by rw[O2];omega) (by decide) ?_|refine CZ (λ_=>rfl) (λ_=>rfl) (by rw[I4];omega) (by decide) ?_|refine CT (λ_=>rfl) (λ_=>rfl) (by rw[I4];omega) (by decide) ?_)
  rfl
 repeat'(first|refine gE ?_|refine CY k rfl (by rw[O1];omega) (aO λ_=>rfl) C5 ?_|refine Cb k rfl (by rw[O1];omega) (aO λ_=>rfl) I5 ?_|refine CZ (λ_=>rfl) (λ_=>rfl) (by rw[O2];omega) (by decide) ?_|refine CZ (λ_=>rfl) (λ_=>rfl) (by rw[I4];omega) (by decide) ?_|refine CT (λ_=>rfl) (λ_=>rfl) (by rw[I4];omega) (by decide) ?_)
 rfl
def EA(h:ac)(n:Int)(g:bc h [])(r:0<=n/\n<=1000)(p:h.b2+n<=1000000):zzB 278 false [.ptr (bL h),.val none [I n]] [.ptr (bL (tick h n)),.val none [I n]] .one [I ((o7 h n).length:Nat)]:=by
 have a:=g.nums;unfold cx at a;rw[C0]at a;have t:=g.lens.quar;have i:=xJ h.a7 (h.b2+n) g.quar ω ⟨ω,p⟩;have j:=g.aged r.1 p;unfold U3 at i;unfold tick o7 aged at *;have l:(h.a7.a6.take (vp (h.b2+n) h.a7.a6)).length<=4096:=by rw[O2];omega
 rw[O1];generalize h.a7.a6.take (vp (h.b2+n) h.a7.a6)=out at i j l |-;generalize h.a7.a6.drop (vp (h.b2+n) h.a7.a6)=rest at i j |-;refine fM 48 [(426,[2,0])] [(2,269,[18,19,20,21,22,23,24,25,26,17,27,28,5,0,1,2,3,4,5,6,7,8,9,10,11,12,13,1011,14])] [(0,0),(0,0)] Tryz.func278 rfl (λu q=>?_)
 repeat'(first|refine gP ?_|refine CH (i) ⟨⟨rfl,bS.enc_fz h.a7⟩,⟨rfl,rfl⟩,⟨rfl,rfl⟩,trivial⟩ ?_)
 refine CK (ι:=Nat) (λk=>[(0,.H .box (bL (freeAs {h with b2:=h.b2+n,a7:=⟨h.a7.b8,rest⟩} ((out.map (·.Addr)).take k)))),(6,.H .one (dm .own out)),(7,.H .one [I ((k:Nat):Int)])]) (λk=>k<=out.length) (λk=>out.length - k) (0) ?_ (Z0 _) λk y=>?_
 ·exact wC
 by_cases o:k<out.length
 ·have b:=ar o
  have c:k<(out.map (·.Addr)).length:=by rw[O1];exact o
  have d:nth (out.map (·.Addr)) k=(nth out k).Addr:=bq (by rw[z4,ar o];rfl);have e:bc (freeAs {h with b2:=h.b2+n,a7:=⟨h.a7.b8,rest⟩} ((out.map (·.Addr)).take k)) (nth (out.map (·.Addr)) k::(out.map (·.Addr)).drop (k+1)):=by
   refine bc.freeAs ?_;rw[<-iT c,List.take_append_drop];rw[List.append_nil]at j;exact j
  rw[d]at e;have w:=pF _ _ _ e
  refine ZE ?_
  (refine CG (k+1) ω ω ?_)
  rw[qC _ _ _ c,d];exact wC
 obtain rfl:k=out.length:=ω
 rw[O9 (by rw[O1];omega)]
 refine ZE ?_
 refine CL rfl rfl ?_;exact wC
def HI(t:Nat)(h:ac)(az:List Int)(k:Nat)(a:k<az.length):recycs t h (az.take (k+1))=recyc t (recycs t h (az.take k)) (nth az k):=by
 unfold recycs;rw[X7,ar a,Option.toList_some,List.foldl_append];rfl
def x5(h:ac)(t:Nat)(a:bc h [])(i:t<h.S.length):zzB 423 false [.ptr (bL h),.val none [I (t:Nat)]] [.ptr (bL (collect h t)),.val none [I (t:Nat)]] .one [I ((nth h.w.a2 t).length:Nat)]:=by
 have l:=a.nc;have n:=(dS.1 a.mail).1.2.2;have j:=FM h.w t a.mail ω;have c:=(lf.of a.mail).il t ω;have d:=a.coll (t:=t) ω;rw[List.append_nil]at d;unfold collect;generalize nth h.w.a2 t=out at j d c |-;refine fM 36 [(515,[2,0,0])] [] [(0,0),(0,0)] Tryz.func423 rfl (λu q=>?_)
 repeat'(first|refine gP ?_|refine CH (j) ⟨⟨rfl,aP.enc_fz h.w⟩,⟨rfl,rfl⟩,trivial⟩ ?_)
 refine CK (ι:=Nat) (λk=>[(0,.H .box (bL (recycs t {h with w:=mz h.w t} (out.take k)))),(1,.H .one [I ((t:Nat):Int)]),(6,.H .one (aH .own out)),(7,.H .one [I ((k:Nat):Int)])]) (λk=>k<=out.length) (λk=>out.length - k) (0) ?_ (Z0 _) λk p=>?_
 ·exact wC
 by_cases e:k<out.length
 ·have b:=ar e
  have g:bc (recycs t {h with w:=mz h.w t} (out.take k)) (nth out k::out.drop (k+1)):=by
   refine bc.recycs ?_ i;rw[<-iT e,List.take_append_drop];exact d
  have o:=pJ _ _ t _ g (by rw[(fW t _ _).1];exact i)
  refine ZE ?_
  (refine CG (k+1) ω ω ?_)
  rw[HI _ _ _ _ e];exact wC
 obtain rfl:k=out.length:=ω
 rw[C7]
 refine ZE ?_
 refine CL rfl rfl ?_;exact wC
def RP(a:Int)(o:bu):Bool:=decide (o.Addr<=a/\a<o.Addr+o.y)
def K8(h:ac)(E:List Int)(a:Int)(d:bc h E):zzB 517 false [.ptr (bL h),.val none [I a]] [.ptr (bL h),.val none [I a]] .one [I (cV (RP a) h.O)]:=by
 have r:=d.lens.objs;refine fM 47 [] [(4,29,[15,16,17,18,19,20,21,22,23,24,25,26,27,28,29,30,31,32,33,34,35,36,37,38,39,40,41,42,43])] [(0,0),(0,0)] Tryz.func517 rfl (λu q=>?_)
 refine ZP ?_
 refine CK (ι:=Nat) (λi=>[(0,.H .box (bL h)),(1,.H .one [I (a)]),(5,.H .one [I ((i:Nat):Int)])]) (λi=>i<=h.O.length/\∀(j:Nat)(z:bu),j<i->h.O[j]? = some z->RP a z=false) (λi=>h.O.length - i) (0) ?_ (⟨Z0 _,λj z C=>ω⟩) λi d=>?_
 ·exact wC
 obtain⟨t,c⟩:=d;by_cases e:i<h.O.length
 ·have b:=ar e
  have w:=vW ‹bc h E› (au e);have y:0<=(nth h.O i).y/\(nth h.O i).y<=1000:=by
   rcases bc.oow ‹bc h E› _ (au e) with⟨s,B,F,G⟩|⟨l,g,k,o⟩
   ·have H:=aI ((bc.L ‹bc h E›).sok s B)
    have:=jq (n:=(nth h.O i).y) ω;omega
   have J:=de ((bc.L ‹bc h E›).lok l g);omega
  by_cases k:(nth h.O i).Addr<=a
  ·by_cases o:a<(nth h.O i).Addr+(nth h.O i).y
   ·refine ZE ?_
    refine CL rfl (C1 (λz=>[I z]) (dE b (O0 ⟨k,o⟩) c).symm) ?_;exact wC
   repeat'(first|refine gE ?_|with_reducible refine Bf.D (λp=>?_) (λp=>?_))
   (refine CG (i+1) ⟨ω,eA b (X0 λx=>o x.2) c⟩ ω ?_;(exact wC))
  repeat'(first|refine gE ?_|with_reducible refine Bf.D (λp=>?_) (λp=>?_))
  (refine CG (i+1) ⟨ω,eA b (X0 λx=>k x.1) c⟩ ω ?_;(exact wC))
 refine ZE ?_
 refine CL rfl (C1 (λz=>[I z]) (gv ω c).symm) ?_;exact wC
def Mt(h:ac)(a v:Int):bL {h with F:=ew h.F a v} = (bL h).set 0 (.s .own ((h.F.G.W.T.map (aH .own)).set (af h.F.G.Q (a / 16)).e.toNat ((aH .own (nth h.F.G.W.T (df h.F a))).set 0 (.s .own (((nth h.F.G.W.T (df h.F a)).map (rI .own)).set (a % 16).toNat (splice (rI .own (nth (nth h.F.G.W.T (df h.F a)) (a % 16).toNat)) 0 [I v])))))):=by
 simp[bL,ew,setCell,S8,aH,splice,df,rI]
def GI{p:α->Bool}{xs:List α}{x:α}(a:x∈xs)(b:p x=true):0<=cV p xs:=by
 have:=lY p xs;rw[show xs.any p=true from t5.2 ⟨x,a,b⟩,C0]at this;exact this
def BG(h:ac)(i:Nat)(j v:Int)(e:bc h [])(C:i<h.O.length)(D:0<=j/\j<=(nth h.O i).y - 1):zzB 418 false [.ptr (bL h),.val none [I ((nth h.O i).Addr+j)],.val none [I v]]
  [.ptr (bL (if(af h.F.G.Q (((nth h.O i).Addr+j) / 16)).j=1\/¬(0<=v/\v<=999) then h else {h with F:=ew h.F ((nth h.O i).Addr+j) v})),.val none [I ((nth h.O i).Addr+j)],.val none [I v]] .one [I (if(af h.F.G.Q (((nth h.O i).Addr+j) / 16)).j=1 then 2 else if ¬(0<=v/\v<=999) then 3 else 0)]:=by
 obtain⟨E,J,K⟩:=db e (au C) D;have F:0<=cV (RP ((nth h.O i).Addr+j)) h.O:=GI (au C) (O0 ω);have p:=K8 h [] ((nth h.O i).Addr+j) e;have r:=bk e.ker;have t:=dy h.F.G.Q (((nth h.O i).Addr+j) / 16) r.1.2;have n:=aK v 0 999;generalize L:(nth h.O i).Addr+j=a at *;have b:0<=a/\a<512:=ω
 obtain⟨-,-,-,G,M⟩:=bK e.ker E;have H:=(aZ.1 (aC.1 e.ker).2.1).2.2.1;have k:df h.F a<h.F.G.W.T.length:=by unfold df;omega
 have d:h.F.G.W.T[(af h.F.G.Q (a / 16)).e.toNat]? = some (nth h.F.G.W.T (df h.F a)):=ar k;have w:=e.lens.row _ (au k);have l:=ar (xs:=nth h.F.G.W.T (df h.F a)) (i:=(a % 16).toNat) (by rw[w];omega);have B:a.tmod 16=a % 16:=eK b.1;refine fM 42 [(517,[2,0])] [(8,14,[27,28,29,30,31,32,33,34,35,36,37,38,39,40])] [(0,0),(0,0),(0,0)] Tryz.func418 rfl (λu q=>?_);by_cases o:(af h.F.G.Q (a / 16)).j=1
 ·rw[CE (Or.inl o),CE o]
  repeat'(first|refine gB ?_|refine CH (t) ⟨⟨rfl,Cf _⟩,⟨rfl,rfl⟩,trivial⟩ ?_|refine CQ (by decide) ?_|refine CP (qB b) ?_)
  refine CL rfl rfl ?_;exact wC
 rw[CC (c:=_=(1:Int)) o];by_cases g:0<=v/\v<=999
 ·rw[O0 g]at n
  rw[CC (c:=¬(0<=v/\v<=999)) (z5 g),CC (c:=_\/¬(0<=v/\v<=999)) (λy=>y.elim o λy=>y g)]
  repeat'(first|refine gB ?_|refine CH (t) ⟨⟨rfl,Cf _⟩,⟨rfl,rfl⟩,trivial⟩ ?_|refine CQ (by decide) ?_|refine CP (qB b) ?_|refine CU B ?_|refine CO G (aa d) ?_|refine CO ω (aa l) ?_|refine Pu.two rfl rfl (aa d) rfl rfl rfl (aa l) rfl (v4 _) (Mt h a v) ?_)
  refine CL rfl rfl ?_;exact wC
 rw[X0 g]at n;rw[CE (Or.inr g),CE g]
 repeat'(first|refine gB ?_|refine CH (t) ⟨⟨rfl,Cf _⟩,⟨rfl,rfl⟩,trivial⟩ ?_|refine CQ (by decide) ?_|refine CP (qB b) ?_)
 refine CL rfl rfl ?_;exact wC
def AU(l:aE)(n:Int):aB:=if(n+15) / 16<l.a4 then⟨l.R+(n+15) / 16,l.a4 - (n+15) / 16⟩ else⟨0,0⟩
def AM(l:aE)(n:Int)(d:bR l=true):zzA 518 false [.val (some 3) (aE.enc .U l),.val none [I n]] (.tup [some 3,some 2,none]) (if 9<=n/\n<=l.y then aE.enc .own (trimL l n)++aB.enc .own (AU l n)++[B true] else aE.enc .own l++[I 0,I 0]++[B false]):=by
 have b:=pz l;rw[d]at b;have a:=aK n 9 l.y;have g:=d;unfold bR at g;rw[C0]at g;by_cases e:9<=n/\n<=l.y
 ·rw[O0 e]at a
  rw[CE e];have c:=nJ n;rw[show fF n=(n+15) / 16 by unfold fF;rw[CE ω]]at c;unfold AU;by_cases h:(n+15) / 16<l.a4
  ·rw[CE h]
   refine fO 43 [(7,261,[37,38,39,40,42,0,1,2,3,5,4,1005,6,1005,7,8])] Tryz.func518 rfl ?_ (.inr ⟨trivial,trivial,trivial,trivial,trivial,trivial,trivial⟩)
   refine ZE ?_
   rfl
  rw[CC h];refine fO 43 [(7,261,[37,38,39,40,42,0,1,2,3,5,4,1005,6,1005,7,8])] Tryz.func518 rfl ?_ (.inr ⟨trivial,trivial,trivial,trivial,trivial,trivial,trivial⟩)
  refine ZE ?_
  rfl
 rw[X0 e]at a;rw[CC e];refine fO 43 [(7,261,[37,38,39,40,42,0,1,2,3,5,4,1005,6,1005,7,8])] Tryz.func518 rfl ?_ (.inr ⟨trivial,trivial,trivial,trivial,trivial,trivial,trivial⟩)
 refine ZP ?_
 rfl
def Gr(h:ac)(t a:Int)(c:h.S.length<=4)(d:¬(0<=t/\t<=h.S.length - 1)):zzB 416 false [.ptr (bL h),.val none [I t],.val none [I a]] [.ptr (bL h),.val none [I t],.val none [I a]] .one [I 1]:=by
 have b:=aK t 0 (h.S.length - 1:Int);rw[X0 d]at b;refine fM 148 [(511,[2,0]),(513,[2,0]),(515,[2,0,0]),(510,[2,0])] [(15,269,[68,69,70,71,72,73,74,75,77,67,78,79,11,0,1,2,3,4,5,6,7,13,8,1000,1001,1002,1003,1004,1013,9,10,11,12,14,1012,15]),(22,15,[92,93,94,95,96,97,98,99,100,101,102,103,104,105,106]),(25,271,[116,117,118,119,120,121,122,123,124,125,127,115,128,129,14,0,1,2,3,4,5,6,7,8,9,15,10,1000,1001,1002,1003,1015,11,12,13,14,16,1014,17])] [(0,0),(0,0),(0,0)] Tryz.func416 rfl (λu q=>?_)
 refine ZP ?_
 refine CL rfl rfl ?_;exact wC
def GZ(h:ac)(i t:Nat)(a:bc h [])(j:i<h.O.length)(U:t<h.S.length)(K:(nth h.O i).a5≠t):zzB 416 false [.ptr (bL h),.val none [I (t:Nat)],.val none [I (nth h.O i).Addr]] [.ptr (bL (freeT h t i).1),.val none [I (t:Nat)],.val none [I (nth h.O i).Addr]] .one [I (freeT h t i).2]:=by
 have F:=au j;obtain⟨-,L,d⟩:=a.objAt F;have N:sj h (nth h.O i).Addr=i:=by
  have V:=(a.objAt F).1;exact cX (f:=(·.Addr)) (dw a.osr) V j (by rw[L])
 rw[N]at d;have b:=vW a F;have W:=a.onu _ F;have n:=a.lens;have X:=n.objs;have Y:=a.nc;have Z:=lf.of a.mail;have hb4:=Z.b4;have o:=aK (t:Nat) 0 (h.S.length - 1:Int);rw[O0 ω]at o;have p:=t6 h (nth h.O i).Addr ω;rw[d]at p;have e:=ar j;have G:=lQ (nth h.O i).y;have O:=bk a.ker;have P:=dy h.F.G.Q ((nth h.O i).Addr / 16) O.1.2;unfold freeT;by_cases H:aL (nth h.O i).y<0
 ·rw[CE H]
  have c3:=sL h i a j H;refine fM 148 [(511,[2,0]),(513,[2,0]),(515,[2,0,0]),(510,[2,0])] [(15,269,[68,69,70,71,72,73,74,75,77,67,78,79,11,0,1,2,3,4,5,6,7,13,8,1000,1001,1002,1003,1004,1013,9,10,11,12,14,1012,15]),(22,15,[92,93,94,95,96,97,98,99,100,101,102,103,104,105,106]),(25,271,[116,117,118,119,120,121,122,123,124,125,127,115,128,129,14,0,1,2,3,4,5,6,7,8,9,15,10,1000,1001,1002,1003,1015,11,12,13,14,16,1014,17])] [(0,0),(0,0),(0,0)] Tryz.func416 rfl (λu q=>?_)
  repeat'(first|refine gE ?_|with_reducible refine Bf.D (λc=>?_) (λc=>?_)|refine CH (p) ⟨⟨rfl,bP h⟩,⟨rfl,rfl⟩,trivial⟩ ?_)
  refine CL rfl rfl ?_;exact wC
 rw[CC H];obtain⟨s1,s2,s3,s4⟩:=W6.of a (au j) H;by_cases J:(af (tbl h) ((nth h.O i).Addr / 16)).j=1
 ·rw[CE J]
  unfold tbl at J;refine fM 148 [(511,[2,0]),(513,[2,0]),(515,[2,0,0]),(510,[2,0])] [(15,269,[68,69,70,71,72,73,74,75,77,67,78,79,11,0,1,2,3,4,5,6,7,13,8,1000,1001,1002,1003,1004,1013,9,10,11,12,14,1012,15]),(22,15,[92,93,94,95,96,97,98,99,100,101,102,103,104,105,106]),(25,271,[116,117,118,119,120,121,122,123,124,125,127,115,128,129,14,0,1,2,3,4,5,6,7,8,9,15,10,1000,1001,1002,1003,1015,11,12,13,14,16,1014,17])] [(0,0),(0,0),(0,0)] Tryz.func416 rfl (λu q=>?_)
  repeat'(first|refine gB ?_|with_reducible refine Bf.D (λc=>?_) (λc=>?_)|refine CQ (by decide) ?_|refine CP (qB b) ?_|refine CH (p) ⟨⟨rfl,bP h⟩,⟨rfl,rfl⟩,trivial⟩ ?_|refine CH (P) ⟨⟨rfl,Cf _⟩,⟨rfl,rfl⟩,trivial⟩ ?_)
  refine CL rfl rfl ?_;exact wC
 rw[CC J,CC K];unfold tbl at J;have r:=NL h.w t ⟨(nth h.O i).a5,(nth h.O i).Addr⟩ a.mail ω;by_cases l:bT (iU h.w t ⟨(nth h.O i).a5,(nth h.O i).Addr⟩)=true;rotate_left
 ·rw[CC l]
  rw[CC l,show bT (iU h.w t ⟨(nth h.O i).a5,(nth h.O i).Addr⟩)=false by simpa using l]at r;refine fM 148 [(511,[2,0]),(513,[2,0]),(515,[2,0,0]),(510,[2,0])] [(15,269,[68,69,70,71,72,73,74,75,77,67,78,79,11,0,1,2,3,4,5,6,7,13,8,1000,1001,1002,1003,1004,1013,9,10,11,12,14,1012,15]),(22,15,[92,93,94,95,96,97,98,99,100,101,102,103,104,105,106]),(25,271,[116,117,118,119,120,121,122,123,124,125,127,115,128,129,14,0,1,2,3,4,5,6,7,8,9,15,10,1000,1001,1002,1003,1015,11,12,13,14,16,1014,17])] [(0,0),(0,0),(0,0)] Tryz.func416 rfl (λu q=>?_)
  repeat'(first|refine gB ?_|with_reducible refine Bf.D (λc=>?_) (λc=>?_)|refine CQ (by decide) ?_|refine CP (qB b) ?_|refine CH (p) ⟨⟨rfl,bP h⟩,⟨rfl,rfl⟩,trivial⟩ ?_|refine CH (P) ⟨⟨rfl,Cf _⟩,⟨rfl,rfl⟩,trivial⟩ ?_|refine CH (r) ⟨⟨rfl,aP.enc_fz h.w⟩,⟨rfl,rfl⟩,⟨rfl,rfl⟩,trivial⟩ ?_)
  refine CL rfl rfl ?_;exact wC
 rw[CE l];rw[CE l,l]at r;have w:df h.F (nth h.O i).Addr<h.F.G.W.T.length:=by unfold df;omega
 have hcz:=PI s1;have B:=eP (aL (nth h.O i).y);unfold Qg;generalize iU h.w t ⟨(nth h.O i).a5,(nth h.O i).Addr⟩ = M at r;refine fM 148 [(511,[2,0]),(513,[2,0]),(515,[2,0,0]),(510,[2,0])] [(15,269,[68,69,70,71,72,73,74,75,77,67,78,79,11,0,1,2,3,4,5,6,7,13,8,1000,1001,1002,1003,1004,1013,9,10,11,12,14,1012,15]),(22,15,[92,93,94,95,96,97,98,99,100,101,102,103,104,105,106]),(25,271,[116,117,118,119,120,121,122,123,124,125,127,115,128,129,14,0,1,2,3,4,5,6,7,8,9,15,10,1000,1001,1002,1003,1015,11,12,13,14,16,1014,17])] [(0,0),(0,0),(0,0)] Tryz.func416 rfl (λu q=>?_)
 repeat'(first|refine gB ?_|with_reducible refine Bf.D (λc=>?_) (λc=>?_)|refine CQ (by decide) ?_|refine CP (qB b) ?_|refine CH (p) ⟨⟨rfl,bP h⟩,⟨rfl,rfl⟩,trivial⟩ ?_|refine CH (P) ⟨⟨rfl,Cf _⟩,⟨rfl,rfl⟩,trivial⟩ ?_|refine CH (r) ⟨⟨rfl,aP.enc_fz h.w⟩,⟨rfl,rfl⟩,⟨rfl,rfl⟩,trivial⟩ ?_)
 have Q:({{h with w:=M} with F:=gc h.F (nth h.O i).Addr 0} : ac) = {h with w:=M}:=LT {h with w:=M} _ w;have R:=C1 (λy:ac=>C.s .own (y.F.G.W.T.map (aH .own))) Q
 (conv=>whnf)
 refine CK (ι:=Nat) (λk=>[(0,.H .box (bL {{h with w:=M} with F:=gc h.F (nth h.O i).Addr k})),(1,.H .one [I ((t:Nat):Int)]),(2,.H .one [I ((nth h.O i).Addr)]),(7,.H .one [I ((i:Nat):Int)]),(8,.H .box (bu.enc .own (nth h.O i))),(9,.H .one [I (aL (nth h.O i).y)]),(10,.H .box (bm.enc .own (af h.F.G.Q ((nth h.O i).Addr / 16)))),(13,.H .one [I ((k:Nat):Int)])]) (λk=>k<=(csz (aL (nth h.O i).y)).toNat) (λk=>(csz (aL (nth h.O i).y)).toNat - k) (0) ?_ (Z0 _) λk hk=>?_
 ·repeat'(first|exact trivial|rfl |exact nL R|exact dG _|refine CN ?_ ?_|(exact Be (by first|omega|(simp only;omega)|(simp;omega))))
 have T:IntKind.i64.wrap 0=0:=rfl;have S:(nth h.O i).Addr.tmod 16=(nth h.O i).Addr % 16:=eK b.1;have g:(gc h.F (nth h.O i).Addr k).G.W.T[(af h.F.G.Q ((nth h.O i).Addr / 16)).e.toNat]? = some (mI (nth h.F.G.W.T (df h.F (nth h.O i).Addr)) ((nth h.O i).Addr % 16).toNat k):=X4 w;by_cases lk:k<(csz (aL (nth h.O i).y)).toNat
 ·have E:=ar (xs:=mI (nth h.F.G.W.T (df h.F (nth h.O i).Addr)) ((nth h.O i).Addr % 16).toNat k) (i:=((nth h.O i).Addr % 16+k).toNat) (by rw[nO,s4];omega)
  repeat'(first|refine gE ?_|refine CQ (by decide) ?_|refine CU S ?_|refine CO s2.1 (aa g) ?_|refine CO ω (aa E) ?_|refine Pu.two rfl rfl (aa g) rfl rfl rfl (aa E) rfl (v4 _) (J9 {h with w:=M} _ k _ b.1) ?_)
  (refine CG (k+1) ω ω ?_;(exact wC))
 obtain rfl:k=(csz (aL (nth h.O i).y)).toNat:=ω
 have c6:=p7 {{h with w:=M} with F:=gc h.F (nth h.O i).Addr (csz (aL (nth h.O i).y)).toNat} i j (by show h.O.length<=_;omega)
 repeat'(first|refine gB ?_|with_reducible refine Bf.D (λc=>?_) (λc=>?_))
 refine CL rfl rfl ?_;exact wC
def T8(h:ac)(i:Nat)(t:Int)(a:bc h [])(d:i<h.O.length):zzB 416 false [.ptr (bL h),.val none [I t],.val none [I (nth h.O i).Addr]] [.ptr (bL (if 0<=t/\t<=h.S.length - 1 then(freeT h t.toNat i).1 else h)),.val none [I t],.val none [I (nth h.O i).Addr]] .one [I (if 0<=t/\t<=h.S.length - 1 then(freeT h t.toNat i).2 else 1)]:=by
 have c:h.S.length<=4:=by have:=(dS.1 a.mail).1.2.1;have:=a.nc;omega
 by_cases b:0<=t/\t<=h.S.length - 1
 ·rw[CE b,CE b]
  obtain⟨n,rfl⟩:=Z3 b.1;simp only[Y3];by_cases e:(nth h.O i).a5=n
  ·have:=Ly h (nth h.O i) n a (au d) e c
   have g:sj h (nth h.O i).Addr=i:=by
    obtain⟨k,j,-⟩:=a.objAt (au d);exact cX (f:=(·.Addr)) (dw a.osr) k d (by rw[j])
   rw[g,<-Ej e]at this;exact this
  exact GZ h i n a d ω e
 rw[CC b,CC b];exact Gr h t _ c b
def HB(c:aF)(k:Nat):aF.enc .own (rM c k)=[.s .own ((c.Z.map (aH .own)).set k (aH .own ((nth c.Z k).take ((nth c.Z k).length - 1))))]:=by simp[aF.enc,rM,S8]
def QL(xs:List Int)(n:Nat):(xs.take n).map (rI .U)=(xs.map (rI .U)).take n:=C5
def Wi(c:aF)(k:Nat):List C:=if 0<(nth c.Z k).length then aF.enc .own (rM c k)++[I (nth (nth c.Z k) ((nth c.Z k).length - 1)),B true] else aF.enc .own c++[I (-1),B false]
def V1(c:aF)(k:Nat):i6 (Wi c k):=by
 unfold Wi;split
 ·exact aJ (aF.enc_fr _) ⟨trivial,trivial,trivial⟩
 exact aJ (aF.enc_fr _) ⟨trivial,trivial,trivial⟩
def zk(c:aF)(k:Nat)(h:bD c=true)(u:k<=3):zzA 366 false [.val (some 1) (aF.enc .U c),.val none [I (k:Nat)]] (.tup [some 1,none,none]) (Wi c k):=by
 obtain⟨w,j⟩:=eJ h;have n:aF.sml c:=⟨ω,λl r=>by have:=j l r;show l.length<=1048576;omega⟩
 have d:=yw c k n;rw[h,O0 ω]at d;have o:=jU c n;have b:=nN (c:=c) (k:=k) ω;have t:=j _ (au (xs:=c.Z) (i:=k) ω);have a:=V1 c k;unfold Wi at a |-;by_cases p:0<(nth c.Z k).length
 ·rw[CE p]at a |-
  have q:=ar (xs:=nth c.Z k) (i:=(nth c.Z k).length - 1) ω;have e:(nth c.Z k)[(((nth c.Z k).length:Int) - 1).toNat]? = some (nth (nth c.Z k) ((nth c.Z k).length - 1)):=by rw[show(((nth c.Z k).length:Int) - 1).toNat=(nth c.Z k).length - 1 by omega];exact q
  have g:((((nth c.Z k).length:Nat):Int) - 1)=(((nth c.Z k).length - 1:Nat):Int):=ω
  rw[HB]at a |-;refine fO 54 [(5,268,[32,33,34,35,36,37,38,39,40,41,42,44,0,1,2,3,4,5,6,7,8,9,10,11,1000,1001,1002,12,13]),(6,265,[45,46,47,48,49,50,51,52,53,0,1,2,3,4,5,6,7,8,9,1001,1002,1003,1004,1005,1006,1007,1008,10,11])] Tryz.func366 rfl ?_ (.inr a)
  repeat'(first|refine gB ?_|refine CO ω (aa e) ?_|refine CY ((nth c.Z k).length - 1) g (by rw[O1];omega) (aO λ_=>rfl) (QL _ _) ?_|refine CZ (λ_=>rfl) (λ_=>rfl) (by rw[O2];omega) (by decide) ?_|refine CT (λ_=>rfl) (λ_=>rfl) (by rw[O2];omega) (by decide) ?_|refine CR rfl rfl (aa b) rfl (Z1 rfl) rfl ?_)
  rfl
 rw[CC p]at a |-;refine fO 54 [(5,268,[32,33,34,35,36,37,38,39,40,41,42,44,0,1,2,3,4,5,6,7,8,9,10,11,1000,1001,1002,12,13]),(6,265,[45,46,47,48,49,50,51,52,53,0,1,2,3,4,5,6,7,8,9,1001,1002,1003,1004,1005,1006,1007,1008,10,11])] Tryz.func366 rfl ?_ (.inr a)
 refine ZB ?_
 rfl
def Wh(xs:List aB)(n:Int):List C:=bt .own (ay xs n).1++[I (ay xs n).2.1,B (ay xs n).2.2]
def UV(xs:List aB)(n:Int):i6 (Wh xs n):=aJ (jz _) ⟨trivial,trivial,trivial⟩
def qQ(pages:Int)(xs:List aB)(n:Int)(w:0<=pages/\pages<=1048576)(l:bG pages xs=true)(J:1<=n/\n<=1000)(K:xs.length<=4096):zzA 371 false [.val none [I pages],.val none (bt .U xs),.val none [I n]] (.tup [none,none,none]) (Wh xs n):=by
 have o:=n8 pages xs w ⟨ω,λ_ _=>trivial⟩;rw[l]at o;have p:=(tQ l).2;refine fO 98 [(8,21,[31,32,33,34,35,36,37,38,39,40,41,42,43,44,45,46,47,48,49,50,51]),(14,265,[71,72,73,74,76,77,78,79,81,0,1,2,3,5,6,7,8,10,4,1005,1006,1007,1008,1010,9,1010,11,1010,12,13])] Tryz.func371 rfl ?_ (.inr (UV xs n))
 repeat'(first|refine gE ?_|refine CT (λ_=>rfl) (λ_=>rfl) ω (by decide) ?_)
 refine CK (ι:=Nat) (λi=>[(1,.H .one (bt .U xs)),(2,.H .one [I (n)]),(9,.H .one (bt .own xs)),(10,.H .one [I (gu xs n i)]),(11,.H .one [I ((i:Nat):Int)])]) (λi=>i<=xs.length) (λi=>xs.length - i) (0) ?_ (Z0 _) λi y=>?_
 ·exact wC
 have h:=ue xs n i y;by_cases q:i<xs.length
 ·have j:=ar q
  have E:=p _ (au q);have a:gu xs n (i+1)=if n<=(nth xs i).a8/\(gu xs n i<0\/(nth xs i).a8<(nth xs (gu xs n i).toNat).a8) then((i:Nat):Int) else gu xs n i:=rfl
  by_cases r:n<=(nth xs i).a8
  ·by_cases F:gu xs n i<0
   ·rw[CE ⟨r,.inl F⟩]at a
    repeat'(first|refine gE ?_|with_reducible refine Bf.D (λc=>?_) (λc=>?_))
    (refine CG (i+1) ω ω ?_)
    rw[a];exact wC
   have d:=ar (xs:=xs) (i:=(gu xs n i).toNat) ω;by_cases G:(nth xs i).a8<(nth xs (gu xs n i).toNat).a8
   ·rw[CE ⟨r,.inr G⟩]at a
    repeat'(first|refine gE ?_|with_reducible (first|refine CO ω (aa d) ?_|refine Bf.D (λc=>?_) (λc=>?_)))
    (refine CG (i+1) ω ω ?_)
    rw[a];exact wC
   rw[CC ω]at a
   repeat'(first|refine gE ?_|with_reducible (first|refine CO ω (aa d) ?_|refine Bf.D (λc=>?_) (λc=>?_)))
   (refine CG (i+1) ω ω ?_)
   rw[a];exact wC
  rw[CC ω]at a
  repeat'(first|refine gE ?_|with_reducible refine Bf.D (λc=>?_) (λc=>?_))
  (refine CG (i+1) ω ω ?_)
  rw[a];exact wC
 obtain rfl:i=xs.length:=ω
 change fZ xs n = -1\/_ at h;unfold Wh ay;rw[show gu xs n xs.length=fZ xs n from rfl];by_cases e:fZ xs n<0
 ·rw[CE e]
  rw[show fZ xs n = -1 from h.resolve_right λg=>by have L:0<=fZ xs n:=g.1;omega]
  repeat'(first|refine gE ?_|with_reducible refine Bf.D (λc=>?_) (λc=>?_))
  rfl
 rw[CC e];obtain⟨H,t,M⟩:=h.resolve_left ω;change 0<=fZ xs n at H;change fZ xs n<xs.length at t;obtain⟨b,k⟩:=Z3 (show 0<=fZ xs n by omega);rw[k]at t |-;simp only[Y3];have d:=ar (xs:=xs) (i:=b) ω;have E:=p _ (au (xs:=xs) (i:=b) ω);by_cases u:(nth xs b).a8=n
 ·rw[CE u]
  repeat'(first|refine gB ?_|with_reducible refine Bf.D (λc=>?_) (λc=>?_)|refine CY b rfl (by rw[O1];omega) (aO λ_=>rfl) C5 ?_|refine Cb (b+1) rfl (by rw[O1];omega) (aO λ_=>rfl) I5 ?_|refine CZ (λ_=>rfl) (λ_=>rfl) (by rw[O2];omega) (by decide) ?_|refine Ap.dele (λ_=>rfl) (λ_=>rfl) ω (by decide) ?_|refine CT (λ_=>rfl) (λ_=>rfl) (by rw[O2];omega) (by decide) ?_)
  rfl
 rw[CC u]
 repeat'(first|refine gB ?_|with_reducible refine Bf.D (λc=>?_) (λc=>?_)|refine CR rfl rfl (aa d) rfl (Z1 rfl) rfl ?_)
 exact C1 (λz=>z++[I (nth xs b).At,B true]) (show [C.s dX.own _]=_ from by simp[bt,S8];rfl)
def yo(k:ah)(p:Int)(f:Nat):ah.enc .own (tH k p f)=((ah.enc .own k).set 1 (.s .own ((k.G.W.a1.map (rB .own)).set f (rB .own true)))).set 2 (.s .own ((k.G.Q.K.map (bm.enc .own)).set p.toNat (bm.enc .own ⟨2,(f:Nat)⟩))):=by
 simp[ah.enc,tH,S8]
def Ht(k:ah)(p:Int)(c:aD k=true)(y:k.Calls≠100000)(o:0<=p/\p<k.G.Q.K.length)(C:(nth k.G.Q.K p.toNat).j=0):zzB 373 false [.ptr (ah.enc .own k),.val none [I p]] [.ptr (ah.enc .own (newK k p).1),.val none [I p]] .one [B (newK k p).2]:=by
 have E:=bk c;have F:=aZ.1 (aC.1 c).2.1;have G:=(bo.1 (aC.1 c).2.2.1).2.2;have H:(cu k).G.Q.K.length<=32:=G;have a:=FR k.G.W ω;have d:=oB k c y;have g:=fg (cu k) p E.1.2;have l:af (cu k).G.Q p=nth k.G.Q.K p.toNat:=by unfold af;exact CE o
 rw[l,C]at g;have h:=aK p 0 ((k.G.Q.K.length:Int) - 1);rw[O0 ω]at h;have r:=ar (xs:=k.G.Q.K) (i:=p.toNat) ω;change ax _ _ _ _ _ [I (pO k)]at a;unfold newK;cases e:refd k<;>rw[e]at d
 ·by_cases j:pO k<0
  ·rw[CE (.inr j)]
   refine fM 56 [(484,[2])] [] [(0,0),(0,0)] Tryz.func373 rfl (λu q=>?_)
   repeat'(first|refine gB ?_|with_reducible refine Bf.D (λb=>?_) (λb=>?_)|refine CH (a) ⟨⟨rfl,aU.enc_fz _⟩,trivial⟩ ?_|refine CH (g) ⟨CS (cu k),⟨rfl,rfl⟩,trivial⟩ ?_)
   refine CL rfl ?_ ?_
   ·rfl
   exact wC
  rw[CC (by simp[j])];obtain⟨n,t⟩:=Js j;obtain⟨f,J⟩:=Z3 (show 0<=pO k by omega);rw[J]at a n t j |-;simp only[Y3]at n t |-;have w:=ar (xs:=k.G.W.a1) (i:=f) n;rw[yo];refine fM 56 [(484,[2])] [] [(0,0),(0,0)] Tryz.func373 rfl (λu q=>?_)
  repeat'(first|refine gB ?_|with_reducible refine Bf.D (λb=>?_) (λb=>?_)|refine CH (a) ⟨⟨rfl,aU.enc_fz _⟩,trivial⟩ ?_|refine CH (g) ⟨CS (cu k),⟨rfl,rfl⟩,trivial⟩ ?_|refine CO o.1 (aa r) ?_|refine CR rfl rfl (aa w) rfl (Z1 rfl) rfl ?_|refine CR rfl rfl (aa r) rfl (Z1 rfl) rfl ?_)
  refine CL rfl ?_ ?_
  ·rfl
  exact wC
 rw[CE (.inl rfl)];refine fM 56 [(484,[2])] [] [(0,0),(0,0)] Tryz.func373 rfl (λu q=>?_)
 repeat'(first|refine gB ?_|with_reducible refine Bf.D (λb=>?_) (λb=>?_)|refine CH (a) ⟨⟨rfl,aU.enc_fz _⟩,trivial⟩ ?_|refine CH (g) ⟨CS (cu k),⟨rfl,rfl⟩,trivial⟩ ?_)
 refine CL rfl ?_ ?_
 ·rfl
 exact wC
def VS(h:ac):List C:=(bL h).drop 5
def J4(h:ac)(p:Int)(a:aD h.F=true)(b:h.F.Calls≠100000)(c:0<=p/\p<h.F.G.Q.K.length)(d:(nth h.F.G.Q.K p.toNat).j=0):zzB 373 false [.ptr (bL h),.val none [I p]] [.ptr (bL {h with F:=(newK h.F p).1}),.val none [I p]] .one [B (newK h.F p).2]:=
 (Ht h.F p a b c d).frame (r:=VS h) rfl
def NR(h:ac)(i:Nat):bL (slotT h i)=((bL h).set 14 (I (Bh h.b3))).set 6 (.s .own ((h.J.map (aA.enc .own)).set i [I (nth h.J i).R,I (nth h.J i).d,I (ib (nth h.J i).a9 (og h i))])):=by
 simp[bL,slotT,rJ,S8,aA.enc]
def uV(h:ac)(E:List Int)(i:Nat)(c:bc h E)(k:i<h.J.length):zzB 368 false [.ptr (bL h),.val none [I (i:Nat)]] [.ptr (bL (jw h i).1),.val none [I (i:Nat)]] .one [I (jw h i).2]:=by
 have F:=c.lens;have G:=F.spans;have d:=ar k;have b:=c.L.sok _ (au k);have e:=dU b;have a:=c.nums;unfold cx at a;rw[C0]at a;have t:=(bo.1 (aC.1 c.ker).2.2.1).2.2;have l:=mE c.L.sok (ps:=aX h (nth h.J i).R) e (aX h (nth h.J i).R).length;change 0<=eB h i/\eB h i<=65535 at l;have w:=oz (nth h.J i).d;have y:=Bq h i ⟨ω,λ_ _=>trivial⟩ ⟨by show h.F.G.Q.K.length<=_;omega,λ_ _=>trivial⟩ c.L.sok k;have o:=yX (nth h.J i).d (eB h i) ω;change ax _ _ _ _ _ (aH .own (iy h i)) at o;have p:=z8 (nth h.J i).d (eB h i);change (iy h i).length<=16 at p;unfold jw;by_cases B:(iy h i).length=0
 ·rw[CE B]
  refine fM 68 [] [(2,7,[16,17,18,19,20,21,22]),(7,12,[42,43,44,45,46,47,48,49,50,51,52,53]),(8,11,[56,57,58,59,60,61,62,63,64,65,66])] [(0,0),(0,0)] Tryz.func368 rfl (λu q=>?_)
  repeat'(first|refine gB ?_|refine CH (y) ⟨⟨rfl,bP h⟩,⟨rfl,rfl⟩,trivial⟩ ?_)
  refine CL rfl rfl ?_;exact wC
 rw[CC B];have H:=we (h:=h) (i:=i) ω;obtain⟨C,D,O⟩:=tq H;have J:=(hB (aI b).2.2).2.2.1;have r:=qq h.b3 (n:=((iy h i).length:Nat)) ω;have K:=xc h.b3 ((iy h i).length:Nat) ω ω;have M:=BY (nth h.J i).a9 (og h i) e ω;have N:=Bz (rJ (nth h.J i) (og h i)) (og h i) (F4 b ⟨C,D⟩) ⟨C,D⟩;have g:(iy h i)[(G3 h.b3 ((iy h i).length:Nat)).toNat]? = some (og h i):=ar ω;have j:((h.J.map (aA.enc .own)).set i [I (nth h.J i).R,I (nth h.J i).d,I (ib (nth h.J i).a9 (og h i))])[i]? = some [I (nth h.J i).R,I (nth h.J i).d,I (ib (nth h.J i).a9 (og h i))]:=jC k;unfold qz;rw[NR];refine fM 68 [] [(2,7,[16,17,18,19,20,21,22]),(7,12,[42,43,44,45,46,47,48,49,50,51,52,53]),(8,11,[56,57,58,59,60,61,62,63,64,65,66])] [(0,0),(0,0)] Tryz.func368 rfl (λu q=>?_)
 repeat'(first|refine gB ?_|refine CF j ?_|refine CJ rfl j rfl ?_|refine CH (y) ⟨⟨rfl,bP h⟩,⟨rfl,rfl⟩,trivial⟩ ?_|refine CO r.1 (aa g) ?_|refine CR rfl rfl (aa d) rfl (Z1 rfl) rfl ?_)
 refine CL rfl ?_ ?_
 ·rfl
 exact wC
def Ap.ins{e:α->List C}{xs:List α}{y:α}{r:List C}{sz by_:Nat}{K:List (List C)->Prop}(a:r=e y)(b:∀y,(e y).length=sz)(c:∀y,bn (e y)=true)(h:xs.length<=1048576)(d:by_<=1000)(f:K ((xs.take i++y::xs.drop i).map e)):Ap true ((xs.take i).map e++[r]) ((xs.drop i).map e) sz by_ K:=by
 subst a;have g:(xs.take i).length+1+(xs.drop i).length<=3145728:=by rw[O2,I4];omega
 refine CV (λr a=>?_) (aO b) (λ_ r a=>by obtain⟨y,-,rfl⟩:=O5.1 a;exact c y) (by simp only[C4,O1,List.length_singleton];omega) (by simp only[C4,O1,List.length_singleton];exact O6 (Nat.mul_le_mul g d) (by decide)) ?_ f
 ·rcases t4.1 a with a|a
  ·exact aO b r a
  rw[C2.1 a];exact b y
 rw[Z7,I8,Y7];rfl
def mT{p:α->Bool}{xs:List α}{y:α}(h:jE p xs=i):jW p xs y=xs.take i++y::xs.drop i:=by unfold jW;rw[h]
def LQ(h:ac)(c:Int):ac × Int:=
 if(ay h.o 1).2.2=false then(h,-1)
 else if(newK h.F (ay h.o 1).2.1).2=false then({h with F:=(newK h.F (ay h.o 1).2.1).1},-1)
 else(mL h c,(mM h:Nat))
def EG(h:ac)(E:List Int)(c:Nat)(g:bc h E)(J:h.F.Calls<=90000):zzB 369 false [.ptr (bL h),.val none [I (c:Nat)]] [.ptr (bL (LQ h c).1),.val none [I (c:Nat)]] .one [I (LQ h c).2]:=by
 have B:=g.lens;have K:=B.spans;have L:fo h<=32:=B.ents;have C:=iR h;have l:=qQ (fo h:Nat) h.o 1 ⟨ω,ω⟩ g.rng (by decide) (by have:=B.free;omega);unfold Wh at l;have d:=jb g (Y6 1);unfold LQ mL mM;generalize ay h.o 1=r at l d |-;obtain⟨o,p,ok⟩:=r;simp only at l d |-;cases ok with
 | false=>
  rw[CE rfl];refine fM 79 [(373,[2,0]),(2000010,[0,6])] [(1,267,[11,12,13,14,15,16,17,10,18,19,20,0,1,2,3,4,5,6,7,8,9,10,11,1009,1010,12,1010,13])] [(0,0),(0,0)] Tryz.func369 rfl (λu q=>?_)
  repeat'(first|refine gP ?_|refine CH (C) ⟨bP h,trivial⟩ ?_|refine CH (l) ⟨⟨rfl,rfl⟩,⟨rfl,ee h.o⟩,⟨rfl,rfl⟩,trivial⟩ ?_)
  refine CL rfl rfl ?_;exact wC
 | true=>
  rw[CC (by simp)];obtain⟨M,N,O,V⟩:=d rfl;have F:0<=p/\p<h.F.G.Q.K.length:=⟨M,by have:p+1<=((tbl h).K.length:Nat):=N;unfold tbl at this;omega⟩
  have t:=J4 h p g.ker ω F (O p.toNat ω ω);generalize newK h.F p=w at t |-;obtain⟨k,b⟩:=w;simp only at t |-;cases b with
  | false=>
   rw[CE rfl];refine fM 79 [(373,[2,0]),(2000010,[0,6])] [(1,267,[11,12,13,14,15,16,17,10,18,19,20,0,1,2,3,4,5,6,7,8,9,10,11,1009,1010,12,1010,13])] [(0,0),(0,0)] Tryz.func369 rfl (λu q=>?_)
   repeat'(first|refine gP ?_|refine CH (C) ⟨bP h,trivial⟩ ?_|refine CH (l) ⟨⟨rfl,rfl⟩,⟨rfl,ee h.o⟩,⟨rfl,rfl⟩,trivial⟩ ?_)
   refine CL rfl rfl ?_;exact wC
  | true=>
   rw[CC (by simp)];refine fM 79 [(373,[2,0]),(2000010,[0,6])] [(1,267,[11,12,13,14,15,16,17,10,18,19,20,0,1,2,3,4,5,6,7,8,9,10,11,1009,1010,12,1010,13])] [(0,0),(0,0)] Tryz.func369 rfl (λu q=>?_)
   repeat'(first|refine gP ?_|refine CH (C) ⟨bP h,trivial⟩ ?_|refine CH (l) ⟨⟨rfl,rfl⟩,⟨rfl,ee h.o⟩,⟨rfl,rfl⟩,trivial⟩ ?_)
   refine CK (ι:=Nat) (λi=>[(0,.H .box (bL {h with F:=k,o:=o})),(1,.H .one [I ((c:Nat):Int)]),(6,.H .one [I (p)]),(8,.H .one [I ((i:Nat):Int)])]) (λi=>i<=h.J.length/\∀(j:Nat)(z:aA),j<i->h.J[j]? = some z->FL p z=false) (λi=>h.J.length - i) (0) ?_ (⟨Z0 _,λj z W=>ω⟩) λi g=>?_
   ·exact wC
   obtain⟨P,G⟩:=g;have Q:({h with F:=k,o:=o} : ac).J.length=h.J.length:=rfl;by_cases R:i<h.J.length/\(nth h.J i).R<p
   ·have n:=ar R.1
    refine ZE ?_
    (refine CG (i+1) ⟨ω,eA n (X0 ω) G⟩ ω ?_;(exact wC))
   have a:jE (FL p) h.J=i:=ng ω G λz H=>by
    have S:=(I3.1 H).1;have:z=nth h.J i:=(bq H).symm;subst this;exact O0 ω
   have n:i<h.J.length->h.J[i]? = some (nth h.J i):=λT=>ar T
   rw[show addS h k o p (c:Nat) = {h with F:=k,o:=o,J:=h.J.take i++⟨p,(c:Nat),0⟩::h.J.drop i} by unfold addS;rw[mT a],a]
   repeat'(first|refine gE ?_|with_reducible (first|refine CF (aa (n ω)) ?_|refine Bf.D (λU=>?_) (λU=>?_))|refine CJ rfl (aa (n ω)) rfl ?_|refine JT.mk rfl (Ag h.J) rfl ?_|refine CY i rfl (by rw[O1];omega) (aO λ_=>rfl) C5 ?_|refine Cb i rfl (by rw[O1];omega) (aO λ_=>rfl) I5 ?_|refine CT (λ_=>rfl) (λ_=>rfl) (by rw[O2];omega) (by decide) ?_|refine Ap.sn (aO λ_=>rfl) rfl (by rw[O1,O2];omega) (by decide) rfl ?_|refine Ap.ins (e:=aA.enc .U) (y:=⟨p,(c:Nat),0⟩) rfl (λ_=>rfl) (λ_=>rfl) ω (by decide) ?_)
   all_goals
    refine CL rfl rfl ?_;exact wC
end Go.Proofs.YtiopgblagimpmaaGreat.Ab
