/- Freeing and allocating: what objects hold is kept, and what is new is zero. No condition. -/
import Derived.Test.YtiopgblagimpmaaGreatKrd
import Derived.Test.YtiopgblagimpmaaGreatKrh
import Derived.Test.YtiopgblagimpmaaGreatKrg
import Derived.Test.YtiopgblagimpmaaGreatKrf
import Derived.Test.YtiopgblagimpmaaGreatKrc
import Derived.Laws.StructEq
import Derived.Shelf.SlGeneric
import Derived.Shelf.SlSortCmp.NoneTotal
import Derived.Ground.SlsfProg
import Derived.Test.YtiopgblagimpmaaGreatProg
import Derived.Test.YtiopgblagimpmaaGreatKre
import Derived.WalkKit
import Derived.ProofKit
import Derived.OpenShut
import Derived.Deep.Slices
import Derived.Deep.Fields
import Derived.ChangeSame
import Derived.WideShapes
set_option linter.unusedVariables false
set_option linter.defProp false
set_option linter.unusedSimpArgs false
set_option linter.constructorNameAsVariable false
namespace Go.Proofs.YtiopgblagimpmaaGreat.Ab
variable{f:Nat}{k:af}
def pE(h:ay k=true)(d:∀p:Int,(ac k.F.Q p).j≠0->(ac k.F.Q p).d≠f)(c:Nat):cl k f c=0:=by
 obtain⟨-,i,-,j,-⟩:=a7.1 h;obtain⟨-,-,w,n⟩:=aO.1 i;unfold cl;by_cases o:f<k.F.U.T.length
 ·have r:nth k.F.U.a3 f=false:=by
   rw[j f ω,Y5];intro a;obtain⟨q,y,t,u⟩:=dn.1 a;have e:ac k.F.Q (q:Nat)=nth k.F.Q.K q:=by unfold ac;rw[CD ⟨ω,ω⟩];rfl
   exact d (q:Nat) (by rw[e];exact t) (by rw[e];exact u)
  have b:=n f o;unfold gT at b;rw[r]at b;simp only[I0,C0,Y4]at b;by_cases g:c<(nth k.F.U.T f).length
  ·have:=b.2 _ (am g)
   unfold iZ at this;rw[I0,Bool.false_or,C0,C0]at this;exact this.2
  unfold nth;rw[I3 (l:=List.getD _ _ _),C3 (by unfold nth at g;omega)];rfl
 have:nth k.F.U.T f=[]:=by
  unfold nth;rw[I3,C3 ω];rfl
 rw[this];rfl
def CI.freeL{h:ab}{E:List Int}(d:aU h E)(T:CI h){i k:Nat}(O:i<h.O.length)(r:k<h.M.length)(U:(nth h.O i).Addr=16*(nth h.M k).R):CI (freeL h i k)/\Kp h (freeL h i k):=by
 obtain⟨V,W⟩:=um d r;have t:=d.L.lok _ (am r);have X:=aQ t;have kl:=KL.unmN d.ker V _ W;have ker:=iM d.ker (nth h.M k).R (nth h.M k).a4.toNat;have u:=(fF h.G (nth h.M k).R (nth h.M k).a4.toNat).1;have notO:∀o∈dele h.O i,o≠nth h.O i/\o∈h.O:=λo n=>by
  obtain⟨j,y,Y,rfl⟩:=dv.1 n;exact⟨λe=>Y (cR (f:=(·.Addr)) (dt d.osr) y O (by rw[e])),am y⟩
 have onL:∀b:Int,(nth h.M k).R<=b / 16->b / 16<(nth h.M k).R+((nth h.M k).a4.toNat:Nat)->∀f c:Nat,At h.G b f c->PS h (nth h.O i).Addr f c:=λb h1 h2 f c g=>.inr ⟨_,am r,U,b,ω,ω,g⟩
 refine CI.kern d T (λo n=>(notO o n).2) rfl rfl (λo n Z f c h16 C=>?_) (λq hq=>?_) (λhm=>?_) (λo n j D P=>?_) kl.cel (λ_ s' F _=>⟨s',F,rfl,rfl,λ_ h=>h⟩)
 ·-- the object itself
  have G:o=nth h.O i:=by
   refine Classical.byContradiction λe=>Z ?_
   obtain⟨j,y,rfl⟩:=aN n;exact dv.2 ⟨j,y,λx=>e (by rw[x]),rfl⟩
  subst G;rcases kl.cel f c with e|e
  ·refine pE ker (λp A H=>?_) c
   obtain⟨j,D,P,g⟩:=C;have hsz:(nth h.O i).q<=16*(nth h.M k).a4:=by
    rcases d.oow _ n with⟨s,J,Q,-⟩|⟨l,R,e1,e2⟩
    ·exact absurd (show s.R=(nth h.M k).R+((0:Nat):Int) by have:=Q.1;have:=Q.2.1;omega) (d.L.dis s J _ (am r) 0 ω)
    obtain⟨m,K,rfl⟩:=aN R;have:=d.L.one m k K r 0 0 (by have:=aQ (d.L.lok _ R);omega) ω ω;subst this;unfold bL at t;rw[C0]at t;omega
   by_cases B:(nth h.M k).R<=p/\p<(nth h.M k).R+((nth h.M k).a4.toNat:Nat)
   ·exact A (kl.ins p B.1 B.2)
   have w:=kl.out p B;change ac (unmN h.G (nth h.M k).R (nth h.M k).a4.toNat).F.Q p=_ at w;change (ac (unmN h.G (nth h.M k).R (nth h.M k).a4.toNat).F.Q p).j≠0 at A;change (ac (unmN h.G (nth h.M k).R (nth h.M k).a4.toNat).F.Q p).d=_ at H;rw[w]at A H;have:=mA d (am r) (b:=(nth h.O i).Addr+j) ω ω g A H;omega
  exact e.1
 ·have:=kl.md u q (by show(nth (tbl (Ab.freeL h i k)).K q).j≠0;omega)
  show(nth h.G.F.Q.K q).j=1;rw[<-this];exact hq
 ·obtain⟨-,⟨a,ha,M⟩,b,hb,eb⟩:=d.job hm
  have no:∀s∈h.J,¬((nth h.M k).R<=s.R/\s.R<(nth h.M k).R+((nth h.M k).a4.toNat:Nat)):=λs J B=>d.L.dis s J _ (am r) (s.R - (nth h.M k).R).toNat ω ω
  exact⟨by rw[<-M];exact kl.out _ (no a ha),by rw[<-eb];exact kl.out _ (no b hb)⟩
 obtain⟨o1,N⟩:=notO o n;refine kl.out _ λS=>o1 ?_
 have g:=At.mk' d.ker (cU d N (k:=j) ⟨D,ω⟩).1;have e:=xb d (jX d N ⟨j,D,P,g⟩) (onL _ S.1 S.2 _ _ g);obtain⟨m,K,rfl⟩:=aN N;rw[cR (f:=(·.Addr)) (dt d.osr) K O e]
def CI.freeT{h:ab}{t i:Nat}(b:aU h [])(c:JI h)(d:CI h)(e:i<h.O.length)(n:t<h.S.length):CI (freeT h t i).1/\Kp h (freeT h t i).1:=by
 unfold Ab.freeT;split
 ·rename_i a
  obtain⟨l,o,f,-⟩:=(ef b (am e)).1 a;obtain⟨g,j,-⟩:=wK o f;exact CI.freeL b d e g j
 rename_i a;split
 ·exact⟨d,CZ h⟩
 rename_i k;split
 ·obtain⟨p,g⟩:=CI.clearO (h':=inQuar h i) b c d e a k rfl rfl rfl rfl rfl
  have f:=b.inQuar e a;obtain⟨q,j⟩:=CI.recycs (t:=t) (E:=[]) (az:=(Aj h.a9 (lU h (nth h.O i))).map (·.Addr)) (h:=inQuar h i) (by rw[List.append_nil];exact f) n p;exact⟨q,g.trans j⟩
 split
 ·exact CI.clearO (h':=Qf h t i) b c d e a k rfl rfl rfl rfl rfl
 exact⟨d,CZ h⟩
structure KA(k k':af)(lo n:Int):Prop where
 out:∀q:Int,¬(lo<=q/\q<lo+n)->ac k'.F.Q q=ac k.F.Q q
 md:∀q:Nat,(nth k'.F.Q.K q).j=1->(nth k.F.Q.K q).j=1
 cel:∀f c:Nat,cl k' f c=cl k f c
variable{lo:Int}{k':af}
def NM{n:Int}(a:k'.F.Q.K.length=k.F.Q.K.length)(h:∀q:Nat,¬(lo<=q/\(q:Int)<lo+n)->nth k'.F.Q.K q=nth k.F.Q.K q)(q:Int)(b:¬(lo<=q/\q<lo+n)):ac k'.F.Q q=ac k.F.Q q:=by
 unfold ac;rw[a];by_cases e:0<=q/\q<k.F.Q.K.length
 ·rw[CD e,CD e];exact h q.toNat ω
 rw[CB e,CB e]
variable{p:Int}
def KA.newK{r:af × Bool}(s:wH k p r):KA k r.1 p 1:=by
 cases e:r.2 with
 | false=>rw[s.no e];exact⟨λ_ _=>rfl,λ_ h=>h,λ_ _=>rfl⟩
 | true=>
  obtain⟨f,-,-,b,-⟩:=s.yes e;refine⟨NM s.len λq a=>by rw[b,CB ω],λq a=>?_,λf c=>by unfold cl;rw[s.cells]⟩;rw[b]at a;split at a
  ·exact absurd a (by show ¬(2:Int)=1;decide)
  exact a
variable{n:Nat}
def KA.newsK{r:af × Nat}(s:m0 k p n r):KA k r.1 p r.2:=by
 refine⟨NM s.len s.out,λq a=>?_,λf c=>by unfold cl;rw[s.cells]⟩;by_cases e:p<=q/\(q:Int)<p+r.2
 ·rw[(s.new q e.1 e.2).1]at a;exact absurd a (by decide)
 rw[s.out q e]at a;exact a
variable{h:ab}
def nE{E:List Int}(d:aU h E){n:Int}(b:∀q:Nat,lo<=q->(q:Int)<lo+n->(nth (tbl h).K q).j=0)(a:(ac (tbl h) p).j≠0):¬(lo<=p/\p<lo+n):=λe=>by
 obtain⟨f,-,c⟩:=lM a;rw[c]at a;exact a (b p.toNat ω ω)
variable{h':ab}
def CI.mapped{E:List Int}(b:aU h E)(t:CI h){n:Int}(e:KA h.G h'.G lo n)(g:∀q:Nat,lo<=q->(q:Int)<lo+n->(nth (tbl h).K q).j=0)(i:h'.O=h.O)(u:h'.Y=h.Y)(l:h'.o=h.o)(p:h.o=true->∀d∈h'.J,d.R=h.Y.X.a2\/d.R=h.Y.X.a0->d∈h.J):CI h'/\Kp h h':=by
 refine CI.kern b t (λo a=>by rw[<-i];exact a) u l (λo a r=>absurd (by rw[i];exact a) r) e.md (λa=>?_) (λo a j w C=>?_) (λf c=>.inl (e.cel f c)) (λa d r y=>⟨d,p a d r y,rfl,rfl,λ_ h=>h⟩)
 ·obtain⟨A,B⟩:=b.jobM a
  exact⟨e.out _ (nE b g A),e.out _ (nE b g B)⟩
 rw[i]at a;exact e.out _ (nE b g (cU b a (k:=j) ⟨w,ω⟩).1)
structure CA(h:ab)(r:ab):Prop where
 ci:CI r
 kp:Kp h r
 ob:r.O=h.O
def CI.slotT{h:ab}(e:CI h){i:Nat}(t:i<h.J.length)(a:fx h (nth h.J i).R=false):CI (slotT h i):=by
 refine e.keep rfl rfl (λq h=>h) (λ_=>⟨rfl,rfl⟩) (λf c _ _=>.inl rfl) (λo g f c _ b _=>⟨o,g,b⟩) (λ_ c _=>⟨rfl,rfl⟩) λk u d l=>?_
 rcases eA d with rfl|⟨j,n,-,rfl⟩
 ·obtain⟨p,r⟩:=yQ a k
  exact(l.elim p r).elim
 exact⟨_,am n,rfl,rfl,λ_ h=>h⟩
def CI.smallA{h:ab}{t c:Nat}(d:aU h [])(a:CI h)(V:t<h.S.length)(G:c<=3)(H:h.G.Calls<=90000):CA h (smallA h t c).1:=by
 unfold Ab.smallA;split
 ·exact⟨⟨a.z,a.jv,a.jd,a.jc,a.jn,a.m1,a.m2⟩,CZ h,rfl⟩
 split
 ·rename_i i D
  have o:=List.find?_some D;have b:=List.mem_range.1 (List.mem_of_find?_eq_some D);unfold tj at o;simp only[I0,C0,Bool.not_eq_true']at o;exact⟨CI.slotT a b o.2.1,CZ h,rfl⟩
 split
 ·exact⟨a,CZ h,rfl⟩
 rename_i J;have f:(ax h.w 1).2.2=true:=by simpa using J
 obtain⟨K,L,r,E⟩:=jY d (I6 1) f;have s:=wH.of (p:=(ax h.w 1).2.1) d.ker ω ⟨K,by have:(ax h.w 1).2.1+1<=(h.G.F.Q.K.length:Nat):=L;omega⟩ (r _ ω ω);have F:=KA.newK s;split
 ·obtain⟨g,j⟩:=CI.mapped (h':={h with G:=(newK h.G (ax h.w 1).2.1).1}) d a F (λq u w=>r q u w) rfl rfl rfl (λ_ k b _=>b)
  exact⟨g,j,rfl⟩
 rename_i M;have A:(newK h.G (ax h.w 1).2.1).2=true:=by simpa using M
 have k:wH h.G (ax h.w 1).2.1 ((newK h.G (ax h.w 1).2.1).1,true):=by rw[<-A];exact s
 have W:=d.addS (c:=c) ⟨ω,ω⟩ f k;have N:JK h (sq h c):=JK.addS k;have jno:∀l:h.o=true,(ax h.w 1).2.1≠h.Y.X.a2/\(ax h.w 1).2.1≠h.Y.X.a0:=λl=>by
  obtain⟨-,⟨y,O,P⟩,⟨z,Q,R⟩⟩:=d.job l;exact⟨λe=>E _ (I6 _) ω (by rw[e,<-P];exact dH O),λe=>E _ (I6 _) ω (by rw[e,<-R];exact dH Q)⟩
 obtain⟨g,j⟩:=CI.mapped (h':=sq h c) d a F (λq u w=>r q u w) rfl rfl rfl (λl k b S=>by
   rcases cK.1 b with rfl|b
   · obtain⟨B,C⟩:=jno l
     exact(S.elim B C).elim
   exact b)
 obtain⟨T,U⟩:=Dt (H1 (ax h.w 1).2.1) h.J ⟨(ax h.w 1).2.1,c,0⟩;unfold qN;split
 ·exact⟨g,j,rfl⟩
 refine⟨CI.slotT (h:=sq h c) g (i:=rv h) T ?_,j,rfl⟩;show fx (sq h c) (nth (jV (H1 (ax h.w 1).2.1) h.J ⟨(ax h.w 1).2.1,c,0⟩) (rv h)).R=false;unfold rv;rw[U,N.pg,<-X6];intro n;unfold fx at n;simp only[I0,W7,C0]at n;obtain⟨B,C⟩:=jno n.1;exact n.2.elim B C
structure TU(h h':ab)(x:bu):Prop where
 mem:∀o,o∈h'.O↔o=x\/o∈h.O
 ze:∀j:Int,0<=j->j<x.q->eC h'.G (x.Addr+j)=0
 ke:∀o∈h.O,∀j:Int,0<=j->j<o.q->eC h'.G (o.Addr+j)=eC h.G (o.Addr+j)
def TU.of{g:ab}{E L:List Int}{x:bu}(A:aU g E)(M:CI g)(b:aU h' L)(r:JI h')(B:CI h')(C:∀p:Int,(ac (tbl g) p).j≠0->ac (tbl h') p=ac (tbl g) p)(d:∀f c,cl h'.G f c=cl g.G f c)(l:∀o,o∈h'.O↔o=x\/o∈g.O)(N:x∉g.O)(G:h'.Y=g.Y)(O:h'.o=g.o)(D:g.O=h.O)(P:Kp h g):TU h h' x:=by
 have Q:∀o∈g.O,∀f c:Nat,qQ g o f c->qQ h' o f c:=λo D f c ⟨j,n,t,a⟩=>by
  have e:=C _ a.m;unfold tbl at e;exact⟨j,n,t,by rw[e];exact a.m,by rw[e];exact a.f,a.c⟩
 refine⟨λo=>by rw[l,D],λj n t=>?_,λo u j n t=>?_⟩
 ·have q:=(l x).2 (.inl rfl)
  have a:=At.mk' b.ker (cU b q (k:=j) ⟨n,ω⟩).1;rw[a.cell];refine Classical.byContradiction λH=>?_
  have w:((x.Addr+j) % 16).toNat<16:=ω
  rw[d]at H;have i:qQ h' x _ _:=⟨j,n,t,a⟩
  rcases M.z _ _ w H with⟨o,u,F⟩|⟨J,R,S⟩
  ·have:=Kz b ((l o).2 (.inr u)) q (Q o u _ _ F) i
   subst this;exact N u
  refine t7 b r B (by rw[O];exact J) (jX b q i) w (by rw[G];exact List.mem_of_mem_take S) ?_;rw[G,C _ (A.jobM J).1];exact R
 have K:o∈g.O:=by rw[D];exact u
 refine Eq.trans ?_ ((P o K).2 j n t);have a:=At.mk' A.ker (cU A K (k:=j) ⟨n,ω⟩).1;have e:=C _ a.m;have y:At h'.G (o.Addr+j) (cY g.G (o.Addr+j)) ((o.Addr+j) % 16).toNat:=by
  unfold tbl at e;exact⟨by rw[e];exact a.m,by rw[e];exact a.f,a.c⟩
 rw[y.cell,a.cell,d]
def CI.addO{h:ab}(e:CI h)(a size t:Int):CI (addO h a size t):=
 e.keep rfl rfl (λq h=>h) (λ_=>⟨rfl,rfl⟩) (λf c _ _=>.inl rfl) (λo g f c _ b _=>⟨o,cK.2 (.inr g),b⟩) (λ_ c _=>⟨rfl,rfl⟩) λ_ i d _=>⟨i,d,rfl,rfl,λ_ h=>h⟩
structure AL(h:ab)(t size:Int)(r:ab × Int × Int):Prop where
 ci:CI r.1
 no:r.2.2≠0->r.1.O=h.O/\Kp h r.1/\r.1.b=h.b/\r.2.1 = -1
 yes:r.2.2=0->TU h r.1 ⟨h.b,r.2.1,size,t⟩/\r.1.b=h.b+1/\1<=size/\size<=1000/\0<=r.2.1
variable{a size:Int}
def MG{E:List Int}(b:aU h E){t:Int} : (⟨h.b,a,size,t⟩ : bu)∉h.O:=λc=>by
 have:=(b.onu _ c).2.1;simp only at this;omega
def CI.largeA{h:ab}{t size:Int}(b:aU h [])(C:JI h)(y:CI h)(L:9<=size/\size<=1000)(D:h.b<1000000)(E:h.G.Calls<=90000)(U:0<=t/\t<=h.S.length - 1):AL h t size (largeA h t size):=by
 have hl:(iA size:Int)=(size+15) / 16:=by unfold iA;omega
 have a:=BH b L D E U;unfold Ab.largeA at a |-;by_cases F:(ax h.w (iA size:Nat)).2.2=false
 ·rw[CD F]
  exact⟨y,λ_=>⟨rfl,CZ h,rfl,rfl⟩,λe=>by cases e⟩
 rw[CB F]at a |-;have G:(ax h.w (iA size:Nat)).2.2=true:=by simpa using F
 obtain⟨M,N,O,u4⟩:=jY b (show(1:Int)<=(iA size:Nat) by omega) G;have s:m0 h.G (ax h.w (iA size:Nat)).2.1 (iA size) (dU h size):=m0.of (p:=(ax h.w (iA size:Nat)).2.1) (n:=iA size) b.ker ω ⟨M,N⟩ O (iA size) (X3 _);have d:=KA.newsK s;have V:=s.le;have i:∀q:Nat,(ax h.w (iA size:Nat)).2.1<=q->(q:Int)<(ax h.w (iA size:Nat)).2.1+(dU h size).2->(nth (tbl h).K q).j=0:=λq W q2=>O q W ω
 by_cases P:(dU h size).2=iA size
 ·rw[CD P]at a |-
  obtain⟨Q,H⟩:=a;have ji1:=C.keep Q H;have w:∀o,o∈(addL h (dU h size).1 (ax h.w (iA size:Nat)).1 (ax h.w (iA size:Nat)).2.1 (iA size:Nat) size t).O↔o = ⟨h.b,16*(ax h.w (iA size:Nat)).2.1,size,t⟩\/o∈h.O:=λo=>cK
  have X:=CI.mapped (h':={h with G:=(dU h size).1}) b y d i rfl rfl rfl (λ_ A Y _=>Y);have B:CI (addL h (dU h size).1 (ax h.w (iA size:Nat)).1 (ax h.w (iA size:Nat)).2.1 (iA size:Nat) size t):=
   X.1.keep rfl rfl (λq h=>h) (λ_=>⟨rfl,rfl⟩) (λf c _ _=>.inl rfl) (λo l f c _ J _=>⟨o,cK.2 (.inr l),J⟩) (λ_ c _=>⟨rfl,rfl⟩) λ_ A r _=>⟨A,r,rfl,rfl,λ_ h=>h⟩
  refine⟨B,λe=>absurd rfl e,λ_=>⟨?_,rfl,ω,L.2,by show 0<=16*_;omega⟩⟩;exact TU.of (g:=h) b y Q ji1 B (λp Z=>d.out p (nE b i Z)) d.cel w (MG b) rfl rfl rfl (CZ h)
 rw[CB P]at a |-;have K:=s.len;have kl:=KL.unmN s.ker M (dU h size).2 (by rw[K];have:(ax h.w (iA size:Nat)).2.1+((iA size:Nat):Int)<=(h.G.F.Q.K.length:Nat):=N;omega);have u:=((fF (dU h size).1 (ax h.w (iA size:Nat)).2.1 (dU h size).2).1)
 obtain⟨B,k1⟩:=CI.kern (h':={h with G:=unmN (dU h size).1 (ax h.w (iA size:Nat)).2.1 (dU h size).2}) b y (λo l=>l) rfl rfl (λo l D=>absurd l D) (λq R=>d.md q (by rw[<-kl.md u q (by show(nth (unmN (dU h size).1 _ _).F.Q.K q).j≠0;have:(nth (unmN (dU h size).1 (ax h.w (iA size:Nat)).2.1 (dU h size).2).F.Q.K q).j=1:=R;omega)];exact R)) (λhm=>by
     obtain⟨S,T⟩:=b.jobM hm;exact⟨(kl.out _ (nE b i S)).trans (d.out _ (nE b i S)),(kl.out _ (nE b i T)).trans (d.out _ (nE b i T))⟩) (λo l j H j2=>by
     have:=nE b i (cU b l (k:=j) ⟨H,ω⟩).1;exact(kl.out _ this).trans (d.out _ this)) (λf c=>by
     rcases kl.cel f c with e|e
     · exact .inl (e.trans (d.cel f c))
     exact .inr e) (λ_ A r _=>⟨A,r,rfl,rfl,λ_ h=>h⟩)
 exact⟨B,λ_=>⟨rfl,k1,rfl,rfl⟩,λe=>by cases e⟩
def CI.allocH{h:ab}{t size:Int}(i:aU h [])(f:JI h)(j:CI h):AL h t size (allocH h t size):=by
 have a:=Bo (t:=t) (size:=size) i;have no:∀n:Int,n≠0->AL h t size (h,-1,n):=λn B=>⟨j,λ_=>⟨rfl,CZ h,rfl,rfl⟩,λe=>absurd e B⟩
 unfold Ab.allocH at a |-;by_cases k:1000000<=h.b\/90000<h.G.Calls
 ·rw[CD k];exact no 5 (by decide)
 rw[CB k]at a |-;by_cases l:¬(0<=t/\t<=h.S.length - 1)
 ·rw[CD l];exact no 1 (by decide)
 rw[CB l]at a |-;by_cases q:¬(1<=size/\size<=1000)
 ·rw[CD q];exact no 2 (by decide)
 rw[CB q]at a |-;by_cases u:h.c2<vb h+size
 ·rw[CD u];exact no 3 (by decide)
 rw[CB u]at a |-;by_cases b:0<=aL size
 ·rw[CD b]at a |-
  have C:aL size<=3:=by unfold aL;repeat' split<;>omega
  have s:=uF (t:=t.toNat) (c:=(aL size).toNat) i ω ω ω;have d:=CI.smallA (t:=t.toNat) (c:=(aL size).toNat) i j ω ω ω;generalize Ab.smallA h t.toNat (aL size).toNat=r at s d a |-;by_cases e:r.2<0
  ·rw[CD e]at a |-
   exact⟨d.ci,λ_=>⟨d.ob,d.kp,s.nx,rfl⟩,λe=>by cases e⟩
  rw[CB e]at a |-;obtain⟨w,D⟩:=a;obtain⟨y,-⟩:=s.yes ω;have A:=CI.addO d.ci r.2 size t;refine⟨A,λe=>absurd rfl e,λ_=>⟨?_,by show r.1.b+1=h.b+1;rw[s.nx],ω,ω,by show 0<=r.2;omega⟩⟩;have:=TU.of (h:=h) (g:=r.1) (x:=⟨r.1.b,r.2,size,t⟩) y d.ci w (f.keep w D) A (λp _=>rfl) (λ_ _=>rfl) (λo=>cK) (MG y) rfl rfl d.ob d.kp;rw[s.nx]at this;exact this
 rw[CB b];have E:9<=size:=by
  unfold aL at b
  repeat' split at b<;>omega
 exact CI.largeA i f j ⟨E,ω⟩ ω ω ω
def rx(k:af)(a v:Int)(f c:Nat):cl (dO k a v) f c=cl k f c\/(cl (dO k a v) f c=v/\f=cY k a/\c=(a % 16).toNat):=by
 unfold cl dO setCell;simp only[bt];by_cases e:cY k a=f/\f<k.F.U.T.length
 ·rw[CD e,bt]
  by_cases b:(a % 16).toNat=c/\c<(nth k.F.U.T (cY k a)).length
  ·rw[CD b];exact .inr ⟨rfl,e.1.symm,b.1.symm⟩
  rw[CB b,e.1];exact .inl rfl
 rw[CB e];exact .inl rfl
variable{v:Int}
def BZ(c:ay k=true)(e:(ac k.F.Q (a / 16)).j≠0):cl (dO k a v) (cY k a) (a % 16).toNat=v:=by
 have d:=(gn c e).1;have b:=(uv c (f:=cY k a) d).1;unfold cl dO setCell;show nth (nth (List.set _ _ _) _) _=v;rw[bt,CD ⟨rfl,d⟩,bt,CD ⟨rfl,by rw[b];omega⟩]
variable{c:Nat}{o:bu}
def JN(d:qQ h o f c):qQ {h with G:=dO h.G a v} o f c:=by
 obtain⟨j,e,g,b⟩:=d;exact⟨j,e,g,⟨b.m,b.f,b.c⟩⟩
variable{j:Int}
def QY{E:List Int}(d:aU h E)(q:o∈h.O){x:Int}(y:0<=x/\x<o.q)(A:0<=j/\j<o.q)(h1:At h.G (o.Addr+x) f c)(g:At h.G (o.Addr+j) f c):x=j:=by
 have B:=h1.c;have C:=g.c;rcases d.oow o q with⟨s,r,t,u⟩|⟨l,k,D,F⟩
 ·have i:=aE (d.L.sok s r)
  have a:=D6 (n:=o.q) ω;rw[<-u]at a;obtain⟨G,H,w,-⟩:=t;rcases bV i.2.2 with e|e|e|e<;>rw[e]at w a<;>omega
 have p:=d.L.lok l k;unfold bL at p;rw[C0]at p;have:=mA d k (b:=o.Addr+x) ω ω h1 g.m g.f;omega
variable{i:Nat}
def CI.store{E:List Int}(b:aU h E)(A:JI h)(N:CI h)(O:i<h.O.length)(P:0<=j/\j<=(nth h.O i).q - 1)(Y:(ac (tbl h) (((nth h.O i).Addr+j) / 16)).j≠1):CI {h with G:=dO h.G ((nth h.O i).Addr+j) v}/\
  ∀o∈h.O,∀x:Int,0<=x->x<o.q->eC (dO h.G ((nth h.O i).Addr+j) v) (o.Addr+x)=if o=nth h.O i/\x=j then v else eC h.G (o.Addr+x):=by
 have g:=am O;have F:=(cU b g P).1;have G:=At.mk' b.ker F;have d:qQ h (nth h.O i) _ _:=⟨j,P.1,ω,G⟩
 have r:=jX b g d;have Z:(((nth h.O i).Addr+j) % 16).toNat<16:=ω
 have key:∀p:Int,(ac (tbl h) p).j≠0->(ac (tbl h) p).d≠(cY h.G ((nth h.O i).Addr+j):Nat)->∀c,cl (dO h.G ((nth h.O i).Addr+j) v) (b9 h.G p) c=cl h.G (b9 h.G p) c:=λp Q B c=>by
  rcases rx h.G ((nth h.O i).Addr+j) v (b9 h.G p) c with e|⟨-,e,-⟩
  ·exact e
  refine absurd ?_ B;rw[<-e];exact lX b.ker Q
 refine⟨N.keep rfl rfl (λq h=>h) (λ_=>⟨rfl,rfl⟩) (λf c _ _=>?_) (λo g f c _ d _=>⟨o,g,JN d⟩) (λH c C=>?_) (λ_ s' R _=>⟨s',R,rfl,rfl,λ_ h=>h⟩),λo g x S W=>?_⟩
 ·rcases rx h.G ((nth h.O i).Addr+j) v f c with e|⟨-,u,w⟩
  ·exact .inl e.symm
  refine .inr ⟨_,g,?_⟩;rw[u,w];exact JN d
 ·obtain⟨jm1,jm2⟩:=b.jobM H
  have J:c<16:=by
   obtain⟨k,lk,e⟩:=aN (List.mem_of_mem_take C);have:=f8 (cN.1 (b.job H).1).1 lk;omega
  constructor
  ·rcases rx h.G ((nth h.O i).Addr+j) v (b9 h.G h.Y.X.a2) c with e|⟨-,u,w⟩
   ·exact e
   exfalso;rw[<-u,<-w]at r;exact t7 b A N H r J (List.mem_of_mem_take C) (lX b.ker jm1)
  rcases rx h.G ((nth h.O i).Addr+j) v (b9 h.G h.Y.X.a0) c with e|⟨-,u,w⟩
  ·exact e
  exfalso;rw[<-u,<-w]at r;refine He b A N H r ?_ C (lX b.ker jm2);rcases b.oow _ g with⟨s,hs,s1,s2⟩|⟨l,X,l1,-⟩
  ·have T:=aE (b.L.sok s hs)
   have K:=D6 (n:=(nth h.O i).q) ω;rw[<-s2]at K;obtain⟨g1,g2,g3,-⟩:=s1;have Q:((nth h.O i).Addr+j) / 16=(nth h.O i).Addr / 16:=by rcases bV T.2.2 with e|e|e|e<;>rw[e]at g3 K<;>omega
   rw[<-Q];exact Y
  intro M;obtain⟨a1,a2,a3⟩:=lM (t:=tbl h) (p:=(nth h.O i).Addr / 16) ω;rw[a3]at M;have h3:=(N.m1 _ M).2.1;obtain⟨-,-,y,hy,-,ey,-⟩:=A.sp H;have hpl:=aQ (b.L.lok l X);exact b.L.dis y hy l X 0 ω ω
 have U:=(cU b g (k:=x) ⟨S,ω⟩).1;have a:=At.mk' b.ker U;have D:At (dO h.G ((nth h.O i).Addr+j) v) (o.Addr+x) (cY h.G (o.Addr+x)) ((o.Addr+x) % 16).toNat:=⟨a.m,a.f,a.c⟩
 rw[D.cell,a.cell];split
 ·rename_i e
  obtain⟨u,w⟩:=e;subst u w;exact BZ b.ker F
 rename_i B;rcases rx h.G ((nth h.O i).Addr+j) v (cY h.G (o.Addr+x)) ((o.Addr+x) % 16).toNat with e|⟨-,u,w⟩
 ·exact e
 exfalso;rw[u,w]at a;have V:qQ h o _ _:=⟨x,S,W,a⟩
 have eo:=Kz b g (am O) V d;subst eo;refine B ⟨rfl,?_⟩;exact QY b (am O) ⟨S,W⟩ ⟨P.1,ω⟩ a G
structure JP(h:ab):Prop where
 km:(ac (tbl h) h.Y.X.a2).j≠0
 mm:(ac (tbl h) h.Y.X.a0).j≠0
 kf:(ac (tbl h) h.Y.X.a2).d=(b9 h.G h.Y.X.a2:Nat)
 mf:(ac (tbl h) h.Y.X.a0).d=(b9 h.G h.Y.X.a0:Nat)
 ne:b9 h.G h.Y.X.a2≠b9 h.G h.Y.X.a0
 pe:h.Y.X.a2≠h.Y.X.a0
 k2:CI h->(ac (tbl h) h.Y.X.a2).j≠1
def JP.of{E:List Int}(g:aU h E)(i:JI h)(j:h.o=true):JP h:=by
 obtain⟨k,b⟩:=g.jobM j;have a:=(cN.1 (g.job j).1).1;unfold eO at a;simp only[I0,C0]at a;have c:=a.2.2.2.2.2;have l:=lX g.ker k;have n:=lX g.ker b;obtain⟨t,u,o⟩:=lM k;obtain⟨w,y,q⟩:=lM b;refine⟨k,b,l,n,λe=>c ?_,c,λr p=>?_⟩
 ·have d:(ac (tbl h) h.Y.X.a2).d=(b9 h.G h.Y.X.a2:Nat):=l
  have f:(ac (tbl h) h.Y.X.a0).d=(b9 h.G h.Y.X.a0:Nat):=n;rw[o]at d;rw[q]at f b;have:=i.sk j h.Y.X.a0.toNat b (by rw[d,f,e]);omega
 rw[o]at p;have:=(r.m1 _ p).2.1;omega
def hJ(h:ab)(k:af)(j:co):ab:={h with G:=k,o:=true,Y:=j}
def hE(h:ab)(k:af):ab:={h with G:=k,o:=false,Y:=⟨⟨0,0,[]⟩,0,0⟩}
def ND(a:h.o=true):mStep h=if over (ed h.G h.Y).2=true then hE h (ed h.G h.Y).1 else hJ h (ed h.G h.Y).1 (ed h.G h.Y).2:=by
 unfold mStep hE hJ;split
 ·rfl
 rw[a]
def wR{E:List Int}(g:aU h E)(l:h'.O=h.O)(n:∀p,(ac (tbl h) p).j≠0->(ac (tbl h') p).j≠0/\(ac (tbl h') p).d=(ac (tbl h) p).d)(q:∀o∈h.O,∀f c,qQ h o f c->cl h'.G f c=cl h.G f c):Kp h h':=λo e=>by
 rw[l]at e;refine⟨e,λj i r=>?_⟩;have b:=(cU g e (k:=j) ⟨i,ω⟩).1;have a:=At.mk' g.ker b;obtain⟨t,u⟩:=n _ b;have d:At h'.G (o.Addr+j) (cY h.G (o.Addr+j)) ((o.Addr+j) % 16).toNat:=⟨t,u.trans a.f,a.c⟩
 rw[d.cell,a.cell];exact q o e _ _ ⟨j,i,r,a⟩
def zD(b:∀p,(ac (tbl h) p).j≠0->(ac (tbl h') p).j≠0/\(ac (tbl h') p).d=(ac (tbl h) p).d)(d:qQ h o f c):qQ h' o f c:=by
 obtain⟨j,e,g,a⟩:=d;obtain⟨i,k⟩:=b _ a.m;exact⟨j,e,g,i,k.trans a.f,a.c⟩
def ta{m:Int}(b:(ac k.F.Q p).j≠0)(q:Int):ac (jI k p m).F.Q q=if q=p then {ac k.F.Q p with j:=m} else ac k.F.Q q:=by
 obtain⟨c,d,g⟩:=lM b;have f:(jI k p m).F.Q.K.length=k.F.Q.K.length:=by unfold jI;simp
 unfold ac;rw[f];by_cases e:0<=q/\q<k.F.Q.K.length
 ·rw[CD e,CD e]
  unfold jI;simp only[bt];by_cases a:q=p
  ·rw[CD a,CD ⟨ω,ω⟩,CD ⟨c,d⟩]
  rw[CB a,CB ω]
 rw[CB e,CB e,CB ω]
def J2{t:aI}{q:Nat}(h:(nth t.K q).j≠0):ac t (q:Int)=nth t.K q:=by
 have:=q7 h;unfold ac;rw[CD ⟨ω,ω⟩];rfl
def CI.ended{E:List Int}(l:aU h E)(n:CI h)(u:h.o=true)(r:h.Y.b=0)(g:∀f c,cl k f c=cl h.G f c)(i:∀p,(ac (tbl h) p).j≠0->(ac k.F.Q p).j≠0/\(ac k.F.Q p).d=(ac (tbl h) p).d)(h1:∀q:Nat,(nth k.F.Q.K q).j≠1):CI (hE h k)/\Kp h (hE h k):=by
 refine⟨⟨λf c a b=>?_,λe=>(by cases e),λe=>(by cases e),λe=>(by cases e),λe=>(by cases e),λq t=>absurd t (h1 q),λe=>(by cases e)⟩,wR l rfl i λo j f c _=>g f c⟩;change cl k f c≠0 at b;rw[g]at b;rcases n.z f c a b with⟨o,j,d⟩|⟨-,-,e⟩
 ·exact .inl ⟨o,j,zD i d⟩
 rw[r]at e;cases e
def JG{p:bY}(h:eO p=true){i:Nat} : ∀{j:Nat},i<j->j<p.T.length->nth p.T i<nth p.T j
 | 0,a,_=>absurd a (Nat.not_lt_zero i)
 | j+1,a,d=>by
  have b:=h;unfold eO at b;simp only[I0]at b;have c:=fk b.1 d;unfold mU at c;rw[C0]at c;have f:nth p.T j<nth p.T (j+1):=c.2.2.resolve_left ω;by_cases e:i=j
  ·rw[e];exact f
  have:=JG h (i:=i) (j:=j) ω ω;omega
def rZ(k:af)(a:Nat)(b v:Int)(f c:Nat):cl (setCell k a b v) f c=cl k f c\/(cl (setCell k a b v) f c=v/\f=a/\c=b.toNat):=by
 unfold cl setCell;simp only[bt];by_cases e:a=f/\f<k.F.U.T.length
 ·rw[CD e,bt]
  by_cases d:b.toNat=c/\c<(nth k.F.U.T a).length
  ·rw[CD d];exact .inr ⟨rfl,e.1.symm,d.1.symm⟩
  rw[CB d,e.1];exact .inl rfl
 rw[CB e];exact .inl rfl
def rd(c:ay k=true)(e:(ac k.F.Q p).j≠0)(g:0<=a/\a<=15):cl (setCell k (b9 k p) a v) (b9 k p) a.toNat=v:=by
 have d:=(gn c e).1;have b:=(uv c (f:=b9 k p) d).1;unfold cl setCell;show nth (nth (List.set _ _ _) _) _=v;rw[bt];rw[CD ⟨rfl,d⟩,bt,CD ⟨rfl,by rw[b];omega⟩]
def GX{b:Int}{j:co}(d:qQ h o f c):qQ (hJ h (setCell h.G (b9 h.G p) b v) j) o f c:=by
 obtain⟨x,e,g,a⟩:=d;exact⟨x,e,g,⟨a.m,a.f,a.c⟩⟩
def KV{j:co}(a:aU h [])(b:JI h)(q:CI h)(l:h.o=true)(r:JP h){d:Int}(n:d∈h.Y.X.T)(v:Int):Kp h (hJ h (setCell h.G (b9 h.G h.Y.X.a2) d v) j):=by
 obtain⟨k,t,e⟩:=aN n;have u:=f8 (cN.1 (a.job l).1).1 t;refine wR a rfl (λp w=>⟨w,rfl⟩) λo y f c i=>?_
 rcases rZ h.G (b9 h.G h.Y.X.a2) d v f c with g|⟨-,A,B⟩
 ·exact g
 exfalso;refine t7 a b q l (jX a y i) ω ?_ (by rw[A];exact r.kf);rw[B,Int.toNat_of_nonneg ω];exact n
def CI.copied(r:aU h [])(t:JI h)(b:CI h)(k:h.o=true)(n:JP h)(N:h.Y.b1=1)(O:0<=h.Y.b/\h.Y.b<h.Y.X.T.length):CI (hJ h (oK h.G h.Y.X.a0 h.Y.X.a2 (nth h.Y.X.T h.Y.b.toNat)) {h.Y with b:=h.Y.b+1})/\Kp h (hJ h (oK h.G h.Y.X.a0 h.Y.X.a2 (nth h.Y.X.T h.Y.b.toNat)) {h.Y with b:=h.Y.b+1}):=by
 have d:h.Y.b.toNat<h.Y.X.T.length:=ω
 have l:=am d;have u:=f8 (cN.1 (r.job k).1).1 d;have i:h.Y.X.T.take (h.Y.b+1).toNat=h.Y.X.T.take h.Y.b.toNat++[nth h.Y.X.T h.Y.b.toNat]:=by
  rw[show(h.Y.b+1).toNat=h.Y.b.toNat+1 by omega,Y6,ao d];rfl
 unfold oK;have w:=rd r.ker (p:=h.Y.X.a2) (v:=nth (nth h.G.F.U.T (b9 h.G h.Y.X.a0)) (nth h.Y.X.T h.Y.b.toNat).toNat) n.km u;have j:=rZ h.G (b9 h.G h.Y.X.a2) (nth h.Y.X.T h.Y.b.toNat) (nth (nth h.G.F.U.T (b9 h.G h.Y.X.a0)) (nth h.Y.X.T h.Y.b.toNat).toNat);refine⟨⟨λf c y H=>?_,λ_ c a=>?_,λ_=>b.jd k,λ_=>b.jc k,λ_=>⟨λe=>absurd e (by show ¬h.Y.b1=0;omega),λe=>absurd e (by show ¬h.Y.b1=2;omega)⟩,λq J=>?_,λ_ _=>b.m2 k ω⟩,KV r t b k n l _⟩
 ·rcases j f c with g|⟨-,A,B⟩
  ·have C:cl h.G f c≠0:=by rw[<-g];exact H
   rcases b.z f c y C with⟨o,K,L⟩|⟨M,D,E⟩
   ·exact .inl ⟨o,K,GX L⟩
   refine .inr ⟨rfl,D,?_⟩;show(c:Int)∈h.Y.X.T.take (h.Y.b+1).toNat;rw[i];exact W3.2 (.inl E)
  refine .inr ⟨rfl,?_,?_⟩
  ·show(ac (tbl h) h.Y.X.a2).d=f;rw[A];exact n.kf
  show(c:Int)∈h.Y.X.T.take (h.Y.b+1).toNat;rw[i,B,Int.toNat_of_nonneg ω];exact W3.2 (.inr (V1.2 rfl))
 ·change (c:Int)∈h.Y.X.T.take (h.Y.b+1).toNat at a
  show cl (setCell h.G (b9 h.G h.Y.X.a2) _ _) (b9 h.G h.Y.X.a2) c=cl (setCell h.G (b9 h.G h.Y.X.a2) _ _) (b9 h.G h.Y.X.a0) c;have F:cl (setCell h.G (b9 h.G h.Y.X.a2) (nth h.Y.X.T h.Y.b.toNat) (nth (nth h.G.F.U.T (b9 h.G h.Y.X.a0)) (nth h.Y.X.T h.Y.b.toNat).toNat)) (b9 h.G h.Y.X.a0) c=cl h.G (b9 h.G h.Y.X.a0) c:=by
   rcases j (b9 h.G h.Y.X.a0) c with g|⟨-,A,-⟩
   ·exact g
   exact absurd A.symm n.ne
  rw[F];by_cases G:(c:Int)=nth h.Y.X.T h.Y.b.toNat
  ·have:c=(nth h.Y.X.T h.Y.b.toNat).toNat:=ω
   rw[this,w];rfl
  rw[i]at a;rcases W3.1 a with a|a
  ·rcases j (b9 h.G h.Y.X.a2) c with g|⟨-,-,B⟩
   ·rw[g];exact b.jv k c a
   exact absurd (by rw[B,Int.toNat_of_nonneg ω]) G
  exact absurd (V1.1 a) G
 obtain⟨M,D,E⟩:=b.m1 q J;exact⟨rfl,D,E⟩
def CI.undone(y:aU h [])(A:JI h)(b:CI h)(r:h.o=true)(l:JP h)(p3:h.Y.b1=3)(hp:0<h.Y.b):CI (hJ h {h.G with F:=(fQ h.G.F (h.Y.X.a2*16+nth h.Y.X.T (h.Y.b - 1).toNat) 0).1} {h.Y with b:=h.Y.b - 1})/\Kp h (hJ h {h.G with F:=(fQ h.G.F (h.Y.X.a2*16+nth h.Y.X.T (h.Y.b - 1).toNat) 0).1} {h.Y with b:=h.Y.b - 1}):=by
 obtain⟨t,-,-,n0,n1⟩:=cN.1 (y.job r).1;have a:(h.Y.b - 1).toNat<h.Y.X.T.length:=ω
 have u:=am a;have B:=f8 t a;have O:=(lM l.km).1;have P:(h.Y.X.a2*16+nth h.Y.X.T (h.Y.b - 1).toNat) / 16=h.Y.X.a2:=ω
 have Q:(h.Y.X.a2*16+nth h.Y.X.T (h.Y.b - 1).toNat) % 16=nth h.Y.X.T (h.Y.b - 1).toNat:=ω
 have C:(ac h.G.F.Q h.Y.X.a2).j≠0:=l.km;have D:(ac h.G.F.Q h.Y.X.a2).j≠1:=l.k2 b;have R:({h.G with F:=(fQ h.G.F (h.Y.X.a2*16+nth h.Y.X.T (h.Y.b - 1).toNat) 0).1} : af)=setCell h.G (b9 h.G h.Y.X.a2) (nth h.Y.X.T (h.Y.b - 1).toNat) 0:=by
  unfold fQ;rw[P,Q,CB C,CB D]
  rfl
 rw[R];have n:=rZ h.G (b9 h.G h.Y.X.a2) (nth h.Y.X.T (h.Y.b - 1).toNat) 0;have w:h.Y.X.T.take h.Y.b.toNat=h.Y.X.T.take (h.Y.b - 1).toNat++[nth h.Y.X.T (h.Y.b - 1).toNat]:=by
  rw[show h.Y.b.toNat=(h.Y.b - 1).toNat+1 by omega,Y6,ao a];rfl
 have E:nth h.Y.X.T (h.Y.b - 1).toNat∉h.Y.X.T.take (h.Y.b - 1).toNat:=λF=>by
  obtain⟨k,S,T⟩:=aN F;rw[C2]at S;have G:nth (h.Y.X.T.take (h.Y.b - 1).toNat) k=nth h.Y.X.T k:=by
   refine bh ?_;rw[List.getElem?_take,CD ω];exact ao ω
  rw[G]at T;have:=JG t (i:=k) (j:=(h.Y.b - 1).toNat) ω a;omega
 refine⟨⟨λf c H J=>?_,λ_ c p=>?_,λ_=>b.jd r,λ_=>b.jc r,λ_=>⟨λe=>absurd e (by show ¬h.Y.b1=0;omega),λe=>absurd e (by show ¬h.Y.b1=2;omega)⟩,λq U=>?_,λ_ _=>b.m2 r ω⟩,KV y A b r l u _⟩
 ·rcases n f c with g|⟨V,-,-⟩
  ·have K:cl h.G f c≠0:=by rw[<-g];exact J
   rcases b.z f c H K with⟨o,W,X⟩|⟨Y,L,d⟩
   ·exact .inl ⟨o,W,GX X⟩
   rw[w]at d;rcases W3.1 d with d|d
   ·exact .inr ⟨rfl,L,d⟩
   exfalso;have ec:=V1.1 d;have M:f=b9 h.G h.Y.X.a2:=by have:=l.kf;omega
   refine J ?_;show cl (setCell h.G (b9 h.G h.Y.X.a2) _ 0) f c=0;rw[M,show c=(nth h.Y.X.T (h.Y.b - 1).toNat).toNat by omega];exact rd y.ker l.km B
  exact absurd V J
 ·change (c:Int)∈h.Y.X.T.take (h.Y.b - 1).toNat at p
  show cl (setCell h.G (b9 h.G h.Y.X.a2) _ 0) (b9 h.G h.Y.X.a2) c=cl (setCell h.G (b9 h.G h.Y.X.a2) _ 0) (b9 h.G h.Y.X.a0) c;have N:cl (setCell h.G (b9 h.G h.Y.X.a2) (nth h.Y.X.T (h.Y.b - 1).toNat) 0) (b9 h.G h.Y.X.a0) c=cl h.G (b9 h.G h.Y.X.a0) c:=by
   rcases n (b9 h.G h.Y.X.a0) c with g|⟨-,Z,-⟩
   ·exact g
   exact absurd Z.symm l.ne
  rw[N];rcases n (b9 h.G h.Y.X.a2) c with g|⟨-,-,g2⟩
  ·rw[g]
   exact b.jv r c (by rw[w];exact W3.2 (.inl p))
  exact absurd (by rw[show nth h.Y.X.T (h.Y.b - 1).toNat=(c:Int) by omega];exact p) E
 obtain⟨Y,L,d⟩:=b.m1 q U;exact⟨rfl,L,d⟩
def CI.meshed(F:aU h [])(D:JI h)(G:CI h)(H:h.o=true)(d:JP h)(hn:h.Y.b=h.Y.X.T.length)(L:h.G.Calls≠100000)(R:(qT h.G h.Y.X.a0 h.Y.X.a2).2=true):CI (hE h (qT h.G h.Y.X.a0 h.Y.X.a2).1)/\Kp h (hE h (qT h.G h.Y.X.a0 h.Y.X.a2).1):=by
 have A:=E4 F.ker (p:=h.Y.X.a0) (o:=h.Y.X.a2) d.mm R;obtain⟨m1,m2,m3⟩:=lM d.mm;obtain⟨k1,k2,k3⟩:=lM d.km;have M:=(A 0).1;generalize N:(qT h.G h.Y.X.a0 h.Y.X.a2).1=K at *;have J:∀q:Int,ac K.F.Q q=if q=h.Y.X.a0 then⟨2,(ac (tbl h) h.Y.X.a2).d⟩ else ac (tbl h) q:=λq=>by
  unfold ac;rw[M];by_cases e:0<=q/\q<h.G.F.Q.K.length
  ·rw[CD e,(A q.toNat).2]
   by_cases B:q=h.Y.X.a0
   ·rw[CD B,CD ω,CD ⟨k1,k2⟩];rfl
   rw[CB B,CB ω,CD (show 0<=q/\q<(tbl h).K.length from e)];rfl
  rw[CB e,CB (show ¬q=h.Y.X.a0 by unfold tbl at m2;omega),CB (show ¬(0<=q/\q<(tbl h).K.length) from e)]
 have l:∀f c,cl K f c=cl h.G f c\/(cl K f c=0/\f=b9 h.G h.Y.X.a0):=λf c=>by
  unfold qT at N R;by_cases e:refd h.G=true
  ·rw[CD e]at R;cases R
  rw[CB e]at N;simp only at N;rw[<-N];rcases K4 (uW (ce h.G) h.Y.X.a0.toNat ⟨2,(nth (ce h.G).F.Q.K h.Y.X.a2.toNat).d⟩) (nth (ce h.G).F.Q.K h.Y.X.a0.toNat).d f c with g|⟨S,T,-⟩
  ·exact .inl g
  refine .inr ⟨S,?_⟩;rw[<-T];have h3:nth (ce h.G).F.Q.K h.Y.X.a0.toNat=ac h.G.F.Q h.Y.X.a0:=m3.symm;rw[h3];rfl
 have n:h.Y.X.T.take h.Y.b.toNat=h.Y.X.T:=V8 ω;have O:∀p:Int,(ac (tbl h) p).j≠0->(ac (tbl h) p).d=(b9 h.G h.Y.X.a0:Nat)->p=h.Y.X.a0:=λp j C=>by
  obtain⟨p1,p2,p3⟩:=lM j;have P:=d.mf;rw[p3]at j C;rw[m3]at P;have:=D.sm H p.toNat j (by rw[C,P]);omega
 have U:∀c,cl K (b9 h.G h.Y.X.a2) c=cl h.G (b9 h.G h.Y.X.a2) c:=λc=>by
  rcases l (b9 h.G h.Y.X.a2) c with g|⟨-,g⟩
  ·exact g
  exact absurd g d.ne
 have place:∀o∈h.O,∀x:Int,0<=x->x<o.q->∀f c:Nat,At h.G (o.Addr+x) f c->(f≠b9 h.G h.Y.X.a0->At K (o.Addr+x) f c)/\(f=b9 h.G h.Y.X.a0->At K (o.Addr+x) (b9 h.G h.Y.X.a2) c/\(c:Int)∈h.Y.X.T):=λo r x u w f c a=>by
  constructor
  ·intro hne
   have j:(o.Addr+x) / 16≠h.Y.X.a0:=λe=>by
    have:=a.f;rw[e]at this;have h3:(ac h.G.F.Q h.Y.X.a0).d=_:=d.mf;omega
   exact⟨by rw[J,CB j];exact a.m,by rw[J,CB j];exact a.f,a.c⟩
  intro he;have j:=O _ a.m (by rw[<-he];exact a.f);refine⟨⟨by rw[J,CD j];show(2:Int)≠0;decide,by rw[J,CD j];exact d.kf,a.c⟩,?_⟩;obtain⟨-,-,b,hb,-,V,-⟩:=D.sp H;have y:c<16:=by have:=a.c;omega
  obtain⟨e1,B,-⟩:=xG F (jX F r ⟨x,u,w,a⟩) hb (by rw[V];exact D.sm H) (by rw[V,he];exact d.mf);refine G.jc H b hb V c y ?_;rw[B];exact e1.2.2.2
 refine⟨⟨λf c y E=>?_,λe=>(by cases e),λe=>(by cases e),λe=>(by cases e),λe=>(by cases e),λq hq=>?_,λe=>(by cases e)⟩,λo r=>⟨r,λx u w=>?_⟩⟩
 ·change cl K f c≠0 at E
  rcases l f c with g|⟨g,-⟩
  rotate_left
  ·exact absurd g E
  rw[g]at E;have W:f≠b9 h.G h.Y.X.a0:=λe=>by
   refine E ?_;rw[<-g,e];have X:ay K=true:=by
    rw[<-N];exact Qp F.ker L d.mm d.km (Ne.symm d.pe)
   refine pE X (λp j C=>?_) c;rw[J]at j C;by_cases B:p=h.Y.X.a0
   ·rw[CD B]at C
    have h1:(ac (tbl h) h.Y.X.a2).d=(b9 h.G h.Y.X.a0:Nat):=C;have h2:=d.kf;exact d.ne ω
   rw[CB B]at j C;exact B (O p j C)
  rcases G.z f c y E with⟨o,r,x,u,w,a⟩|⟨-,q2,q3⟩
  ·exact .inl ⟨o,r,x,u,w,(place o r x u w f c a).1 W⟩
  rw[n]at q3;have Q:f=b9 h.G h.Y.X.a2:=by have:=d.kf;omega
  rw[Q,G.jv H c (by rw[n];exact q3)]at E;rcases G.z _ c y E with⟨o,r,x,u,w,a⟩|⟨-,r2,-⟩
  ·exact .inl ⟨o,r,x,u,w,by rw[Q];exact((place o r x u w _ c a).2 rfl).1⟩
  exact absurd (by have:=d.kf;omega) d.ne
 ·have i:(nth K.F.Q.K q).j=1:=hq
  have:=J2 (t:=K.F.Q) (q:=q) (by rw[i];decide);rw[J]at this;by_cases e:(q:Int)=h.Y.X.a0
  ·rw[CD e]at this
   rw[<-this]at i;exact absurd i (by show ¬(2:Int)=1;decide)
  rw[CB e]at this;rw[<-this]at i;obtain⟨a1,a2,a3⟩:=lM (t:=tbl h) (p:=(q:Int)) (by rw[i];decide);rw[a3]at i;exact absurd (by have:=(G.m1 _ i).2.1;omega) e
 have Y:=(cU F r (k:=x) ⟨u,ω⟩).1;have a:=At.mk' F.ker Y;obtain⟨S,T⟩:=place o r x u w _ _ a;show eC K (o.Addr+x)=eC h.G (o.Addr+x);by_cases e:cY h.G (o.Addr+x)=b9 h.G h.Y.X.a0
 ·obtain⟨Z,g4⟩:=T e
  rw[Z.cell,a.cell,U,e];exact G.jv H _ (by rw[n];exact g4)
 have Z:=S e;rw[Z.cell,a.cell];rcases l (cY h.G (o.Addr+x)) ((o.Addr+x) % 16).toNat with g|⟨-,g⟩
 ·exact g
 exact absurd g e
def CI.mStep{h:ab}(w:aU h [])(l:JI h)(a:CI h)(d:h.o=true):CI (mStep h)/\Kp h (mStep h):=by
 have C:=JP.of w l d;have Z:=l.ph d;obtain⟨jn0,jn2⟩:=a.jn d;obtain⟨-,-,-,n0,n1⟩:=cN.1 (w.job d).1;rw[ND d];have stay:∀(k:af)(j:co),k.F=h.G.F->j.X=h.Y.X->j.b=h.Y.b->(j.b1=0↔h.Y.b1=0)->(j.b1=2->j.b=j.X.T.length)->CI (hJ h k j)/\Kp h (hJ h k j):=λk j M u N O e5=>by
  have J:tbl (hJ h k j)=tbl h:=by unfold tbl hJ;rw[M]
  have L:∀f c,cl k f c=cl h.G f c:=λf c=>by unfold cl;rw[M]
  have D:∀o f c,qQ h o f c->qQ (hJ h k j) o f c:=λo f c=>zD (λp E=>by rw[J];exact⟨E,rfl⟩)
  refine⟨⟨λf c F K=>?_,λ_ c g=>?_,λ_=>?_,λ_=>?_,λ_=>⟨λe=>?_,e5⟩,λq i=>?_,λ_ e=>?_⟩,wR w rfl (λp E=>by rw[J];exact⟨E,rfl⟩) λo _ f c _=>L f c⟩
  ·change cl k f c≠0 at K
   rw[L]at K;rcases a.z f c F K with⟨o,P,Q⟩|⟨q1,R,G⟩
   ·exact .inl ⟨o,P,D o f c Q⟩
   refine .inr ⟨rfl,?_,?_⟩
   ·rw[J];show(ac (tbl h) j.X.a2).d=f;rw[u];exact R
   show(c:Int)∈j.X.T.take j.b.toNat;rw[u,N];exact G
  ·change (c:Int)∈j.X.T.take j.b.toNat at g
   show cl k (b9 k j.X.a2) c=cl k (b9 k j.X.a0) c;rw[u,N]at g;rw[u,L,L];unfold b9;rw[M];exact a.jv d c g
  ·show ∀s∈h.J,s.R=j.X.a2->_
   rw[show(hJ h k j).Y.X=h.Y.X from u,u];exact a.jd d
  ·show ∀s∈h.J,s.R=j.X.a0->_
   rw[show(hJ h k j).Y.X=h.Y.X from u,u];exact a.jc d
  ·exact(show j.b=h.Y.b from N).trans (jn0 (O.1 e))
  ·rw[J]at i
   obtain⟨q1,R,G⟩:=a.m1 q i;exact⟨rfl,by show(q:Int)=j.X.a0;rw[u];exact R,λe=>G (O.1 e)⟩
  rw[J];show(ac (tbl h) j.X.a0).j=1;rw[u];exact a.m2 d λx=>e (O.2 x)
 have prot:∀H:Int,H=1\/H=2->∀p,(ac (tbl h) p).j≠0->(ac (jI (ce h.G) h.Y.X.a0 H).F.Q p).j≠0/\(ac (jI (ce h.G) h.Y.X.a0 H).F.Q p).d=(ac (tbl h) p).d:=λH hmo p E=>by
  rw[ta (k:=ce h.G) C.mm];by_cases e:p=h.Y.X.a0
  ·rw[CD e,e]
   exact⟨by show H≠0;omega,rfl⟩
  rw[CB e];exact⟨E,rfl⟩
 unfold ed;by_cases b:jmay h.G h.Y=true;rotate_left
 ·rw[CB b]
  rw[CB (by rw[show over (h.G,h.Y).2=over h.Y from rfl,show over h.Y=false from W0 ω];decide)];exact stay h.G h.Y rfl rfl rfl Iff.rfl jn2
 rw[CD b];unfold jstep;by_cases A:h.Y.b1=0
 ·rw[CD A]
  have n:=jn0 A;simp only;unfold fw;by_cases B:refd h.G=true
  ·rw[CD B]
   simp only[Bool.false_eq_true,if_false];rw[CD (show over {h.Y with b1:=5} = true from O0 (.inr rfl))];refine CI.ended w a d n (λ_ _=>rfl) (λp E=>⟨E,rfl⟩) λq i=>(a.m1 q i).2.2 A
  rw[CB B];simp only[if_true];rw[CB (by rw[show over {h.Y with b1:=1} = false from W0 (by show ¬((1:Int)=4\/(1:Int)=5);decide)];decide)];have D:∀o f c,qQ h o f c->qQ (hJ h (jI (ce h.G) h.Y.X.a0 1) {h.Y with b1:=1}) o f c:=λo f c=>zD (prot 1 (.inl rfl))
  refine⟨⟨λf c F K=>?_,λ_ c g=>?_,λ_=>a.jd d,λ_=>a.jc d,λ_=>⟨λe=>absurd e (by show ¬(1:Int)=0;decide),λe=>absurd e (by show ¬(1:Int)=2;decide)⟩,λq i=>?_,λ_ _=>?_⟩,wR w rfl (prot 1 (.inl rfl)) λ_ _ _ _ _=>rfl⟩
  ·rcases a.z f c F K with⟨o,P,Q⟩|⟨-,-,G⟩
   ·exact .inl ⟨o,P,D o f c Q⟩
   rw[n]at G;cases G
  ·change (c:Int)∈h.Y.X.T.take h.Y.b.toNat at g
   rw[n]at g;cases g
  ·refine⟨rfl,?_,by show ¬(1:Int)=0;decide⟩
   show(q:Int)=h.Y.X.a0;refine Classical.byContradiction λS=>?_
   have y:(nth (jI (ce h.G) h.Y.X.a0 1).F.Q.K q).j=1:=i;have:=J2 (t:=(jI (ce h.G) h.Y.X.a0 1).F.Q) (q:=q) (by rw[y];decide);rw[ta (k:=ce h.G) C.mm,CB S]at this;rw[<-this]at y;obtain⟨a1,a2,T⟩:=lM (t:=tbl h) (p:=(q:Int)) (by show(ac h.G.F.Q q).j≠0;have:(ac h.G.F.Q q).j=1:=y;rw[this];decide);have r:(ac (tbl h) q).j=1:=y;rw[T]at r;exact(a.m1 _ r).2.2 A
  show(ac (jI (ce h.G) h.Y.X.a0 1).F.Q h.Y.X.a0).j=1;rw[ta (k:=ce h.G) C.mm,CD rfl]
 rw[CB A];by_cases U:h.Y.b1=1
 ·rw[CD U]
  by_cases V:h.Y.b=h.Y.X.T.length
  ·rw[CD V]
   simp only;rw[CB (by rw[show over {h.Y with b1:=2} = false from W0 (by show ¬((2:Int)=4\/(2:Int)=5);decide)];decide)];exact stay h.G {h.Y with b1:=2} rfl rfl rfl ⟨λe=>absurd e (by show ¬(2:Int)=0;decide),λe=>absurd e A⟩ λ_=>V
  rw[CB V];simp only;rw[CB (by rw[show over {h.Y with b:=h.Y.b+1} = false from W0 (by show ¬(h.Y.b1=4\/h.Y.b1=5);omega)];decide)];exact CI.copied w l a d C U ω
 rw[CB U];by_cases W:h.Y.b1=2
 ·rw[CD W]
  simp only;cases B:(qT h.G h.Y.X.a0 h.Y.X.a2).2 with
  | false=>
   simp only[Bool.false_eq_true,if_false];rw[CB (by rw[show over {h.Y with b1:=3} = false from W0 (by show ¬((3:Int)=4\/(3:Int)=5);decide)];decide)];rw[H4 B];exact stay (ce h.G) {h.Y with b1:=3} rfl rfl rfl ⟨λe=>absurd e (by show ¬(3:Int)=0;decide),λe=>absurd e A⟩ λe=>absurd e (by show ¬(3:Int)=2;decide)
  | true=>
   rw[CD rfl];rw[CD (show over {h.Y with b1:=4} = true from O0 (.inl rfl))];exact CI.meshed w l a d C (jn2 W) (by unfold jmay at b;simp only[I0,C0]at b;exact b.1.2) B
 rw[CB W];have Y:h.Y.b1=3:=ω
 rw[CD Y];by_cases X:0<h.Y.b
 ·rw[CD X]
  simp only;rw[CB (by rw[show over {h.Y with b:=h.Y.b - 1} = false from W0 (by show ¬(h.Y.b1=4\/h.Y.b1=5);omega)];decide)];exact CI.undone w l a d C Y X
 rw[CB X];have n:h.Y.b=0:=ω
 simp only;unfold fw;by_cases B:refd h.G=true
 ·rw[CD B]
  simp only[Bool.false_eq_true,if_false];rw[CB (by rw[show over {h.Y with b1:=3} = false from W0 (by show ¬((3:Int)=4\/(3:Int)=5);decide)];decide)];exact stay (ce h.G) {h.Y with b1:=3} rfl rfl rfl ⟨λe=>absurd e (by show ¬(3:Int)=0;decide),λe=>absurd e A⟩ λe=>absurd e (by show ¬(3:Int)=2;decide)
 rw[CB B];simp only[if_true];rw[CD (show over {h.Y with b1:=5} = true from O0 (.inr rfl))];refine CI.ended w a d n (λ_ _=>rfl) (prot 2 (.inr rfl)) λq i=>?_
 have:=J2 (t:=(jI (ce h.G) h.Y.X.a0 2).F.Q) (q:=q) (by rw[i];decide);rw[ta (k:=ce h.G) C.mm]at this;by_cases e:(q:Int)=h.Y.X.a0
 ·rw[CD e]at this
  rw[<-this]at i;exact absurd i (by show ¬(2:Int)=1;decide)
 rw[CB e]at this;rw[<-this]at i;obtain⟨a1,a2,T⟩:=lM (t:=tbl h) (p:=(q:Int)) (by have:(ac (tbl h) q).j=1:=i;rw[this];decide);have r:(ac (tbl h) q).j=1:=i;rw[T]at r;exact e (by have:=(a.m1 _ r).2.1;omega)
def Bl{s:au} : (c:Int)∈sJ s n↔c<n/\rR s c=true:=by
 unfold sJ;simp only[O5,V5,List.mem_range];constructor
 ·rintro⟨a,⟨b,d⟩,e⟩
  have:a=c:=ω
  subst this;exact⟨b,d⟩
 rintro⟨b,d⟩;exact⟨c,⟨b,d⟩,rfl⟩
def Rz{a b:au}(c:meshable a b=true){i:Int}(h:aX a.b2 i=true):aX b.b2 i=false:=by
 unfold meshable at c;simp only[I0,C0]at c;obtain⟨-,-,-,d⟩:=c;rw[<-X6];intro e;have f:=(eS _ _).1 h;have g:=(eS _ _).1 e;have:=Z0 (λn=>Nat.testBit n i.toNat) d;simp only[Nat.testBit_and,Nat.zero_testBit]at this;rw[f.2.2.2,g.2.2.2]at this;cases this
def KT{E:List Int}(a:aU h E){s u:au}(b:s∈h.J)(c:u∈h.J)(e:s.R=u.R):s=u:=by
 obtain⟨i,d,rfl⟩:=aN b;obtain⟨j,g,rfl⟩:=aN c;rw[cR (f:=(·.R)) a.L.nd d g e]
def CI.begun{E:List Int}(B:aU h E)(C:CI h)(D:h.o=false){a b:au}(F:a∈h.J)(G:b∈h.J)(l:meshable a b=true)(sd:Int):CI {h with b8:=sd,o:=true,Y:=tt (db a b)}:=by
 have n:∃x∈h.J,∃y∈h.J,(db a b).a2=x.R/\(db a b).a0=y.R/\(db a b).T=sJ y 16/\meshable x y=true:=by
  unfold db;split
  ·exact⟨b,G,a,F,rfl,rfl,rfl,by rw[iy];exact l⟩
  exact⟨a,F,b,G,rfl,rfl,rfl,l⟩
 obtain⟨x,M,y,N,H,J,r,d⟩:=n;generalize db a b=p at H J r;have ecl:x.e=y.e:=by
  unfold meshable at d;simp only[I0,C0]at d;exact d.2.1
 refine⟨λf c g O=>?_,λ_ c j=>absurd j (by show ¬(c:Int)∈p.T.take (0:Int).toNat;simp),λ_ s t n c g j=>?_,λ_ s t n c g u=>?_,λ_=>⟨λ_=>rfl,λe=>absurd e (by show ¬(0:Int)=2;decide)⟩,λq P=>?_,λ_ e=>absurd rfl e⟩
 ·rcases C.z f c g O with⟨o,Q,w⟩|⟨K,-⟩
  ·exact .inl ⟨o,Q,w⟩
  rw[D]at K;cases K
 ·have k:=KT B t M (n.trans H)
  subst k;have i:(c:Int)∈p.T:=j;rw[r]at i;have A:=(Bl.1 i).2;unfold rR at A;rw[<-ecl]at A;rw[iy]at d;exact Rz d A
 ·have k:=KT B t N (n.trans J)
  subst k;show(c:Int)∈p.T;rw[r];exact Bl.2 ⟨g,u⟩
 have L:=(C.m1 q P).1;rw[D]at L;cases L
def CI.started{h:ab}(f:aU h [])(a:CI h)(j:h.o=false):CI (started h).1/\Kp h (started h).1:=by
 have g:=f.nums;unfold cu at g;rw[C0]at g;have d:=lS (bg h) (show 0<=h.b8/\h.b8<=1073741823 by omega);cases e:jr (bg h) h.b8 with
 | nil=>
  have c:Ab.started h=({h with b8:=(shuf (bg h).length h.b8).2},false):=by unfold Ab.started;rw[e]
  rw[c];exact⟨⟨a.z,a.jv,a.jd,a.jc,a.jn,a.m1,a.m2⟩,CZ h⟩
 | cons q n=>
  obtain⟨o,p,k⟩:=d q (by rw[e];exact I2 ..);have c:Ab.started h=({h with b8:=(shuf (bg h).length h.b8).2,o:=true,Y:=tt (db (nth (bg h) q.A.toNat) (nth (bg h) q.B.toNat))},true):=by unfold Ab.started;rw[e]
  rw[c];have b:∀s∈bg h,s∈h.J:=λs l=>ng h (X3 _) s (List.mem_of_mem_take l)
  exact⟨CI.begun f a j (b _ (am (xs:=bg h) (i:=q.A.toNat) ω)) (b _ (am (xs:=bg h) (i:=q.B.toNat) ω)) k _,CZ h⟩
def Td(k:af)(a:Int)(f c:Nat):∀m,cl (zK k a m) f c=cl k f c\/(cl (zK k a m) f c=0/\∃j:Nat,j<m/\f=cY k (a+j)/\c=((a+j) % 16).toNat)
 | 0=>.inl rfl
 | m+1=>by
  have e:cY (zK k a m) (a+m)=cY k (a+m):=by unfold cY;rw[(qb k a m).1]
  rcases rx (zK k a m) (a+m) 0 f c with g|⟨b,h,d⟩
  ·rcases Td k a f c m with i|⟨b,j,h,d⟩
   ·exact .inl (g.trans i)
   exact .inr ⟨g.trans b,j,ω,d⟩
  exact .inr ⟨b,m,ω,by rw[<-e];exact h,d⟩
def Gb{k:af}(h:ay k=true){a:Int} : ∀{m:Nat},(∀j:Nat,j<m->(ac k.F.Q ((a+j) / 16)).j≠0)->∀j:Nat,j<m->cl (zK k a m) (cY k (a+j)) ((a+j) % 16).toNat=0
 | 0,_,_,c=>absurd c (Nat.not_lt_zero _)
 | m+1,d,j,c=>by
  have f:=Nj h (a:=a) (m:=m) λj c=>d j ω
  have i:=(qb k a m).1;have e:∀b,cY (zK k a m) b=cY k b:=λb=>by unfold cY;rw[i]
  rcases rx (zK k a m) (a+m) 0 (cY k (a+j)) ((a+j) % 16).toNat with g|⟨l,-⟩
  ·by_cases n:j=m
   ·subst n
    have:=BZ f (a:=a+j) (v:=0) (by rw[i];exact d j ω);rw[e]at this;exact this
   exact g.trans (Gb h (λj c=>d j ω) j ω)
  exact l
def Df{E:List Int}(a:aU h E)(e:o∈h.O){k:Nat}(b:k<h.M.length)(n:o.Addr=16*(nth h.M k).R):o.q=(nth h.M k).q:=by
 have f:=aQ (a.L.lok _ (am b));rcases a.oow _ e with⟨s,g,c,-⟩|⟨l,d,p,i⟩
 ·exact absurd (show s.R=(nth h.M k).R+((0:Nat):Int) by have:=c.1;have:=c.2.1;omega) (a.L.dis s g _ (am b) 0 ω)
 obtain⟨m,j,rfl⟩:=aN d;have:=a.L.one m k j b 0 0 (by have:=aQ (a.L.lok _ d);omega) ω ω;subst this;exact i.symm
variable{α:Type}
def sA[Inhabited α]{xs:List α}{y z:α}(c:i<xs.length):z∈xs.set i y↔z=y\/∃j,j<xs.length/\j≠i/\nth xs j=z:=by
 refine⟨eA,?_⟩
 rintro(rfl|⟨j,d,b,rfl⟩)
 ·have a:=am (xs:=xs.set i z) (i:=i) (by rw[Z1];exact c)
  rw[bt,CD ⟨rfl,c⟩]at a;exact a
 have a:=am (xs:=xs.set i y) (i:=j) (by rw[Z1];exact d);rw[bt,CB (λx=>b x.1.symm)]at a;exact a
def CI.trimH{h:ab}{i k:Nat}{size:Int}(l:aU h [])(hc:CI h)(V:i<h.O.length)(r:k<h.M.length)(W:(nth h.O i).Addr=16*(nth h.M k).R)(hz:9<=size/\size<=(nth h.M k).q):CI (trimH h i k size)/\∀o∈h.O,∀j:Int,0<=j->j<o.q->(o=nth h.O i->j<size)->eC (trimH h i k size).G (o.Addr+j)=eC h.G (o.Addr+j):=by
 obtain⟨b1,b2⟩:=um l r;have M:=l.L.lok _ (am r);have hlp:=aQ M;have hsz:=Df l (am V) r W;have h8:=M;unfold bL at h8;rw[C0]at h8;have N:ay (kS h k size)=true:=yS l r hz (X3 _);have D:(kS h k size).F.Q=h.G.F.Q:=(qb h.G _ _).1;have hN:((dI (nth h.M k) size:Nat):Int)=(nth h.M k).a4 - (size+15) / 16:=by unfold dI;omega
 have hte:((tbl h).K.length:Int)=(h.G.F.Q.K.length:Int):=rfl;have kl:=KL.unmN N (p:=(nth h.M k).R+(size+15) / 16) ω (dI (nth h.M k) size) (by rw[D];omega);have ker:=iM N ((nth h.M k).R+(size+15) / 16) (dI (nth h.M k) size);have A:=(fF (kS h k size) ((nth h.M k).R+(size+15) / 16) (dI (nth h.M k) size)).1;have hcz:=Td h.G (16*(nth h.M k).R+size);have hca:=Gb l.ker (a:=16*(nth h.M k).R+size) (m:=(16*((size+15) / 16) - size).toNat) λj O=>kC l r ⟨ω,ω⟩
 have E:(Ab.trimH h i k size).G=unmN (kS h k size) ((nth h.M k).R+(size+15) / 16) (dI (nth h.M k) size):=rfl;have F:(Ab.trimH h i k size).O=h.O.set i {nth h.O i with q:=size}:=rfl;have P:(Ab.trimH h i k size).J=h.J:=rfl;have Q:(Ab.trimH h i k size).Y=h.Y:=rfl;have R:(Ab.trimH h i k size).o=h.o:=rfl;generalize Ab.trimH h i k size=h' at E F P Q R |-;have G:∀f c,cl (kS h k size) f c=cl h.G f c\/(cl (kS h k size) f c=0/\∃b:Int,16*(nth h.M k).R+size<=b/\b<16*((nth h.M k).R+(size+15) / 16)/\At h.G b f c):=λf c=>by
  rcases hcz f c (16*((size+15) / 16) - size).toNat with g|⟨g,j,w,B,j3⟩
  ·exact .inl g
  refine .inr ⟨g,16*(nth h.M k).R+size+j,ω,ω,?_⟩;have:=At.mk' l.ker (kC l r (a:=16*(nth h.M k).R+size+j) ⟨ω,ω⟩);rw[B,j3];exact this
 have hzv:∀(f c:Nat)(b:Int),16*(nth h.M k).R+size<=b->b<16*((nth h.M k).R+(size+15) / 16)->At h.G b f c->cl (kS h k size) f c=0:=λf c b H X d=>by
  have:=hca (b - (16*(nth h.M k).R+size)).toNat ω;rw[show 16*(nth h.M k).R+size+((b - (16*(nth h.M k).R+size)).toNat:Nat)=b by omega]at this;have e:=At.mk' l.ker d.m;obtain⟨u1,u2⟩:=e.uniq d;rw[u1,u2]at this;exact this
 have pout:∀q:Int,¬((nth h.M k).R+(size+15) / 16<=q/\q<(nth h.M k).R+(nth h.M k).a4)->ac h'.G.F.Q q=ac h.G.F.Q q:=λq Y=>by
  rw[E,kl.out q ω,D]
 rw[<-E]at kl ker A;generalize kS h k size=kz at *;have onL:∀b:Int,16*(nth h.M k).R<=b->b<16*((nth h.M k).R+(nth h.M k).a4)->∀f c:Nat,At h.G b f c->PS h (nth h.O i).Addr f c:=λb H X f c d=>.inr ⟨_,am r,W,b,H,X,d⟩
 have only:∀o∈h.O,∀f c:Nat,qQ h o f c->PS h (nth h.O i).Addr f c->o=nth h.O i:=λo t f c H X=>by
  have e:=xb l (jX l t H) X;obtain⟨m,lm,rfl⟩:=aN t;rw[cR (f:=(·.Addr)) (dt l.osr) lm V e]
 have noS:∀s∈h.J,¬((nth h.M k).R<=s.R/\s.R<(nth h.M k).R+(nth h.M k).a4):=λs J hr=>l.L.dis s J _ (am r) (s.R - (nth h.M k).R).toNat ω ω
 have same:∀f c:Nat,cl h'.G f c≠0->cl h.G f c=cl h'.G f c:=λf c C=>by
  rcases kl.cel f c with e|e
  ·rcases G f c with g|⟨g,-⟩
   ·rw[e,g]
   exact absurd (e.trans g) C
  exact absurd e.1 C
 have stay:∀o∈h.O,∀j:Int,0<=j->j<o.q->(o=nth h.O i->j<size)->∀f c:Nat,At h.G (o.Addr+j) f c->At h'.G (o.Addr+j) f c/\cl h'.G f c=cl h.G f c:=λo t j w B O f c d=>by
  have y:qQ h o f c:=⟨j,w,B,d⟩
  have n:ac h'.G.F.Q ((o.Addr+j) / 16)=ac h.G.F.Q ((o.Addr+j) / 16):=by
   refine pout _ λZ=>?_
   have e:=only o t f c y (onL _ ω ω f c d);have:=O e;rw[e,W]at Z;omega
  have u:At h'.G (o.Addr+j) f c:=⟨by rw[n];exact d.m,by rw[n];exact d.f,d.c⟩
  refine⟨u,?_⟩;rcases kl.cel f c with e|⟨-,e⟩
  ·rcases G f c with g|⟨-,b,g1,g2,S⟩
   ·rw[e,g]
   exfalso;have eo:=only o t f c y (onL b ω ω f c S);have hjs:=O eo;have Y:=mA l (am r) (b:=b) ω ω S d.m d.f;have c1:=d.c;have c2:=S.c;rw[eo,W]at Y c1;omega
  exact absurd u.f (e _ u.m)
 refine⟨hc.keep Q R (λq Y=>?_) (λhm=>?_) (λf c _ C=>.inl (same f c C)) (λo t f c h16 y C=>?_) (λhm c _=>?_) (λ_ s' hs' _=>⟨s',by rw[<-P];exact hs',rfl,rfl,λ_ h=>h⟩),λo t j w B O=>?_⟩
 ·have hq':(nth h'.G.F.Q.K q).j=1:=Y
  have:=kl.md A q ω;rw[D]at this;show(nth h.G.F.Q.K q).j=1;rw[<-this];exact hq'
 ·obtain⟨-,⟨a,ha,T⟩,b,hb,eb⟩:=l.job hm
  exact⟨pout _ λZ=>noS a ha ω,pout _ λZ=>noS b hb ω⟩
 ·obtain⟨j,w,B,d⟩:=y
  by_cases e:o=nth h.O i/\size<=j
  ·exfalso
   obtain⟨e,ej⟩:=e;subst e;by_cases ej2:j<16*((size+15) / 16)
   ·have:=hzv f c ((nth h.O i).Addr+j) ω ω d
    rcases kl.cel f c with g|g
    ·exact C (g.trans this)
    exact C g.1
   refine C (pE ker (λp K hf=>?_) c);by_cases er:(nth h.M k).R+(size+15) / 16<=p/\p<(nth h.M k).R+(nth h.M k).a4
   ·exact K (kl.ins p er.1 ω)
   rw[pout p er]at K hf;have:=mA l (am r) (b:=(nth h.O i).Addr+j) ω ω d K hf;omega
  have st:=stay o t j w B (λU=>by have:¬size<=j:=λx=>e ⟨U,x⟩;omega) f c d;by_cases U:o=nth h.O i
  ·refine⟨{nth h.O i with q:=size},by rw[F];exact(sA V).2 (.inl rfl),j,w,?_,?_⟩
   ·have:¬size<=j:=λx=>e ⟨U,x⟩
    show j<size;omega
   have H:=st.1;rw[U]at H;exact H
  refine⟨o,?_,j,w,B,st.1⟩;rw[F];obtain⟨m,lm,rfl⟩:=aN t;exact(sA V).2 (.inr ⟨m,lm,λx=>U (by rw[x]),rfl⟩)
 ·have key:∀s∈h.J,cl h'.G (b9 h.G s.R) c=cl h.G (b9 h.G s.R) c:=λs J=>by
   have n:(ac (tbl h) s.R).j≠0:=by rw[l.pe J];exact(l.mapped J).2.2
   rcases kl.cel (b9 h.G s.R) c with e|⟨-,e⟩
   ·rcases G (b9 h.G s.R) c with g|⟨-,b,g1,g2,S⟩
    ·rw[e,g]
    have:=mA l (am r) (b:=b) ω ω S (q:=s.R) n (lX l.ker n);exact absurd (show(nth h.M k).R<=s.R/\s.R<(nth h.M k).R+(nth h.M k).a4 by omega) (noS s J)
   have K:=pout s.R λZ=>noS s J ω
   refine absurd ?_ (e s.R (by rw[K];exact n));rw[K];exact lX l.ker n
  obtain⟨-,⟨a,ha,T⟩,b,hb,eb⟩:=l.job hm;rw[<-T,<-eb];exact⟨key a ha,key b hb⟩
 have d:=At.mk' l.ker (cU l t (k:=j) ⟨w,ω⟩).1;obtain⟨s1,s2⟩:=stay o t j w B O _ _ d;rw[s1.cell,d.cell,s2]
def GL[Inhabited α](n j:Nat)(y:α):nth (List.replicate n y) j=y\/nth (List.replicate n y) j=default:=by
 by_cases h:j<n
 ·exact .inl (dG h)
 right
 unfold nth;rw[I3,C3 (by rw[V4];omega)];rfl
def CI.newHeap(p f t:Nat)(lim:Int)(a:List Int):CI (newHeap p f t lim a):=by
 refine⟨λg c b d=>absurd ?_ d,λe=>(by cases e),λe=>(by cases e),λe=>(by cases e),λe=>(by cases e),λq h=>absurd h ?_,λe=>(by cases e)⟩
 ·show nth (nth (List.replicate f (List.replicate 16 (0:Int))) g) c=0
  rcases GL f g (List.replicate 16 (0:Int)) with e|e<;>rw[e]
  ·exact Bj _ _
  rfl
 show ¬(nth (List.replicate p (⟨0,0⟩ : bi)) q).j=1;rcases GL p q (⟨0,0⟩ : bi) with e|e<;>rw[e]
 ·decide
 decide
def iG(k:af)(o:bu):bI:=⟨o.Id,cellsOf k o.Addr o.q.toNat⟩
structure RS(w:br):Prop where
 nx:w.b5.b=w.Z.b
 asc:w.b5.O.Pairwise λa b=>a.Id<b.Id
 mem:∀y,y∈w.b5.O↔∃o∈w.Z.O,y=iG w.Z.G o
def mQ(h:∀j:Int,0<=j->j<n->eC k' (a+j)=eC k (a+j)):cellsOf k' a n=cellsOf k a n:=by
 unfold cellsOf;refine List.map_congr_left λj b=>?_
 have:=List.mem_range.1 b;exact h j ω ω
def gj(h:∀j:Int,0<=j->j<o.q->eC k' (o.Addr+j)=eC k (o.Addr+j)):iG k' o=iG k o:=by
 unfold iG;rw[mQ λj a b=>h j a ω]
def Tm[Inhabited α]{R:α->α->Prop}{xs:List α}(h:xs.Pairwise R){j:Nat}(a:i<j)(b:j<xs.length):R (nth xs i) (nth xs j):=by
 have:=List.pairwise_iff_getElem.1 h i j ω b a;rw[show nth xs i=xs[i] from bh (X2 ω),show nth xs j=xs[j] from bh (X2 b)];exact this
def RS.at{w:br}(b:RS w){o:bu}(c:o∈w.Z.O):∃j:Nat,j<w.b5.O.length/\oY w.b5 o.Id=(j:Nat)/\nth w.b5.O j=iG w.Z.G o:=by
 obtain⟨j,a,e⟩:=aN ((b.mem _).2 ⟨o,c,rfl⟩);refine⟨j,a,dS (ao a) (O0 (by rw[e];rfl)) λm z d f=>W0 ?_,e⟩;have g:=Tm b.asc d a;rw[bh f,e]at g;have h:(iG w.Z.G o).Id=o.Id:=rfl;omega
variable{w:br}
def RS.lt(a:RS w)(b:aU w.Z []):∀y∈w.b5.O,1<=y.Id/\y.Id<w.b5.b:=λy c=>by
 obtain⟨o,d,rfl⟩:=(a.mem y).1 c;have:=b.onu o d;rw[a.nx];show 1<=o.Id/\o.Id<w.Z.b;omega
def RS.keep(b:RS w)(d:h'.O=w.Z.O)(c:Kp w.Z h')(e:h'.b=w.Z.b):RS ⟨h',w.b5⟩:=by
 refine⟨b.nx.trans e.symm,b.asc,λy=>(b.mem y).trans ?_⟩;show _↔∃o∈h'.O,y=iG h'.G o
 constructor
 ·rintro⟨o,f,rfl⟩
  have a:o∈h'.O:=by rw[d];exact f
  exact⟨o,a,(gj (c o a).2).symm⟩
 rintro⟨o,a,rfl⟩
 exact⟨o,(c o a).1,gj (c o a).2⟩
def RS.alloc(e:RS w)(i:aU w.Z []){x:bu}(d:TU w.Z h' x)(k:x.Id=w.Z.b)(g:h'.b=w.Z.b+1)(l:1<=x.q/\x.q<=1000):RS ⟨h',jA w.b5 x.q⟩:=by
 unfold jA;rw[CD l];have h:iG h'.G x = ⟨w.b5.b,List.replicate x.q.toNat 0⟩:=by
  unfold iG;rw[k,e.nx]
  congr 1
  refine List.eq_replicate_iff.2 ⟨iY ..,λb f=>?_⟩;unfold cellsOf at f;obtain⟨j,n,rfl⟩:=O5.1 f;have:=List.mem_range.1 n;exact d.ze j ω ω
 refine⟨by show w.b5.b+1=h'.b;rw[g,e.nx],?_,λy=>?_⟩
 ·refine List.pairwise_append.2 ⟨e.asc,List.pairwise_singleton _ _,λa p b f=>?_⟩
  rw[V1.1 f];exact(e.lt i a p).2
 show y∈w.b5.O++[_]↔∃o∈h'.O,y=iG h'.G o
 rw[W3,V1,e.mem];constructor
 ·rintro(⟨o,c,rfl⟩|rfl)
  ·exact⟨o,(d.mem o).2 (.inr c),(gj (d.ke o c)).symm⟩
  exact⟨x,(d.mem x).2 (.inl rfl),h.symm⟩
 rintro⟨o,c,rfl⟩
 rcases(d.mem o).1 c with rfl|c
 ·exact .inr h
 exact .inl ⟨o,c,gj (d.ke o c)⟩
def RS.free(a:RS w)(p:aU w.Z [])(h:i<w.Z.O.length)(k:h'.O=dele w.Z.O i)(l:Kp w.Z h')(r:h'.b=w.Z.b):RS ⟨h',kb w.b5 (nth w.Z.O i).Id⟩:=by
 obtain⟨j,t,u,n⟩:=a.at (am h);unfold kb;rw[u,CB ω];simp only[O3];refine⟨a.nx.trans r.symm,a.asc.sublist (fh _ _),λy=>?_⟩;show y∈dele w.b5.O j↔∃o∈h'.O,y=iG h'.G o
 rw[dv];constructor
 ·rintro⟨m,c,A,rfl⟩
  obtain⟨o,d,e⟩:=(a.mem _).1 (am c);have b:o∈h'.O:=by
   rw[k];obtain⟨q,g,rfl⟩:=aN d;refine dv.2 ⟨q,g,λx=>A ?_,rfl⟩;subst x;exact cR (f:=(·.Id)) (dt a.asc) c t (by rw[e,n])
  exact⟨o,b,e.trans (gj (l o b).2).symm⟩
 rintro⟨o,b,rfl⟩
 obtain⟨d,B⟩:=l o b;rw[gj B];obtain⟨m,c,e⟩:=aN ((a.mem _).2 ⟨o,d,rfl⟩);refine⟨m,c,λx=>?_,e⟩;subst x;rw[k]at b;obtain⟨q,g,C,rfl⟩:=dv.1 b;exact C (cR (f:=(·.Id)) p.oid g h (Z0 bI.Id (e.symm.trans n)))
def RS.upd(d:RS w)(A:aU w.Z [])(B:i<w.Z.O.length){x':bu}(C:x'.Id=(nth w.Z.O i).Id)(k:∀o,o∈h'.O↔o=x'\/∃m,m<w.Z.O.length/\m≠i/\nth w.Z.O m=o)(t:∀m,m<w.Z.O.length->m≠i->iG h'.G (nth w.Z.O m)=iG w.Z.G (nth w.Z.O m))(D:h'.b=w.Z.b){j:Nat}(l:j<w.b5.O.length)(n:nth w.b5.O j=iG w.Z.G (nth w.Z.O i)):RS ⟨h',{w.b5 with O:=w.b5.O.set j (iG h'.G x')}⟩:=by
 refine⟨d.nx.trans D.symm,?_,λy=>?_⟩
 ·have u:(w.b5.O.map (·.Id)).Pairwise (λa b=>a<b):=List.pairwise_map.2 d.asc
  rw[<-lr (f:=(·.Id)) (y:=iG h'.G x') l (by rw[n];exact C)]at u;exact List.pairwise_map.1 u
 show y∈w.b5.O.set j _↔∃o∈h'.O,y=iG h'.G o
 rw[sA l];constructor
 ·rintro(rfl|⟨m,h,p,rfl⟩)
  ·exact⟨x',(k x').2 (.inl rfl),rfl⟩
  obtain⟨o,r,e⟩:=(d.mem _).1 (am h);obtain⟨q,c,rfl⟩:=aN r;have g:q≠i:=λx=>p (by subst x;exact cR (f:=(·.Id)) (dt d.asc) h l (by rw[e,n]))
  exact⟨_,(k _).2 (.inr ⟨q,c,g,rfl⟩),e.trans (t q c g).symm⟩
 rintro⟨o,r,rfl⟩
 rcases(k o).1 r with rfl|⟨q,c,g,rfl⟩
 ·exact .inl rfl
 rw[t q c g];obtain⟨m,h,e⟩:=aN ((d.mem _).2 ⟨_,am c,rfl⟩);refine .inr ⟨m,h,λx=>g ?_,e⟩;subst x;exact cR (f:=(·.Id)) A.oid c B (Z0 bI.Id (e.symm.trans n))
def RS.store(l:RS w)(g:aU w.Z [])(h:JI w.Z)(n:CI w.Z)(a:i<w.Z.O.length)(p:0<=j/\j<=(nth w.Z.O i).q - 1)(r:0<=v/\v<=999)(t:(ac (tbl w.Z) (((nth w.Z.O i).Addr+j) / 16)).j≠1):RS ⟨{w.Z with G:=dO w.Z.G ((nth w.Z.O i).Addr+j) v},eL w.b5 (nth w.Z.O i).Id j v⟩:=by
 obtain⟨-,d⟩:=CI.store (v:=v) g h n a p t;obtain⟨b,u,A,k⟩:=l.at (am a);have B:(nth w.b5.O b).T.length=(nth w.Z.O i).q.toNat:=by rw[k];exact iY ..
 have C:eL w.b5 (nth w.Z.O i).Id j v = {w.b5 with O:=w.b5.O.set b ⟨(nth w.b5.O b).Id,(nth w.b5.O b).T.set j.toNat v⟩}:=by
  unfold eL;rw[A];simp only[O3];rw[CD ⟨ω,ω,r⟩]
 have D:(⟨(nth w.b5.O b).Id,(nth w.b5.O b).T.set j.toNat v⟩ : bI)=iG (dO w.Z.G ((nth w.Z.O i).Addr+j) v) (nth w.Z.O i):=by
  rw[k];unfold iG;simp only
  congr 1
  refine List.ext_getElem (by simp[cellsOf]) λq K E=>?_
  rw[iY]at E;rw[List.getElem_set];simp only[cellsOf,List.getElem_map,List.getElem_range];have:=d _ (am a) q ω ω;rw[this];by_cases e:j.toNat=q
  ·rw[CD e,CD ⟨rfl,ω⟩]
  rw[CB e,CB (λx=>e ω)]
 rw[C,D];refine RS.upd l g a (h':={w.Z with G:=dO w.Z.G ((nth w.Z.O i).Addr+j) v}) rfl (λo=>?_) (λm c F=>?_) rfl u k
 ·show o∈w.Z.O↔_
  constructor
  ·intro G
   obtain⟨m,c,rfl⟩:=aN G;by_cases e:m=i
   ·subst e;exact .inl rfl
   exact .inr ⟨m,c,e,rfl⟩
  rintro(rfl|⟨m,c,-,rfl⟩)
  ·exact am a
  exact am c
 refine gj λx H J=>?_
 show eC (dO w.Z.G _ v) _=_;rw[d _ (am c) x H J,CB (λy=>F (cR (f:=(·.Addr)) (dt g.osr) c a (by rw[y.1])))]
variable{m:Nat}
def Ec(k:af)(a:Int)(h:m<=n):(cellsOf k a n).take m=cellsOf k a m:=by
 unfold cellsOf;rw[<-C5,List.take_range,Nat.min_eq_left h]
def RS.trim(g:RS w)(d:aU w.Z [])(p:CI w.Z){k:Nat}(a:i<w.Z.O.length)(h:k<w.Z.M.length)(l:(nth w.Z.O i).Addr=16*(nth w.Z.M k).R)(q:9<=size/\size<=(nth w.Z.M k).q):RS ⟨trimH w.Z i k size,fV w.b5 (nth w.Z.O i).Id size⟩:=by
 obtain⟨-,c⟩:=CI.trimH d p a h l q;have r:=Df d (am a) h l;obtain⟨b,t,u,e⟩:=g.at (am a);have A:(nth w.b5.O b).T.length=(nth w.Z.O i).q.toNat:=by rw[e];exact iY ..
 have B:fV w.b5 (nth w.Z.O i).Id size = {w.b5 with O:=w.b5.O.set b ⟨(nth w.b5.O b).Id,(nth w.b5.O b).T.take size.toNat⟩}:=by
  unfold fV;rw[u];simp only[O3];rw[CD ⟨ω,ω,ω⟩]
 have C:(⟨(nth w.b5.O b).Id,(nth w.b5.O b).T.take size.toNat⟩ : bI)=iG (trimH w.Z i k size).G {nth w.Z.O i with q:=size}:=by
  rw[e];unfold iG;simp only;rw[Ec _ _ ω]
  congr 1
  refine(mQ λj D H=>?_).symm;exact c _ (am a) j D ω λ_=>ω
 rw[B,C];refine RS.upd g d a (h':=trimH w.Z i k size) (x':={nth w.Z.O i with q:=size}) rfl (λo=>sA a) (λm n E=>?_) rfl t e;refine gj λx F G=>c _ (am n) x F G λy=>absurd (cR (f:=(·.Addr)) (dt d.osr) n a (by rw[y])) E
def GO(h:ab)(i:Nat)(a:Int):(freeS h i a).b=h.b:=by unfold freeS;split<;>rfl
def MJ(t:Nat)(h:ab)(a:Int):(recyc t h a).b=h.b:=by
 unfold recyc;split
 ·rfl
 exact GO h (uI h a) a
def uQ(t:Nat):∀(az:List Int)(h:ab),(recycs t h az).b=h.b
 | [],_=>rfl
 | a::az,h=>(uQ t az (recyc t h a)).trans (MJ t h a)
def vk:∀(az:List Int)(h:ab),(freeAs h az).b=h.b
 | [],_=>rfl
 | a::az,h=>(vk az (freeA h a)).trans (GO h (uI h a) a)
def uZ(t:Nat)(h:ab):∀k,(flushN t h k).1.b=h.b/\(flushN t h k).1.O=h.O
 | 0=>⟨rfl,rfl⟩
 | k+1=>by
  obtain⟨a,b⟩:=uZ t h k;exact⟨(vk _ _).trans a,(gk _ _).2.1.trans b⟩
def Ff(h:ab)(t i:Nat):(Gm h t i).b=h.b/\(Gm h t i).O=dele h.O i:=⟨uQ _ _ _,(ia _ _ _).2.1⟩
def Hs(h:ab)(t i:Nat):(freeT h t i).1.b=h.b/\(((freeT h t i).2=0/\(freeT h t i).1.O=dele h.O i)\/((freeT h t i).2=5/\(freeT h t i).1=h)):=by
 unfold freeT
 repeat' split
 ·exact⟨rfl,.inl ⟨rfl,rfl⟩⟩
 ·exact⟨rfl,.inr ⟨rfl,rfl⟩⟩
 ·exact⟨(Ff h t i).1,.inl ⟨rfl,(Ff h t i).2⟩⟩
 ·exact⟨rfl,.inl ⟨rfl,rfl⟩⟩
 exact⟨rfl,.inr ⟨rfl,rfl⟩⟩
def Jo(h:ab):∀n,(stN h n).1.b=h.b/\(stN h n).1.O=h.O
 | 0=>⟨rfl,rfl⟩
 | n+1=>by
  obtain⟨a,b⟩:=Jo h n;unfold stN;split
  ·exact⟨a,b⟩
  exact⟨a,b⟩
def CI.stN{h:ab}(a:aU h [])(b:JI h)(c:CI h):∀n,CI (stN h n).1/\Kp h (stN h n).1
 | 0=>⟨c,CZ h⟩
 | n+1=>by
  obtain⟨g,i⟩:=yY a b n;obtain⟨d,f⟩:=CI.stN a b c n;unfold Ab.stN;split
  ·rename_i e
   unfold u9 at e;rw[I0]at e;obtain⟨j,k⟩:=CI.mStep g i d e.1;exact⟨j,f.trans k⟩
  exact⟨d,f⟩
def od(h:ab):(started h).1.b=h.b/\(started h).1.O=h.O:=by
 unfold started;split<;>exact⟨rfl,rfl⟩
structure CW(w:br):Prop where
 ci:CI w.Z
 rs:RS w
def CW.keep(h:CW w){g:ab}(a:CI g/\Kp w.Z g)(b:g.O=w.Z.O)(c:g.b=w.Z.b):CW ⟨g,w.b5⟩:=⟨a.1,h.rs.keep b a.2 c⟩
def CW.obj(h:sv w m)(c:CW w)(a:fg)(b:i<w.Z.O.length):CW (nJ w a i).1:=by
 unfold nJ;split
 ·unfold tJ
  split
  ·exact c
  split
  ·rename_i q
   unfold oq at q;have l:=CI.freeT (t:=a.a5.toNat) h.inv h.ji c.ci b ω;obtain⟨r,u⟩:=Hs w.Z a.a5.toNat i;refine⟨l.1,?_⟩;show RS ⟨(freeT w.Z a.a5.toNat i).1,if _ then _ else _⟩;rcases u with⟨f,d⟩|⟨f,d⟩
   ·rw[CD f];exact c.rs.free h.inv b d l.2 r
   rw[CB (by rw[f];decide),d];exact c.rs
  exact c
 split
 ·unfold p9
  split
  ·exact c
  rename_i g;split
  ·exact c
  rename_i n;split
  ·exact c
  rename_i j;have g:=Classical.not_not.1 g;have j:=Classical.not_not.1 j;exact⟨(CI.store h.inv h.ji c.ci b g n).1,RS.store c.rs h.inv h.ji c.ci b g j n⟩
 unfold sO;split
 ·rename_i e
  obtain⟨-,f,d⟩:=e;obtain⟨o,y,A⟩:=fX _ _ f;have k:=of_decide_eq_true y;have p:=k.symm.trans (Int.mul_comm _ _);exact⟨(CI.trimH h.inv c.ci b o p d).1,RS.trim c.rs h.inv c.ci b o p d⟩
 exact c
def CW.thread(h:sv w m)(c:CW w)(a:fg):CW ⟨(gG w.Z a).1,w.b5⟩:=by
 have b:=c.ci;unfold gG;split
 ·split
  ·exact CW.keep (g:={w.Z with y:=gu w.Z.y a.a5.toNat}) c ⟨⟨b.z,b.jv,b.jd,b.jc,b.jn,b.m1,b.m2⟩,CZ w.Z⟩ rfl rfl
  exact c
 split
 ·exact c
 rename_i e;have e:=Classical.not_not.1 e;obtain⟨-,i⟩:=e;unfold oq at i;split
 ·exact c.keep (CI.collect (t:=a.a5.toNat) h.inv b ω) (ia _ _ _).2.1 (uQ _ _ _)
 have j:a.a5.toNat<w.Z.S.length:=ω
 have f:=CI.flushN h.inv j b (X3 4);have d:=uZ a.a5.toNat w.Z 4;generalize flushN a.a5.toNat w.Z 4=r at f d |-;exact CW.keep (g:=r.1) c f d.2 d.1
def CW.act(h:sv w m)(c:CW w)(a:fg):CW (pv w a).1:=by
 unfold pv;split
 ·have b:=CI.allocH (t:=a.a5) (size:=a.N) h.inv h.ji c.ci
  refine⟨b.ci,?_⟩;show RS ⟨(allocH w.Z a.a5 a.N).1,if _ then _ else _⟩;split
  ·rename_i e
   obtain⟨d,f,g,i,-⟩:=b.yes e;exact RS.alloc (x:=⟨w.Z.b,(allocH w.Z a.a5 a.N).2.1,a.N,a.a5⟩) c.rs h.inv d rfl f ⟨g,i⟩
  rename_i e;obtain⟨j,k,l,-⟩:=b.no e;exact c.rs.keep j k l
 split
 ·split
  ·exact c
  rename_i e;exact c.obj h a (fX _ _ (by unfold qX at e;omega)).1
 split
 ·exact c.thread h a
 split
 ·unfold qz
  split
  ·rename_i e
   exact c.keep (CI.tick h.inv c.ci e.2.1.1 e.2.2) (gk _ _).2.1 (vk _ _)
  exact c
 split
 ·unfold q8
  split
  ·exact c
  rename_i e;exact c.keep (CI.started h.inv c.ci (by simpa using e)) (od _).2 (od _).1
 split
 ·exact c.keep (CI.stN h.inv h.ji c.ci _) (Jo _ _).2 (Jo _ _).1
 exact c
def Me(c:cT):CW (world0 c):=⟨CI.newHeap ..,rfl,List.Pairwise.nil,λy=>⟨λh=>(by cases h),λ⟨_,h,_⟩=>(by cases h)⟩⟩
def NN{c:cT}(h:HG c)(acts:List fg):∀n,CW (DL c acts n).1
 | 0=>Me c
 | n+1=>(NN h acts n).act (xV h acts n) _
def Pz(zs:List Int):CW (drawn zs):=NN (tH (X0 _)).1 _ _
def sm{α:Type}(f:α->Int):List α->Int
 | []=>0
 | a::l=>f a+sm f l
open Go.RowKit
set_option maxRecDepth 20000
set_option maxHeartbeats 4000000
set_option maxHeartbeats 2000000
def LT(b:aU h []):(gN h).length=h.O.length:=by
 have c:=λo a=>b.onu o a
 unfold gN;rw[CD b.to,vP (λo a=>by have:=c o a;omega),List.filter_eq_self.2];intro o a;have:=c o a;exact O0 ω
def cells1(xs:List Int)(i:Nat)(h:i<xs.length):[rI .W (nth xs i)]=((xs.map (rI .W)).take (i+1)).drop i:=by
 rw[List.drop_take,<-I5,iD h,show i+1 - i=1 by omega]
 rfl
def Er(k:af)(j:co)(c:ay k=true)(D:jH j=true):zzA 493 false [.val (some 5) (af.enc .W k),.val (some 5) (co.enc .W j)] (.tup [some 5,some 5]) (af.enc .own (ed k j).1++co.enc .own (ed k j).2):=by
 obtain⟨F,Y,Z,Q,j6⟩:=cN.1 D;have R:=lD F;have y:=bj c;have g:=gC k y;have l:=sF j (vj D);have b:=j8 k y;rw[c,Bool.and_true]at b;have o:=zw j (vj D);rw[D]at o;have d:=fD k j.X.a2 y.1.2;have p:=fD k j.X.a0 y.1.2;have r:=dL k.F.Q j.X.a2 y.1.2;have t:=dL k.F.Q j.X.a0 y.1.2;have L:=(bo.1 (a7.1 c).2.2.1).2.2;have S:=(aO.1 (a7.1 c).2.1).2.2.1;have q:jmay k j=false->ed k j=(k,j):=λe=>by unfold ed;rw[e];rfl
 refine fO 149 [(1,262,[11,12,13,14,15,16,0,1,2,3,4,5,6,1003,1004,1005,7]),(2,6,[17,18,19,20,8,9]),(3,33,[21,22,23,24,25,26,27,28,29,30,31,32,33,34,35,36,37,38,39,40,41,42,43,44,45,46,47,48,49,50,51,52,53]),(4,258,[56,57,0,1,2,1001,3]),(15,272,[82,83,84,85,86,87,88,89,90,91,92,93,94,81,95,96,0,1,2,3,4,5,6,7,8,9,10,11,12,13,14,15,16,1015]),(25,273,[123,124,125,126,127,128,129,130,131,132,133,134,135,122,136,137,138,0,1,2,3,4,5,6,7,8,9,10,11,12,13,14,15,16,17,1015]),(29,258,[147,148,0,1,2,1001,3])] Tryz.func493 rfl ?_ (.inr (aG (Cf _) (co.enc_fr _)));by_cases u:k.Calls=100000
 ·rw[W0 (λn=>n u)]at b
  rw[q (by rw[<-X6,hC];exact λh=>h.1.2 u)]
  repeat'(first|refine gP ?_|(conv=>whnf);first|refine CC ?_|refine C9 (g) ?_|refine C9 (l) ?_|refine C9 (b) ?_|refine CC ?_)
  rfl
 rw[O0 u]at b;by_cases B:(ac k.F.Q j.X.a2).j=0
 ·rw[W0 (λn=>n B)]at d
  rw[q (by rw[<-X6,hC];exact λh=>h.2.2.1 B)]
  repeat'(first|refine gP ?_|(conv=>whnf);first|refine CC ?_|refine C9 (g) ?_|refine C9 (l) ?_|refine C9 (b) ?_|refine C9 (o) ?_|refine C9 (d) ?_|refine CC ?_)
  rfl
 rw[O0 B]at d;by_cases w:(ac k.F.Q j.X.a0).j=0
 ·rw[W0 (λn=>n w)]at p
  rw[q (by rw[<-X6,hC];exact λh=>h.2.2.2.1 w)]
  repeat'(first|refine gP ?_|(conv=>whnf);first|refine CC ?_|refine C9 (g) ?_|refine C9 (l) ?_|refine C9 (b) ?_|refine C9 (o) ?_|refine C9 (d) ?_|refine C9 (p) ?_|refine CC ?_)
  rfl
 rw[O0 w]at p;by_cases G:(ac k.F.Q j.X.a2).d=(ac k.F.Q j.X.a0).d
 ·rw[q (by rw[<-X6,hC];exact λh=>h.2.2.2.2 G)]
  repeat'(first|refine gB ?_|(conv=>whnf);first|refine CC ?_|refine C9 (g) ?_|refine C9 (l) ?_|refine C9 (b) ?_|refine C9 (o) ?_|refine C9 (d) ?_|refine C9 (p) ?_|refine C9 (r) ?_|refine C9 (t) ?_|refine CC ?_)
  rfl
 have T:jmay k j=true:=hC.2 ⟨⟨c,u⟩,D,B,w,G⟩;rw[show ed k j=jstep k j by unfold ed;rw[T];rfl];have H:j.X.a0≠j.X.a2:=λe=>G (by rw[e])
 unfold jstep;by_cases M:j.b1=0
 ·rw[CD M]
  have a:=qK k j.X.a0 1 c u w (.inl rfl);cases e:(fw k j.X.a0 1).2<;>rw[e]at a
  all_goals
   repeat'(first|refine gB ?_|(conv=>whnf);first|refine CC ?_|refine C9 (g) ?_|refine C9 (l) ?_|refine C9 (b) ?_|refine C9 (o) ?_|refine C9 (d) ?_|refine C9 (p) ?_|refine C9 (r) ?_|refine C9 (t) ?_|refine C9 (a) ?_|refine CC ?_)
   rfl
 rw[CB M];by_cases N:j.b1=1
 ·rw[CD N]
  by_cases E:j.b=j.X.T.length
  ·rw[CD E]
   repeat'(first|refine gB ?_|(conv=>whnf);first|refine CC ?_|refine C9 (g) ?_|refine C9 (l) ?_|refine C9 (b) ?_|refine C9 (o) ?_|refine C9 (d) ?_|refine C9 (p) ?_|refine C9 (r) ?_|refine C9 (t) ?_|refine CC ?_)
   rfl
  rw[CB E];obtain⟨n,C⟩:=V3 Q;have a:=HK k j.X.a0 j.X.a2 (nth j.X.T j.b.toNat) c u w B (f8 F ω);rw[C,O3]at a;have J:n<j.X.T.length:=ω
  rw[show nth j.X.T j.b.toNat=nth j.X.T n by rw[C];rfl]
  repeat'(first|refine gB ?_|(conv=>whnf);first|refine CC ?_|refine C9 (g) ?_|refine C9 (l) ?_|refine C9 (b) ?_|refine C9 (o) ?_|refine C9 (d) ?_|refine C9 (p) ?_|refine C9 (r) ?_|refine C9 (t) ?_|refine Sl.mid (rows':=[rI .W (nth j.X.T n)]) n (n+1) C ω ω (by rw[I1];omega) (aM λ_=>rfl) (cells1 _ _ J) ?_|refine C9 (a) ?_|refine CC ?_)
  rfl
 rw[CB N];by_cases O:j.b1=2
 ·rw[CD O]
  have a:=Fk k j.X.a0 j.X.a2 c u w B H;cases e:(qT k j.X.a0 j.X.a2).2<;>rw[e]at a
  all_goals
   repeat'(first|refine gB ?_|(conv=>whnf);first|refine CC ?_|refine C9 (g) ?_|refine C9 (l) ?_|refine C9 (b) ?_|refine C9 (o) ?_|refine C9 (d) ?_|refine C9 (p) ?_|refine C9 (r) ?_|refine C9 (t) ?_|refine C9 (a) ?_|refine CC ?_)
   rfl
 rw[CB O];by_cases K:j.b1=3
 ·rw[CD K]
  obtain⟨p1,p2,p3,U,p5⟩:=bD c B;by_cases E:0<j.b
  ·rw[CD E]
   have P:=f8 F (i:=(j.b - 1).toNat) ω;have V:=ao (xs:=j.X.T) (i:=(j.b - 1).toNat) ω;have W:0<=j.X.a2*16+nth j.X.T (j.b - 1).toNat/\j.X.a2*16+nth j.X.T (j.b - 1).toNat<512:=ω
   have X:(j.X.a2*16+nth j.X.T (j.b - 1).toNat) / 16=j.X.a2:=ω
   have a:=Jp k.F (j.X.a2*16+nth j.X.T (j.b - 1).toNat) 0 (nr c) y.1 W ω (λ_=>by rw[X];exact⟨U,ω,row16 c (f:=b9 k j.X.a2) (by unfold b9;omega)⟩);generalize (fQ k.F (j.X.a2*16+nth j.X.T (j.b - 1).toNat) 0).1=m at a |-;generalize (fQ k.F (j.X.a2*16+nth j.X.T (j.b - 1).toNat) 0).2=e at a
   repeat'(first|refine gB ?_|(conv=>whnf);first|refine CC ?_|refine C9 (g) ?_|refine C9 (l) ?_|refine C9 (b) ?_|refine C9 (o) ?_|refine C9 (d) ?_|refine C9 (p) ?_|refine C9 (r) ?_|refine C9 (t) ?_|refine C9 (a) ?_|refine CN ω (aa V) ?_|refine CC ?_)
   rfl
  rw[CB E];have a:=qK k j.X.a0 2 c u w (.inr rfl);cases e:(fw k j.X.a0 2).2<;>rw[e]at a
  all_goals
   repeat'(first|refine gB ?_|(conv=>whnf);first|refine CC ?_|refine C9 (g) ?_|refine C9 (l) ?_|refine C9 (b) ?_|refine C9 (o) ?_|refine C9 (d) ?_|refine C9 (p) ?_|refine C9 (r) ?_|refine C9 (t) ?_|refine C9 (a) ?_|refine CC ?_)
   first|rfl|(rw[<-K];rfl)
 rw[CB K]
 repeat'(first|refine gB ?_|(conv=>whnf);first|refine CC ?_|refine C9 (g) ?_|refine C9 (l) ?_|refine C9 (b) ?_|refine C9 (o) ?_|refine C9 (d) ?_|refine C9 (p) ?_|refine C9 (r) ?_|refine C9 (t) ?_|refine CC ?_)
 rfl
def Ut(h:ab):Int:=(ed h.G h.Y).2.b1
def zO(h:ab)(l:aU h [])(n:h.o=true)(o:ab.sml h)(t:h.G.Calls<=99000):zzA 387 false [.val (some 24) (ab.enc .W h)] (.tup [some 24,none,none]) (ab.enc .own (mStep h)++[I (Ut h),B true]):=by
 obtain⟨q,-,-⟩:=l.job n;have i:=rq h o;have c:=fI h o;rw[iw,l.to]at c;have j:=Er h.G h.Y l.ker q;have a:=aG (b:=[I (Ut h),B true]) (ab.enc_fr (mStep h)) ⟨trivial,trivial,trivial⟩;unfold Ut mStep at a |-;generalize ed h.G h.Y=r at j a |-;have d:(ab.enc .W h)=(ab.enc .W h).set 18 (B true):=by rw[<-n];rfl
 rw[d];rw[d]at i c;by_cases e:r.2.b1=4
 ·rw[CD (show over r.2=true from O0 (.inl e)),CD (show over r.2=true from O0 (.inl e))]at a |-
  refine fO 51 [(3,260,[23,24,25,26,0,1,2,3,4,1001,1002,1003,5,6])] Tryz.func387 rfl ?_ (.inr a)
  repeat'((conv=>whnf);first|with_reducible (first|refine Lm ?_|refine Wm ω ?_|refine dF ω (λg=>?_)|refine eT ω (λg=>?_)|refine eF ω (λg=>?_)|refine Bn ?_|refine jm.wk rfl ?_)|refine Bt ?_|refine Bu ?_|refine CC ?_|refine C9 (i) ?_|refine C9 (c) ?_|refine C9 (j) ?_|refine CC ?_)
  rw[e];exact wC
 by_cases k:r.2.b1=5
 ·rw[CD (show over r.2=true from O0 (.inr k)),CD (show over r.2=true from O0 (.inr k))]at a |-
  refine fO 51 [(3,260,[23,24,25,26,0,1,2,3,4,1001,1002,1003,5,6])] Tryz.func387 rfl ?_ (.inr a)
  repeat'((conv=>whnf);first|with_reducible (first|refine Lm ?_|refine Wm ω ?_|refine dF ω (λg=>?_)|refine eT ω (λg=>?_)|refine eF ω (λg=>?_)|refine Bn ?_|refine jm.wk rfl ?_)|refine Bt ?_|refine Bu ?_|refine CC ?_|refine C9 (i) ?_|refine C9 (c) ?_|refine C9 (j) ?_|refine CC ?_)
  rw[k];exact wC
 have p:¬over r.2=true:=by unfold over;simp[e,k]
 rw[CB p,CB p]at a |-;refine fO 51 [(3,260,[23,24,25,26,0,1,2,3,4,1001,1002,1003,5,6])] Tryz.func387 rfl ?_ (.inr a)
 repeat'(first|refine gB ?_|(conv=>whnf);first|refine CC ?_|refine C9 (i) ?_|refine C9 (c) ?_|refine C9 (j) ?_|refine CC ?_)
 rw[n]
 rfl
def LW(a:(fo h i).1.o=true):fo h (i+1)=(mStep (fo h i).1,lH (fo h i).1):=by
 show(if(fo h i).1.o=true then _ else _)=_;rw[CD a]
def se{t:Nat}{h:ab} : ∀k,(flushN t h k).1.G.u=h.G.u
 | 0=>rfl
 | k+1=>((gk (nth (nth (flushN t h k).1.S t).a k) (spilt (flushN t h k).1 t k)).2.2.2.2.2.2.2).trans (se k)
def AW(h:ab):Nat->ab
 | 0=>h
 | t+1=>(flushN t (AW h t) 4).1
structure UU(h g:ab):Prop where
 inv:aU g []
 caches:g.S.length=h.S.length
 calls:g.G.Calls=h.G.Calls
 ref:g.G.u=h.G.u
 mail:g.y=h.y
def MY{h:ab}(a:aU h []):∀t,t<=h.S.length->UU h (AW h t)
 | 0,_=>⟨a,rfl,rfl,rfl,rfl⟩
 | t+1,f=>by
  have s:=MY a t ω;obtain⟨b,c,d,g,e,i,j⟩:=fS s.inv (t:=t) (by rw[s.caches];omega) (k:=4) (X3 4);exact⟨b,c.trans s.caches,d.trans s.calls,(se 4).trans s.ref,e.trans s.mail⟩
def Kj(h:ab)(most:Int):Bool:=cJ h&&(decide (h.G.Calls<=90000)&&decide (0<=most/\most<=20))
def relieve(h:ab)(most:Int):ab × Int:=
 if Kj h most=true then((iq (AW h h.S.length) most.toNat).1,bm h.G.F.U - bm (iq (AW h h.S.length) most.toNat).1.G.F.U) else(h,0)
def kh(f:aW)(h:f.a3.length<=32):0<=bm f/\bm f<=32:=by
 have a:∀n:Nat,0<=eU f.a3 n/\eU f.a3 n<=n:=λn=>by
  induction n with
  | zero=>exact⟨I6 _,I6 _⟩
  | succ n b=>simp only[eU];split<;>omega
 have:=a f.a3.length;unfold bm;split<;>omega
def AP{a:List Bool}{j:Nat}(d:nth a j=true):∀n,n<=a.length->eU (a.set j false) n=eU a n - (if j<n then 1 else 0)
 | 0,_=>by rw[CB ω];rfl
 | n+1,h=>by
  have c:=AP d n ω;by_cases e:j=n
  ·subst e
   rw[nv (by rw[bt,CD ⟨rfl,ω⟩]),jP d,c,CB ω,CD ω];omega
  have f:nth (a.set j false) n=nth a n:=by rw[bt,CB (λx=>e x.1)]
  cases b:nth a n with
  | true=>
   rw[jP (f.trans b),jP b,c];split<;>split<;>omega
  | false=>
   rw[nv (f.trans b),nv b,c];split<;>split<;>omega
def x8{b a:List Bool} : ∀n,(∀f,f<n->nth a f=true->nth b f=true)->eU a n<=eU b n
 | 0,_=>I6 _
 | n+1,h=>by
  have c:=x8 n λf d=>h f ω
  cases e:nth a n with
  | true=>rw[jP e,jP (h n ω e)];omega
  | false=>
   rw[nv e];show _<=eU b n+_;split<;>omega
def wY(a:ay k=true):bm k.F.U=eU k.F.U.a3 k.F.U.a3.length:=by
 unfold bm;rw[CD (a7.1 a).2.1]
def xP(w:aU h [])(b:JI h)(j:h.o=true):(ed h.G h.Y).1.F.U.a3=if lH h=true then h.G.F.U.a3.set (b9 h.G h.Y.X.a0) false else h.G.F.U.a3:=by
 have c:=JP.of w b j;have D:=b.ph j;unfold lH ed;by_cases a:jmay h.G h.Y=true;rotate_left
 ·rw[CB a,CB (by simp only[C0];omega)]
 rw[CD a];unfold jstep;by_cases y:h.Y.b1=0
 ·rw[CD y]
  have l:decide ((if(fw h.G h.Y.X.a0 1).2=true then(1:Int) else 5)=4)=false:=by split<;>decide
  show(fw h.G h.Y.X.a0 1).1.F.U.a3=if decide ((if(fw h.G h.Y.X.a0 1).2=true then(1:Int) else 5)=4)=true then _ else _
  rw[l,CB (by decide)];unfold fw;split<;>rfl
 rw[CB y];by_cases A:h.Y.b1=1
 ·rw[CD A]
  split
  ·rw[CB (by simp)]
  rw[CB (by simp only[C0];omega)];rfl
 rw[CB A];by_cases B:h.Y.b1=2
 ·rw[CD B]
  simp only;have C:h.G.Calls≠100000:=by unfold jmay at a;simp only[I0,C0]at a;exact a.1.2
  cases d:(qT h.G h.Y.X.a0 h.Y.X.a2).2 with
  | false=>
   rw[CB (by simp),H4 d];rfl
  | true=>
   rw[CD (by simp)];have f:=E4 w.ker (p:=h.Y.X.a0) (o:=h.Y.X.a2) c.mm d;unfold qT at d |-;by_cases e:refd h.G=true
   ·rw[CD e]at d;cases d
   rw[CB e];simp only;obtain⟨L,M,E⟩:=lM c.mm;obtain⟨N,O,G⟩:=lM c.km;have H:(nth h.G.F.Q.K h.Y.X.a0.toNat).d=(b9 h.G h.Y.X.a0:Nat):=by
    rw[show nth h.G.F.Q.K h.Y.X.a0.toNat=nth (tbl h).K h.Y.X.a0.toNat from rfl,<-E];exact c.mf
   have J:(nth h.G.F.Q.K h.Y.X.a2.toNat).d=(b9 h.G h.Y.X.a2:Nat):=by
    rw[show nth h.G.F.Q.K h.Y.X.a2.toNat=nth (tbl h).K h.Y.X.a2.toNat from rfl,<-G];exact c.kf
   unfold fE;rw[CD ?_]
   ·show h.G.F.U.a3.set _ false=_
    rw[H,O3]
   refine Classical.byContradiction λn=>?_
   obtain⟨q,P,r,g⟩:=dn.1 (Nat.pos_of_ne_zero n);have i:=(f q).2;unfold qT at i;rw[CB e]at i;simp only at i;have t:∀(k:af)(F:Int),(fE k F).F.Q=k.F.Q:=λk F=>by unfold fE;split<;>rfl
   rw[t]at i;rw[i]at r g;by_cases u:(q:Int)=h.Y.X.a0
   ·rw[CD u]at g
    have Q:(nth h.G.F.Q.K h.Y.X.a2.toNat).d=(nth h.G.F.Q.K h.Y.X.a0.toNat).d:=g;exact c.ne ω
   rw[CB u]at r g;exact u (b.sm j q r g)
 rw[CB B];have K:h.Y.b1=3:=ω
 rw[CD K];split
 ·rw[CB (by simp only[C0];omega)]
  simp only;unfold fQ
  repeat' split
  all_goals rfl
 have l:decide ((if(fw h.G h.Y.X.a0 2).2=true then(5:Int) else 3)=4)=false:=by split<;>decide
 show(fw h.G h.Y.X.a0 2).1.F.U.a3=if decide ((if(fw h.G h.Y.X.a0 2).2=true then(5:Int) else 3)=4)=true then _ else _
 rw[l,CB (by decide)];unfold fw;split<;>rfl
def Hx(b:aU h [])(a:JI h)(c:h.o=true):bm (mStep h).G.F.U=bm h.G.F.U - ((lH h).toNat:Nat):=by
 obtain⟨d,-⟩:=b.mStep a c;have f:=JP.of b a c;rw[wY d.ker,wY b.ker];have e:=xP b a c;have g:(mStep h).G=(ed h.G h.Y).1:=rfl;rw[g,e];cases j:lH h with
 | false=>rw[CB (by simp)];show _=_ - ((0:Nat):Int);omega
 | true=>
  obtain⟨k,i,-⟩:=gn b.ker (p:=h.Y.X.a0) f.mm;obtain⟨-,l,n,-⟩:=aO.1 (a7.1 b.ker).2.1;rw[CD rfl,Z1,AP i _ (X3 _),CD ω]
  rfl
structure MX(h g:ab)(n:Nat):Prop where
 inv:aU g []
 ji:JI g
 ci:CI g
 kp:Kp h g
 ob:g.O=h.O
 nx:g.b=h.b
 fr:g.w=h.w
 pg:eZ g=eZ h
 rf:g.G.u=h.G.u
 ca:g.S=h.S
 ml:g.y=h.y
 us:bm g.G.F.U=bm h.G.F.U - n
 ul:g.G.F.U.a3.length=h.G.F.U.a3.length
def MX.refl(b:aU h [])(a:JI h)(c:CI h):MX h h 0:=⟨b,a,c,CZ h,rfl,rfl,rfl,rfl,rfl,rfl,rfl,ω,rfl⟩
def MX.trans{h1 c:ab}(a:MX h h1 n)(b:MX h1 c m):MX h c (n+m):=
 ⟨b.inv,b.ji,b.ci,a.kp.trans b.kp,b.ob.trans a.ob,b.nx.trans a.nx,b.fr.trans a.fr,b.pg.trans a.pg,b.rf.trans a.rf,b.ca.trans a.ca,b.ml.trans a.ml,by rw[b.us,a.us];omega,b.ul.trans a.ul⟩
def MX.step(b:aU h [])(a:JI h)(d:CI h)(c:h.o=true):MX h (mStep h) (lH h).toNat:=by
 obtain⟨e,f⟩:=b.mStep a c;obtain⟨g,i⟩:=CI.mStep b a d c;have s:=JS.of b c;exact⟨e,f,g,i,rfl,rfl,rfl,s.len,s.calls.2.2,rfl,rfl,Hx b a c,by
   show(ed h.G h.Y).1.F.U.a3.length=_;rw[xP b a c];split<;>simp⟩
def DH(h:ab):(started h).1.G=h.G/\(started h).1.w=h.w/\(started h).1.S=h.S/\(started h).1.y=h.y:=by
 unfold started;split<;>exact⟨rfl,rfl,rfl,rfl⟩
def MX.started{h:ab}(b:aU h [])(d:CI h)(c:h.o=false):MX h (started h).1 0:=by
 obtain⟨e,f⟩:=yl b c;obtain⟨g,i⟩:=CI.started b d c;obtain⟨a,j,k,l⟩:=DH h;exact⟨e,f,g,i,(od h).2,(od h).1,j,by unfold eZ;rw[a],by rw[a],k,l,by rw[a];omega,by rw[a]⟩
def MX.meshSt{h:ab}(b:aU h [])(a:JI h)(c:CI h):MX h (meshSt h).1 0:=by
 unfold Ab.meshSt;split
 ·rename_i e;exact MX.started b c e.1
 exact MX.refl b a c
def Kv{h:ab}(b:aU h [])(a:JI h)(c:CI h):∀n,MX h (fo h n).1 (fo h n).2.toNat/\((fo h n).2=true->(fo h n).1.o=false)
 | 0=>⟨MX.refl b a c,λe=>(by cases e)⟩
 | n+1=>by
  obtain⟨s,d⟩:=Kv b a c n;unfold fo;split
  ·rename_i e
   have g:(fo h n).2=false:=by
    cases i:(fo h n).2 with
    | false=>rfl
    | true=>rw[d i]at e;cases e
   rw[g]at s;have t:=MX.step s.inv s.ji s.ci e;have f:=s.trans t;simp only[Bool.toNat_false,O8]at f;refine⟨f,λj=>?_⟩;exact(rJ s.inv e).2.2.2.2.1 j
  exact⟨s,d⟩
def PI(b:aU h [])(a:JI h)(c:CI h):MX h (fin h).1 (fin h).2.toNat:=by
 unfold fin;exact(Kv b a c 100).1
def KX{h:ab}(b:aU h [])(a:JI h)(c:CI h):∀n,MX h (iq h n).1 (iq h n).2
 | 0=>by
  have e:iq h 0=((fin h).1,(fin h).2.toNat):=rfl;rw[e];exact PI b a c
 | n+1=>by
  have s:=KX b a c n;have t:=MX.meshSt s.inv s.ji s.ci;have d:=s.trans t;unfold iq;split
  ·exact d.trans (PI t.inv t.ji t.ci)
  exact d
structure r8(k k':af):Prop where
 len:k'.F.U.a3.length=k.F.U.a3.length
 ent:∀q:Nat,(nth k'.F.Q.K q).j≠0->nth k'.F.Q.K q=nth k.F.Q.K q
def r8.refl(k:af):r8 k k:=⟨rfl,λ_ _=>rfl⟩
def r8.trans{d f:af}(a:r8 k d)(b:r8 d f):r8 k f:=⟨b.len.trans a.len,λq c=>by
  have e:=b.ent q c;rw[e]at c |-;exact a.ent q c⟩
def r8.unmap(a:ay k=true)(b:0<=p/\p<k.F.Q.K.length):r8 k (cg k p):=by
 refine⟨?_,λq c=>KL.md (KL.unmap a b) (jT _ _).1 q c⟩;unfold cg fE lh
 repeat' split
 all_goals first|rfl|simp
def r8.used(c:ay k=true)(a:ay k'=true)(l:r8 k k'):bm k'.F.U<=bm k.F.U:=by
 rw[wY c,wY a,l.len];refine x8 _ λf d g=>?_
 rw[(a7.1 a).2.2.2.1 f (by rw[l.len];exact d)]at g;obtain⟨q,i,b,h⟩:=dn.1 (of_decide_eq_true g);rw[(a7.1 c).2.2.2.1 f d];have e:=l.ent q b;rw[e]at b h;exact O0 (dn.2 ⟨q,q7 b,b,h⟩)
def r8.freeS{h:ab}{E:List Int}(b:aU h E){i:Nat}(c:i<h.J.length)(a:Int):r8 h.G (freeS h i a).G:=by
 unfold Ab.freeS;split
 ·have e:(nth (clrS h i a).J i).R=(nth h.J i).R:=by
   unfold clrS;simp only[bt,true_and];rw[CD c];rfl
  show r8 h.G (cg h.G (nth (clrS h i a).J i).R);rw[e];obtain⟨d,f,-⟩:=b.mapped (am c);exact r8.unmap b.ker ⟨d,f⟩
 exact r8.refl _
def r8.freeA{h:ab}{E:List Int}{a:Int}(b:aU h (a::E)):r8 h.G (freeA h a).G:=by
 obtain⟨c,d,-⟩:=b.at (b.hin a (I2 ..));exact r8.freeS b c a
def r8.freeAs{E:List Int} : ∀{az:List Int}{h:ab},aU h (az++E)->r8 h.G (freeAs h az).G
 | [],h,_=>r8.refl _
 | a::az,h,b=>(r8.freeA b).trans (r8.freeAs (az:=az) (h:=Ab.freeA h a) b.freeA)
def r8.flushN{t:Nat}{h:ab}(b:aU h [])(c:t<h.S.length):∀{k:Nat},k<=4->r8 h.G (flushN t h k).1.G
 | 0,_=>r8.refl _
 | k+1,i=>by
  have e:=r8.flushN b c (k:=k) ω;obtain⟨d,j,-⟩:=fS b c (k:=k) ω;have a:t<(Ab.flushN t h k).1.S.length:=ω
  have f:=mw (d.cach _ (am a));have g:=d.spilt a (k:=k) ω;exact e.trans (r8.freeAs (h:=spilt (Ab.flushN t h k).1 t k) g)
structure FX(h g:ab):Prop where
 inv:aU g []
 ji:JI g
 ci:CI g
 kp:Kp h g
 ob:g.O=h.O
 nx:g.b=h.b
 rf:g.G.u=h.G.u
 ca:g.S.length=h.S.length
 ml:g.y=h.y
 cl:g.G.Calls=h.G.Calls
 les:r8 h.G g.G
def Pb{h:ab}(c:aU h [])(b:JI h)(d:CI h):∀t,t<=h.S.length->FX h (AW h t)
 | 0,_=>⟨c,b,d,CZ h,rfl,rfl,rfl,rfl,rfl,rfl,r8.refl _⟩
 | t+1,y=>by
  have s:=Pb c b d t ω;have a:t<(AW h t).S.length:=by rw[s.ca];omega
  have e:AW h (t+1)=(flushN t (AW h t) 4).1:=rfl;rw[e];obtain⟨f,g,i,j,l,A,B⟩:=fS s.inv a (k:=4) (X3 4);obtain⟨n,o⟩:=CI.flushN s.inv a s.ci (X3 4);have p:=JK.flushN s.inv a (X3 4);have q:=(uZ t (AW h t) 4).1;have u:=se (t:=t) (h:=AW h t) 4;have w:=r8.flushN s.inv a (X3 4);generalize flushN t (AW h t) 4=r at *;exact⟨f,s.ji.keep f p,n,s.kp.trans o,j.trans s.ob,q.trans s.nx,u.trans s.rf,g.trans s.ca,l.trans s.ml,i.trans s.cl,s.les.trans w⟩
def zb{h g:ab}(b:Kp h g)(a:g.O=h.O):∀n,ix g n=ix h n
 | 0=>rfl
 | n+1=>by
  rw[ix,ix,zb b a n,a]
  congr 1
  refine List.map_congr_left λo c=>?_
  have d:o∈g.O:=by rw[a];exact(V5.1 c).1
  unfold pX;rw[mQ (k:=h.G) (k':=g.G) λj e f=>(b o d).2 j e ω]
def J4{g:ab}(a:aU h [])(b:aU g [])(c:Kp h g)(d:g.O=h.O)(e:g.b=h.b):gN g=gN h:=by
 unfold gN;rw[CD a.to,CD b.to,e,zb c d]
structure RX(h g:ab):Prop where
 inv:aU g []
 ji:JI g
 ci:CI g
 kp:Kp h g
 ob:g.O=h.O
 nx:g.b=h.b
 rf:g.G.u=h.G.u
 us:bm g.G.F.U<=bm h.G.F.U
 ul:g.G.F.U.a3.length=h.G.F.U.a3.length
def JB(c:aU h [])(b:JI h)(d:CI h)(most:Int):RX h (relieve h most).1:=by
 unfold relieve;split
 ·have f:=Pb c b d h.S.length (X3 _)
  have a:=KX f.inv f.ji f.ci most.toNat;have e:=f.les.used c.ker f.inv.ker;have g:=a.us;refine⟨a.inv,a.ji,a.ci,f.kp.trans a.kp,a.ob.trans f.ob,a.nx.trans f.nx,a.rf.trans f.rf,by simp only;omega,a.ul.trans f.les.len⟩
 exact⟨c,b,d,CZ h,rfl,rfl,rfl,I6 _,rfl⟩
def Ke:List MA->Bool
 | []=>true
 | .ptr _::_=>false
 | _::A=>Ke A
def Ko:MA->MA
 | .mut ag cs=>.mut ag (List.replicate cs.length .x)
 | m=>m
def A6:Nat->List MA->List (Nat × AV)
 | _,[]=>[]
 | i,.val a cs::A=>(i,.H (kA a) cs)::A6 (i+1) A
 | i,.mut a cs::A=>(i,.H (kA a) cs)::A6 (i+1) A
 | i,.ptr cs::A=>(i,.H .box cs)::A6 (i+1) A
def RK:MA->AV
 | .val a cs=>.H (kA a) cs
 | .mut a cs=>.H (kA a) cs
 | .ptr cs=>.H .box cs
def Up(TE:Nat->Option TI)(c:List ResultVar)(k:Kd)(rcs:List C):Exit->(Nat->AV)->Prop:=λe F=>
 match e with
 | .normal=>resA TE F c [] λa b=>aV (gL a) k b rcs True
 | .ret=>resA TE F c [] λa b=>aV (gL a) k b rcs True
 | _=>False
section
variable{P:Program}{w0 w w1:World}{M S0 S:ah}{N:fy}{φ:Nat->ah}{F:Nat->AV}{a:Act}{TE:Nat->Option TI}
def BW:∀{A:List MA}{vs:List Value}{V:Nat->ah}(i:Nat),MD w S V A vs->∀t,(lay (A6 i A) t=.dead)\/(∃m v,i<=t/\vs[t - i]? = some v/\A[t - i]? = some m/\lay (A6 i A) t=RK m/\pF w S (V (t - i)) m v)
 | [],_,_,i,_,t=>.inl rfl
 | m::A,[],_,i,h,t=>h.elim
 | m::A,v::vs,V,i,h,t=>by
  have c:lay (A6 i (m::A)) t=bif Nat.beq t i then RK m else lay (A6 (i+1) A) t:=by cases m<;>rfl
  rw[c];cases a:Nat.beq t i with
  | true=>
   have:=W2 a;subst this;exact .inr ⟨m,v,X3 _,by simp,by simp,rfl,by rw[Nat.sub_self];exact h.1⟩
  | false=>
   have d:t≠i:=λe=>by subst e;rw[Nat.beq_refl]at a;cases a
   rcases BW (i+1) h.2 t with b|⟨f,g,b,j,k,l,n⟩
   ·exact .inl b
   refine .inr ⟨f,g,ω,?_,?_,l,?_⟩
   ·rw[show t - i=(t - (i+1))+1 by omega];simpa using j
   ·rw[show t - i=(t - (i+1))+1 by omega];simpa using k
   rw[show t - i=(t - (i+1))+1 by omega];exact n
def y4{d:World}{S':ah} : ∀{A:List MA}{vs:List Value}{V:Nat->ah},Ke A=true->MD w S V A vs->BI d S' (λ_=>NO) (A.map Ko) vs
 | [],[],_,_,_=>trivial
 | [],_::_,_,_,h=>h.elim
 | _::_,[],_,_,h=>h.elim
 | .ptr _::_,_::_,_,a,_=>by cases a
 | .val ag cs::A,v::vs,V,a,h=>⟨trivial,y4 (A:=A) a h.2⟩
 | .mut ag cs::A,v::vs,V,a,h=>by
  refine⟨?_,y4 (A:=A) a h.2⟩;obtain⟨e,f,g⟩:=bv.celF (show bv w S (V 0) ag cs v from h.1);refine⟨by rw[V4];exact e,celF v,f,λ_=>NO,λj c i=>?_,λ_ _ _ _ h=>h.elim,λ_ _ _ _ _ _ _ h=>h.elim⟩;obtain⟨b,rfl⟩:=List.getElem?_replicate.symm.trans i |> λh=>by
   rw[<-List.getElem?_replicate]at h;have b:=(Z2.1 h).1;rw[V4]at b;rw[List.getElem?_replicate,CD b]at h;exact CM b (Option.some.inj h).symm
  exact .x _ _ (g.one b)
def Lz{f : Nat}{g : Func}{c : Code}{A : List MA}{k : Kd}{rcs : List C}{mo : List (Nat × List Nat)}{n : Nat}(L : ∀t i, TE t = some i -> bP P t i)(hf : P.funcs[f]? = some g)(hn : (g.name == "runtime.NumGoroutine") = false)(B:g.body=some c){ck:Nat->Array Oper->Bool}{D:fy->Nat->Array Oper->((Nat->AV)->Prop)->(Nat->AV)->Prop}(hD:∀N,vg P N ck (D N))(hc:ge ck c=true)(hN:A.length+(g.ntmps - A.length)=n)(U:Ke A=true)(W:hO rcs)(hp:aw P TE ⟨n,[],mo⟩ (D ⟨n,[],mo⟩) c (Up TE g.results.toList k rcs) (lay (A6 0 A))):aT P f false A (A.map Ko) k rcs:=by
 refine⟨⟨g,hf,hn,by rw[B];rfl⟩,λw S V p hS hV Z hA=>?_⟩;have hlen:=D3 hA;refine calls_of_wp hf B ?_;have htv:∀t v,p[t]? = some v->tvs {tmps:=p.toArray++Array.replicate (g.ntmps - p.toArray.size) undef,defers:=[]} t=v:=λt v E=>by
  have hlt:=(Z2.1 E).1;simp only[tvs,Z7];rw[Array.getElem?_append_left (by simpa using hlt)];simp only[List.getElem?_toArray];rw[E];rfl
 have hst:St w (λb o=>∃i,V i b o) S ⟨n,[],mo⟩ (lay (A6 0 A)) {tmps:=p.toArray++Array.replicate (g.ntmps - p.toArray.size) undef,defers:=[]} w:=by
  refine⟨S,V,λt=>?_,Z,λt b o h=>(hV t b o h).2,λt b o h=>⟨(hV t b o h).1,.inr ⟨t,h⟩⟩,λ_ _ h=>h,λb o h=>⟨hS b o h,.inl h⟩,Ca _ _,by simp;omega,rfl,λq hq=>by simp at hq⟩;rcases BW 0 hA t with h1|⟨m,v,-,E,h2',h3,H⟩
  ·rw[h1];trivial
  rw[h3];rw[Nat.sub_zero]at E H;rw[htv t v E];cases m with
  | val y r=>exact(bv.mono (show bv w S NO y r v from H) (λ_ _ h=>h) (λ_ _ h=>h.elim)).slot
  | «mut» y r=>exact bv.slot (show bv w S (V t) y r v from H)
  | ptr r=>exact H
 refine iC L (hD _) c hc _ _ _ _ w hp hst λe F' J d he hs'=>?_
 obtain⟨S',φ',h⟩:=hs';have fin:resA TE F' g.results.toList [] (λsh r=>aV (gL sh) k r rcs True)->J.defers=[]/\∃v,(results g J.tmps).run P d=.ok v d/\(∃v',Ending.returned v=.returned v'/\bA (λb o=>∃i,V i b o) w d/\∃(X:ah)(K:Nat->ah)(M:ah),
     (∀b o,X b o->(∃i,V i b o)\/(b<d.heap.size/\w.heap.size<=b))/\(∀i b o,K i b o->(∃i,V i b o)\/(b<d.heap.size/\w.heap.size<=b))/\
     (∀b o,M b o->(false=true/\S b o)\/(∃i,V i b o)\/(b<d.heap.size/\w.heap.size<=b))/\
     (∀i i',i≠i'->∀b o,K i b o->¬K i' b o)/\(∀i b o,X b o->¬K i b o)/\(∀b o,X b o->¬M b o)/\(∀i b o,K i b o->¬M b o)/\
     fN d NO k rcs.length v'/\cL d M X rcs (ch d k v')/\BI d (λb o=>S b o\/M b o) K (A.map Ko) p):=by
  intro hr;obtain⟨shs,r,a,u',O,Q,u,hln,R,hcells,l,T⟩:=h.resA L hr;obtain⟨rfl,rfl,-⟩:=O.out;refine⟨h.defers,?_⟩;have G:(results g J.tmps).run P d=.ok (if h:a.toArray.size=1 then a.toArray[0] else .tuple a.toArray) d:=by
   have e:results g J.tmps=(do let p <-g.results.mapM (AY J.tmps);pure (if h:p.size=1 then p[0] else .tuple p)):=by
    unfold results
    congr 1
   rw[e,<-Array.toArray_toList (xs:=g.results),List.mapM_toArray];simp only[Sem.run_bind,Sem.run_map,Q,Result.andThen_ok,Sem.run_pure]
  have hex:∀t b o,φ' t b o->(∃i,V i b o)\/(b<d.heap.size/\w.heap.size<=b):=λt b o B=>(h.ex t b o B).2.elim (λh'=>.inr ⟨(h.ex t b o B).1,h'⟩) .inl
  refine⟨_,G,_,rfl,h.old,λb o=>∃t,t∉([]:List Nat)/\φ' t b o,λ_=>NO,NO,λb o ⟨t,_,B⟩=>hex t b o B,λ_ _ _ h=>h.elim,λ_ _ h=>h.elim,λ_ _ _ _ _ h=>h.elim,λ_ _ _ _ h=>h.elim,λ_ _ _ h=>h.elim,λ_ _ _ h=>h.elim,?_⟩;have hk:fN d NO (gL shs) r.length (if h:a.toArray.size=1 then a.toArray[0] else .tuple a.toArray)/\cL d S' (λb o=>∃t,t∉([]:List Nat)/\φ' t b o) r (ch d (gL shs) (if h:a.toArray.size=1 then a.toArray[0] else .tuple a.toArray)):=by
   match shs,u,l,R with
   | [],u,_,R=>
    cases a with
    | cons _ _=>exact u.elim
    | nil=>
     have:r=[]:=X8 (by simpa[vw] using R.symm);subst this;exact⟨⟨_,rfl,trivial,rfl⟩,cL.nil _ _ _ _⟩
   | [y],_,l,_=>
    obtain⟨v,rfl,hv⟩:=l y rfl;have:=hv.slot (F:=F') (tv:=tvs J);obtain⟨X1,Y,h1,E,h3,H,h5⟩:=this;refine⟨?_,h5.mono (λ_ _ h=>h) E⟩;cases y<;>exact H
   | y::ag2::sh,u,_,R=>
    have hsz:¬a.toArray.size=1:=by
     match a,u with
     | [],u=>simp
     | [v],u=>cases y<;>cases ag2<;>exact u.2.elim
     | _::_::_,_=>simp
    rw[dif_neg hsz];refine⟨⟨_,rfl,u,R⟩,T.congr λj hj=>?_⟩;simp only[ch,gL,lQ,hcells];simp[List.getD,hj]
  exact⟨hk.1,(hk.2.fresh W).mono (λ_ _ h=>h.elim) (λ_ _ h=>h),y4 U hA⟩
 cases e with
 | normal=>exact fin he
 | ret=>exact fin he
 | _=>exact he.elim
end
def Ui{mo : List (Nat × List Nat)}{a : Func}{c : Code}{A : List MA}{k : Kd}{rcs : List C}(e : Tryz.prog.funcs[f]? = some a)(g : (a.name == "runtime.NumGoroutine") = false)(h : a.body = some c){tb : List (Nat × Nat × List Nat)}(i : ge (mR tb) c = true)(j:A.length+(a.ntmps - A.length)=n)(b:Ke A=true)(d:hO rcs)(l:aw Tryz.prog TE ⟨n,[],mo⟩ (DF Tryz.prog TE ⟨n,[],mo⟩ tb) c (Up TE a.results.toList k rcs) (lay (A6 0 A))):zzB f false A (A.map Ko) k rcs:=
 Lz pK e g h (λN=>oc pK ot N tb) i j b d l
def LE{w:World}{S Y:ah}{t:List C}{u:Nat->Value}(d:cL w S Y (ab.enc .own h++t) u):cL w S Y (gh h++t) u:=by
 obtain⟨f,b,e,g⟩:=d;refine⟨f,λj c a=>?_,e,g⟩;have i:gh h++t=(((ab.enc .own h++t).set 6 (oS h)).set 7 (oL h)).set 8 (oO h):=rfl;rw[i]at a;by_cases k:j=8
 ·subst k
  have:c=oO h:=by simpa[ab.enc] using a.symm
  rw[this];exact uw (b 8 _ rfl)
 by_cases l:j=7
 ·subst l
  have:c=oL h:=by simpa[ab.enc] using a.symm
  rw[this];exact uw (b 7 _ rfl)
 by_cases n:j=6
 ·subst n
  have:c=oS h:=by simpa[ab.enc] using a.symm
  rw[this];exact uw (b 6 _ rfl)
 rw[List.getElem?_set_ne ω,List.getElem?_set_ne ω,List.getElem?_set_ne ω]at a;exact b j c a
def ar.E{P:Program}{sh:Bool}{A:List RA}{k:Kd}{t:List C}(c:ar P f sh A k (ab.enc .own h++t)):ar P f sh A k (gh h++t):=by
 obtain⟨a,b⟩:=c;refine⟨a,λw S d g i=>(b w S d g i).mono λe w1 j=>?_⟩;obtain⟨v,l,n,X,o,p,q,r,u,y⟩:=j;exact⟨v,l,n,X,o,p,q,r,u,LE y⟩
def QZ(a:h.o=true):gh h=(gh h).set 18 (B true):=by rw[<-a];rfl
def Ks(a:h.o=false):gh h=(gh h).set 18 (B false):=by rw[<-a];rfl
def Fx(h:ab)(o:aU h [])(p:fU h.G.u)(c:aJ.sml h.y)(u:h.G.Calls<=98000):zzB 248 false [.mut (some 24) (gh h)] [.mut (some 24) (List.replicate 24 .x)] (.tup [some 24,none]) (gh (fin h).1++[B (fin h).2]):=by
 refine Ui (n:=29) (mo:=[]) (tb:=[]) Tryz.func248 (by kernel_rfl) rfl (by kernel_rfl) (by rfl) rfl (aG (mq _) ⟨trivial,trivial⟩) ?_
 repeat'(first|refine gP ?_|fail)
 (conv=>whnf)
 refine CG (ι:=Nat) (λi=>[(1,.H .box (gh (fo h i).1)),(2,.H .box xC),(4,.H .one [I ((i:Nat):Int)])]) (λi=>i<=100/\(fo h i).2=false) (λi=>100 - i) (0) ?_ (⟨X0 _,rfl⟩) λi o=>?_
 ·exact wC
 obtain⟨e,g⟩:=o;have s:=wW (by assumption) p c i;by_cases w:i<100
 ·cases b:(fo h i).1.o with
  | false=>
   have j:=N8 b e;rw[Ks b]
   repeat'(first|refine gE ?_|fail)
   refine CJ rfl ?_ trivial;rw[j,g,Ks b]
   rfl
  | true=>
   have a:=LW b;have y:=s.calls;have q:=(zO (fo h i).1 (s.inv g) b s.fit.sml ω).E;have k:=m7 (fo h i).1;rw[QZ b]at k |-;cases d:lH (fo h i).1 with
   | true=>
    rw[d]at a;have t:Ut (fo h i).1=4:=of_decide_eq_true d;have j:=N8 (h:=h) (i:=i+1) (by rw[a];have r:=wW (by assumption) p c (i+1);rw[a]at r;exact r.done rfl) ω;rw[j,a]
    repeat'(first|refine gB ?_|(conv=>whnf);first|refine CH (q) ⟨⟨rfl,k⟩,trivial⟩ ?_)
    exact CJ rfl rfl trivial
   | false=>
    rw[d]at a;have t:¬Ut (fo h i).1=4:=of_decide_eq_false d;have l:mStep (fo h i).1=(fo h (i+1)).1:=by rw[a]
    repeat'(first|refine gB ?_|(conv=>whnf);first|refine CH (q) ⟨⟨rfl,k⟩,trivial⟩ ?_)
    ((conv=>whnf);refine CF (i+1) ⟨ω,by rw[a]⟩ ω ?_)
    rw[<-l];exact wC
 obtain rfl:i=100:=ω
 repeat'(first|refine gE ?_|fail)
 refine CJ rfl ?_ trivial;rw[<-g]
 rfl
def J7(rows:List (List C)):Ts (oE rows)=oE rows:=by cases rows<;>rfl
def Vc(h:ab):UR (.mut (some 24) (gh h))=.mut (some 24) (gh h):=by
 show MA.mut (some 24) (cE h (Ts (oS h)) (Ts (oL h)) (Ts (oO h)))=_;unfold oS oL oO;rw[J7,J7,J7]
 rfl
def vS(h:ab)(b:aU h [])(c:fU h.G.u)(a:aJ.sml h.y)(d:h.G.Calls<=98000):zzB 248 false [UR (.mut (some 24) (gh h))] [.mut (some 24) (List.replicate 24 .x)] (.tup [some 24,none]) (gh (fin h).1++[B (fin h).2]):=by
 rw[Vc];exact Fx h b c a d
def LF(h:ab)(most:Nat)(g:aU h [])(c:fU h.G.u)(b:aJ.sml h.y)(C:h.G.Calls<=90000)(D:most<=20):zzA 92 false [.val (some 24) (ab.enc .W h),.val none [I (most:Nat)]] (.tup [some 24,none]) (gh (iq h most).1++[I ((iq h most).2:Nat)]):=by
 have d:=g.fit c b;have u:=lK h d.sml;have l:=fI h d.sml;rw[iw,g.to]at l;have n:=vS h g c b ω;have o:=aK ((most:Nat):Int) 0 20;rw[O0 ω]at o;refine fP 58 [(248,[1])] [] Tryz.func92 rfl ?_ (.inr (aG (mq _) ⟨trivial,trivial⟩));cases p:(fin h).2<;>rw[p]at n
 all_goals
  have q:iq h 0=((fin h).1,(fin h).2.toNat):=rfl;rw[p]at q
  repeat'(first|refine gE ?_|(conv=>whnf);first|refine C9 (u) ?_|refine C9 (l) ?_|refine C9 (o) ?_|refine CL (n) (.inl rfl) ?_)
  (conv=>whnf)
  refine CG (ι:=Nat) (λi=>[(1,.H .one [I (((most:Nat):Int) - (i:Nat))]),(4,.H .box xC),(6,.H .box (gh (iq h i).1)),(7,.H .one [I ((iq h i).2:Nat)])]) (λi=>i<=most) (λi=>most - i) 0 ?_ (X0 _) λi w=>?_
  ·rw[q]
   exact wC
  have s:=Em g c b i;have E:=s.calls;have F:=s.cnt;obtain⟨G,r,y,B⟩:=AU s.fit (by rw[s.ref];exact c) (by rw[s.mail];exact b);by_cases H:i<most
  ·have j:=xL (iq h i).1 s.fit.sml
   have a:iq h (i+1)=if(meshSt (iq h i).1).2=true then((fin (meshSt (iq h i).1).1).1,(iq h i).2+(fin (meshSt (iq h i).1).1).2.toNat) else((meshSt (iq h i).1).1,(iq h i).2):=rfl
   cases e:(meshSt (iq h i).1).2 with
   | false=>
    rw[e]at j a;rw[CB (by simp)]at a
    repeat'(first|refine gE ?_|(conv=>whnf);first|refine CH (j) ⟨⟨rfl,m7 _⟩,trivial⟩ ?_)
    ((conv=>whnf);refine CF (i+1) ω ω ?_)
    rw[a];exact wC
   | true=>
    rw[e]at j a;rw[CD rfl]at a;have t:=vS (meshSt (iq h i).1).1 (B e) (by rw[r,s.ref];exact c) (by rw[y,s.mail];exact b) (by rw[r];omega);cases k:(fin (meshSt (iq h i).1).1).2<;>rw[k]at t a
    all_goals
     repeat'(first|refine gE ?_|(conv=>whnf);first|refine CH (j) ⟨⟨rfl,m7 _⟩,trivial⟩ ?_|refine CL (t) (.inl rfl) ?_)
     ((conv=>whnf);refine CF (i+1) ω ω ?_)
     rw[a];exact wC
  obtain rfl:i=most:=ω
  repeat'(first|refine gE ?_|fail)
  rfl
def PC(a b c d e f:Int):U8 Tryz.prog .neq 168 [.int .i64 a,.int .i64 b,.int .i64 c] [.int .i64 d,.int .i64 e,.int .i64 f] (!(a == d&&(b == e&&(c == f)))):=by
 refine⟨λx y w=>?_⟩;rw[Sem.run_bind,run_eqGuard_agg w .neq _ x y _ _ (by kernel_rfl)];simp only[Result.andThen_ok];rw[run_neq_struct,run_equalIn_agg w _ _ _ _ (by kernel_rfl) (by kernel_rfl)];simp only[Program.fieldsOf,Tryz.underlying168];simp only[Op.eqFields];simp[part,Sem.run_bind,run_equalIn_int _ _ _ _ _ _ _ Tryz.underlying3];by_cases g:a=d<;>by_cases h:b=e<;>by_cases i:c=f<;>simp[g,h,i]
def H6(a:List dm)(d:a.length<=1048576):zzA 96 false [.val none (gm .W a),.val none (gm .W a)] .one [B true]:=by
 refine fO 26 [(6,9,[16,17,18,19,20,21,22,23,24])] Tryz.func96 rfl ?_
 repeat'(first|refine gB ?_|fail)
 (conv=>whnf)
 refine CG (ι:=Nat) (λi=>[(0,.H .one (gm .W a)),(1,.H .one (gm .W a)),(12,.H .one [I ((a.length:Nat):Int)]),(13,.H .one [I ((i:Nat):Int)])]) (λi=>i<=a.length) (λi=>a.length - i) (0) ?_ (X0 _) λi e=>?_
 ·exact wC
 by_cases c:i<a.length
 ·have b:=ao c
  repeat'(first|refine gE ?_|(conv=>whnf);first|with_reducible refine CE (aa b) ?_|refine CK rfl (aa b) rfl ?_|refine T7.mk (PC _ _ _ _ _ _) ?_|refine Bf.t (by simp only[beq_self_eq_true,Bool.and_self]) ?_)
  ((conv=>whnf);refine CF (i+1) ω ω ?_;(exact wC))
 repeat'(first|refine gE ?_|fail)
 rfl
def AH(a:List dm)(b:a.length<=1048576):zzA 31 false [.val none (gm .W a),.val none (gm .W a)] .one [B true]:=by
 have c:=H6 a b;refine fO 8 [] Tryz.func31 rfl ?_
 repeat'(first|refine gP ?_|(conv=>whnf);first|refine C9 (c) ?_)
 rfl
def sW(zs:List Int):Nat->List Int × jf
 | 0=>([],vi zs)
 | n+1=>((sW zs n).1++[(bw zs (sW zs n).2 10000).1],(bw zs (sW zs n).2 10000).2)
def EF(zs:List Int):∀n,(sW zs n).2.i<=zs.length/\(sW zs n).1.length=n/\∀x∈(sW zs n).1,0<=x/\x<10000
 | 0=>⟨X0 _,rfl,λx a=>by cases a⟩
 | n+1=>by
  obtain⟨b,c,d⟩:=EF zs n;refine⟨bT b _,by show((sW zs n).1++[_]).length=_;rw[Z3,c];rfl,λx a=>?_⟩;rcases W3.1 a with a|a
  ·exact d x a
  rw[V1.1 a];exact bN zs (sW zs n).2 (n:=10000) (by decide)
def wn(zs:List Int)(a:jO zs):zzA 16 false [.val none (TR zs)] .one (aF .own (sW zs 12).1):=by
 have b:=vW zs a;refine fP 19 [(61,[2,0]),(3000003,[])] [] Tryz.func16 rfl ?_ (.inr (bM _))
 repeat'(first|refine gP ?_|(conv=>whnf);first|refine Cl.g b (.inr rfl) ?_)
 (conv=>whnf)
 refine CG (ι:=Nat) (λi=>[(0,.H .one (TR zs)),(3,.H .box (iT zs (sW zs i).2)),(4,.H .one (aF .own (sW zs i).1)),(5,.H .one [I ((i:Nat):Int)])]) (λi=>i<=12) (λi=>12 - i) (0) ?_ (X0 _) λi j=>?_
 ·repeat'(first|exact trivial|rfl |exact mE c|exact dK _|refine CM ?_ ?_|(exact Ac (by first|omega|(simp only;omega)|(simp;omega))))
 obtain⟨d,k,-⟩:=EF zs i;by_cases l:i<12
 ·have e:=bS zs (sW zs i).2 10000 a d (by decide)
  repeat'(first|refine gE ?_|(conv=>whnf);first|refine CL (e) (.inl rfl) ?_|refine CU cz (λr h=>by rw[V1.1 h];rfl) (by simp[bk,eG]) (by simp;omega) (by simp only[I1];exact zE (by simp;omega) (by decide)) rfl ?_)
  ((conv=>whnf);refine CF (i+1) ω ω ?_)
  repeat'(first|exact trivial|rfl| exact dK _ |exact mE (Z0 (C.s dM.own) (by simp[sW,rI]))|refine CM ?_ ?_|(exact Ac (by first|omega|(simp only;omega)|(simp;omega))))
 obtain rfl:i=12:=ω
 repeat'(first|refine gE ?_|fail)
 rfl
def Lo(h:ab)(most:Int)(c:ab.sml h)(B:ab.wf h):zzA 29 false [.val (some 24) (ab.enc .W h),.val none [I most]] (.tup [some 24,none]) (gh (relieve h most).1++[I (relieve h most).2]):=by
 have d:=lK h c;have a:=fI h c;rw[iw]at a;have i:=aK most 0 20;refine fO 56 [(10,268,[44,45,46,47,48,49,50,51,52,53,54,55,0,1,2,3,4,5,6,7,8,9,10,11,12,1011,13])] Tryz.func29 rfl ?_ (.inr (aG (mq _) ⟨trivial,trivial⟩));unfold relieve;cases e:Kj h most with
 | false=>
  rw[CB (by simp)];unfold Kj at e;cases j:cJ h<;>rw[j]at a e
  ·repeat'(first|refine gP ?_|(conv=>whnf);first|refine CC ?_|refine C9 (d) ?_|refine C9 (a) ?_)
   rfl
  by_cases k:h.G.Calls<=90000
  ·rw[O0 k,Bool.true_and,Bool.true_and]at e
   rw[e]at i
   repeat'(first|refine gE ?_|(conv=>whnf);first|refine CC ?_|refine C9 (d) ?_|refine C9 (a) ?_|refine C9 (i) ?_)
   rfl
  repeat'(first|refine gE ?_|(conv=>whnf);first|refine CC ?_|refine C9 (d) ?_|refine C9 (a) ?_)
  rfl
 | true=>
  rw[CD rfl];unfold Kj at e;simp only[I0,C0]at e;obtain⟨j,k,q,C⟩:=e;rw[j]at a;rw[O0 ⟨q,C⟩]at i;have l:=aU.of j;have n:fU h.G.u:=B.1.2.2;have b:aJ.sml h.y:=c.2.2.2.2.2.2.1;obtain⟨m,rfl⟩:=V3 q;simp only[O3];have D:=l.lens.caches
  repeat'(first|refine gE ?_|(conv=>whnf);first|refine CC ?_|refine C9 (d) ?_|refine C9 (a) ?_|refine C9 (i) ?_)
  (conv=>whnf)
  refine CG (ι:=Nat) (λt=>[(1,.H .one [I ((m:Nat):Int)]),(2,.H .box (ab.enc .W h)),(4,.H .box xC),(6,.H .box (gh (AW h t))),(27,.H .one [I ((h.S.length:Nat):Int)]),(28,.H .one [I ((t:Nat):Int)])]) (λt=>t<=h.S.length) (λt=>h.S.length - t) (0) ?_ (X0 _) λt E=>?_
  ·exact wC
  have s:=MY l t E;have o:=s.inv.fit (by rw[s.ref];exact n) (by rw[s.mail];exact b);by_cases F:t<h.S.length
  ·have r:=zo (AW h t) t o.sml s.inv.to (by rw[s.calls];omega) (by rw[s.caches];exact F)
   obtain⟨g,u⟩ : ∃g,flushN t (AW h t) 4=g:=⟨_,rfl⟩
   have G:AW h (t+1)=g.1:=Z0 Prod.fst u;rw[u]at r
   repeat'(first|refine gE ?_|(conv=>whnf);first|refine CC ?_|refine CH (r) ⟨⟨rfl,m7 _⟩,⟨rfl,rfl⟩,trivial⟩ ?_)
   ((conv=>whnf);refine CF (t+1) ω ω ?_)
   rw[G];exact wC
  obtain rfl:t=h.S.length:=ω
  have p:=LF (AW h h.S.length) m s.inv (by rw[s.ref];exact n) (by rw[s.mail];exact b) (by rw[s.calls];exact k) ω;have w:=Em s.inv (by rw[s.ref];exact n) (by rw[s.mail];exact b) m;have H:=kP h.G.F.U c.1.1.1;have y:=kP (iq (AW h h.S.length) m).1.G.F.U w.fit.sml.1.1.1;have K:=kh h.G.F.U l.lens.used;have J:=kh (iq (AW h h.S.length) m).1.G.F.U (by have:=aO.1 (a7.1 w.fit.ker).2.1;omega);generalize iq (AW h h.S.length) m=g at p y J |-;generalize AW h h.S.length=f at p |-
  repeat'(first|refine gE ?_|(conv=>whnf);first|refine CC ?_|refine CH (p) ⟨⟨rfl,m7 _⟩,⟨rfl,rfl⟩,trivial⟩ ?_|refine CH (y) ⟨⟨rfl,aW.enc_fz _⟩,trivial⟩ ?_|refine C9 (H) ?_|refine CC ?_)
  rfl
def GR:∀{a b:List dm},a.Pairwise (λx y=>x.Id<y.Id)->b.Pairwise (λx y=>x.Id<y.Id)->(∀x,x∈a↔x∈b)->a=b
 | [],[],_,_,_=>rfl
 | [],y::b,_,_,h=>by have:=(h y).2 (I2 ..);cases this
 | x::a,[],_,_,h=>by have:=(h x).1 (I2 ..);cases this
 | x::a,y::b,d,f,h=>by
  rw[List.pairwise_cons]at d f;have g:x=y:=by
   rcases List.mem_cons.1 ((h x).1 (I2 ..)) with e|e
   ·exact e
   rcases List.mem_cons.1 ((h y).2 (I2 ..)) with i|i
   ·exact i.symm
   have j:=f.1 x e;have k:=d.1 y i;omega
  subst g;rw[GR d.2 f.2 λz=>?_];constructor
  ·intro c
   rcases List.mem_cons.1 ((h z).1 (W6 _ c)) with e|e
   ·subst e;have:=d.1 z c;omega
   exact e
  intro c;rcases List.mem_cons.1 ((h z).2 (W6 _ c)) with e|e
  ·subst e;have:=f.1 z c;omega
  exact e
def yR(c:cJ h=true):h.O.Pairwise λo d=>o.Id≠d.Id:=by
 rw[List.pairwise_iff_getElem];intro i j a b f e;refine Tv c a b ω ?_;rw[bh (X2 a),bh (X2 b)];exact e
def vV{h:ab}(e:cJ h=true):∀n:Nat,(ix h n).Pairwise λx y=>x.Id<y.Id
 | 0=>List.Pairwise.nil
 | n+1=>by
  rw[ix,List.pairwise_append];refine⟨vV e n,?_,λx i y j=>?_⟩
  ·rw[List.pairwise_map]
   refine List.Pairwise.imp_of_mem ?_ ((yR e).filter _);intro o f g k a;have b:=(V5.1 g).2;have c:=(V5.1 k).2;unfold gd at b c;rw[C0]at b c;exact absurd (b.trans c.symm) a
  obtain⟨o,-,⟨m,l,g⟩,rfl⟩:=pC.1 i;obtain⟨f,d,rfl⟩:=O5.1 j;have:=(V5.1 d).2;unfold gd at this;rw[C0]at this;show o.Id<f.Id;omega
def y3(a:cJ h=true){zs:List dm}(e:zs.Perm (h.O.map (pX h.G)))(f:zs.Pairwise λx y=>x.Id<=y.Id):zs=gN h:=by
 have g:=KO a;unfold gN;rw[CD a];refine GR ?_ (vV a _) λx=>?_
 ·have c:zs.Pairwise λx y=>x.Id≠y.Id:=by
   refine(e.pairwise_iff (fun {x y} h=>Ne.symm h)).2 ?_;rw[List.pairwise_map];exact(yR a).imp λh=>h
  exact(f.and c).imp λh=>ω
 rw[e.mem_iff,pC,O5];constructor
 ·rintro⟨o,b,d⟩
  have:=g o b;exact⟨o,b,⟨o.Id.toNat,ω,ω⟩,d⟩
 rintro⟨o,b,-,d⟩
 exact⟨o,b,d⟩
end Go.Proofs.YtiopgblagimpmaaGreat.Ab
/-
 DERIVED: THE SHELF's CONTRACTS AT THIS DUMP, IN PLAIN WORDS (tools/lay-plain.mjs out of 'TryzShelf2.lean', which tools/lay-shelf.mjs wrote): THE SAME DECLARATIONS UNDER THE SAME NAMES: 'import', 'namespace', 'open', 'def', 'theorem' AND NOTHING ELSE: no command of the shelf's: FOR A HAND-IN. Each laying: the table of numbers ('.._ren') and one theorem, a field a fact of the dump's own or the kernel's comparison; each contract: ONE APPLICATION.
-/
namespace Go.Proofs
open Go.Shelf
def Tryz.sortFact_ren:Go.Shelf.Ren:=⟨fun|6=>94|15=>251|14=>250|28=>400|29=>401|20=>392|21=>393|22=>394|23=>395|24=>396|25=>397|26=>398|27=>399|46=>497|47=>498|48=>499|49=>500|50=>501|57=>564|n=>n,fun|22=>77|24=>168|25=>170|3=>3|39=>304|0=>0|53=>415|55=>417|4=>4|46=>409|45=>408|50=>142|5=>5|9=>9|66=>470|70=>474|76=>507|77=>151|n=>n,fun|n=>n⟩
def Tryz.sortFact:Go.Proofs.SlLaysF0.n6 Tryz.prog Tryz.sortFact_ren:={
  mixed:=by kernel_rfl
  f6:=⟨Tryz.f94.name,by decide,Tryz.func94.trans (congrArg some (by kernel_rfl))⟩
  f14:=⟨Tryz.f250.name,by decide,Tryz.func250.trans (congrArg some (by kernel_rfl))⟩
  f15:=Tryz.func251.trans (congrArg some (by kernel_rfl))
  f20:=⟨Tryz.f392.name,by decide,Tryz.func392.trans (congrArg some (by kernel_rfl))⟩
  f21:=⟨Tryz.f393.name,by decide,Tryz.func393.trans (congrArg some (by kernel_rfl))⟩
  f22:=⟨Tryz.f394.name,by decide,Tryz.func394.trans (congrArg some (by kernel_rfl))⟩
  f23:=⟨Tryz.f395.name,by decide,Tryz.func395.trans (congrArg some (by kernel_rfl))⟩
  f24:=⟨Tryz.f396.name,by decide,Tryz.func396.trans (congrArg some (by kernel_rfl))⟩
  f25:=⟨Tryz.f397.name,by decide,Tryz.func397.trans (congrArg some (by kernel_rfl))⟩
  f26:=⟨Tryz.f398.name,by decide,Tryz.func398.trans (congrArg some (by kernel_rfl))⟩
  f27:=⟨Tryz.f399.name,by decide,Tryz.func399.trans (congrArg some (by kernel_rfl))⟩
  f28:=Tryz.func400.trans (congrArg some (by kernel_rfl))
  f29:=Tryz.func401.trans (congrArg some (by kernel_rfl))
  f46:=⟨Tryz.f497.name,by decide,Tryz.func497.trans (congrArg some (by kernel_rfl))⟩
  f47:=Tryz.func498.trans (congrArg some (by kernel_rfl))
  f48:=Tryz.func499.trans (congrArg some (by kernel_rfl))
  f49:=⟨Tryz.f500.name,by decide,Tryz.func500.trans (congrArg some (by kernel_rfl))⟩
  f50:=⟨Tryz.f501.name,by decide,Tryz.func501.trans (congrArg some (by kernel_rfl))⟩
  f57:=⟨Tryz.f564.name,by decide,Tryz.func564.trans (congrArg some (by kernel_rfl))⟩
  t0:=Tryz.underlying0
  a0:=Tryz.isAgg0
  z0:=Tryz.sizeOf0
  v0:=Tryz.zeroValue0
  t3:=Tryz.underlying3
  a3:=Tryz.isAgg3
  z3:=Tryz.sizeOf3
  v3:=Tryz.zeroValue3
  t4:=Tryz.underlying4
  a4:=Tryz.isAgg4
  z4:=Tryz.sizeOf4
  v4:=Tryz.zeroValue4
  t5:=Tryz.underlying5
  a5:=Tryz.isAgg5
  z5:=Tryz.sizeOf5
  v5:=Tryz.zeroValue5
  t9:=Tryz.underlying9
  a9:=Tryz.isAgg9
  z9:=Tryz.sizeOf9
  v9:=Tryz.zeroValue9
  t22:=Tryz.underlying77
  a22:=Tryz.isAgg77
  z22:=Tryz.sizeOf77
  v22:=Tryz.zeroValue77
  t25:=Tryz.underlying170
  a25:=Tryz.isAgg170
  z25:=Tryz.sizeOf170
  v25:=Tryz.zeroValue170
  t39:=Tryz.underlying304
  a39:=Tryz.isAgg304
  z39:=Tryz.sizeOf304
  v39:=Tryz.zeroValue304
  t45:=Tryz.underlying408
  a45:=Tryz.isAgg408
  z45:=Tryz.sizeOf408
  v45:=Tryz.zeroValue408
  t46:=Tryz.underlying409
  a46:=Tryz.isAgg409
  z46:=Tryz.sizeOf409
  v46:=Tryz.zeroValue409
  t50:=Tryz.underlying142
  a50:=Tryz.isAgg142
  z50:=Tryz.sizeOf142
  v50:=Tryz.zeroValue142
  t53:=Tryz.underlying415
  a53:=Tryz.isAgg415
  z53:=Tryz.sizeOf415
  v53:=Tryz.zeroValue415
  t55:=Tryz.underlying417
  a55:=Tryz.isAgg417
  z55:=Tryz.sizeOf417
  v55:=Tryz.zeroValue417
  t66:=Tryz.underlying470
  a66:=Tryz.isAgg470
  z66:=Tryz.sizeOf470
  v66:=Tryz.zeroValue470
  t70:=Tryz.underlying474
  a70:=Tryz.isAgg474
  z70:=Tryz.sizeOf474
  v70:=Tryz.zeroValue474
  t76:=Tryz.underlying507
  a76:=Tryz.isAgg507
  z76:=Tryz.sizeOf507
  v76:=Tryz.zeroValue507
  t77:=Tryz.underlying151
  a77:=Tryz.isAgg151
  z77:=Tryz.sizeOf151
  v77:=Tryz.zeroValue151}
end Go.Proofs
namespace Go.Proofs.YtiopgblagimpmaaGreat.Ab
open Go.RowKit
set_option maxRecDepth 20000
set_option maxHeartbeats 4000000
def clp(z:Int):Int:=if z<0 then 0 else if 1000000<z then 1000000 else z
def Nh(z:Int):0<=clp z/\clp z<=1000000:=by unfold clp;split<;>(try split)<;>omega
def Dk{z:Int}(h:0<=z/\z<=1000000):clp z=z:=by unfold clp;rw[CB ω,CB ω]
def rE(x:dm):List Value:=[.int .i64 (clp x.Id),.int .i64 x.q,.int .i64 x.c7]
def HM(x y:dm):Int:=clp x.Id - clp y.Id
def UB(x y:dm):Go.Proofs.ltOf HM x y=decide (clp x.Id<clp y.Id):=by
 unfold Go.Proofs.ltOf HM;rw[decide_eq_decide];omega
def UG:Go.Sort.SWO (Go.Proofs.ltOf HM) where
 irrefl x:=by rw[UB];simp
 trans x y z h1 h2:=by rw[UB]at *;simp at *;omega
 ntrans x y z h1 h2:=by rw[UB]at *;simp at *;omega
def Po(x y:dm)(W:World):Calls Tryz.prog 95 #[.agg #[.int .i64 (clp x.Id),.int .i64 x.q,.int .i64 x.c7],.agg #[.int .i64 (clp y.Id),.int .i64 y.q,.int .i64 y.c7]] W λe g=>e=.returned (.int .i64 (HM x y))/\∃q c,g=Sort.grow (W.drewN q) c:=by
 have h:=Nh x.Id;have i:=Nh y.Id;have d:IntKind.i64.wrap (clp x.Id - clp y.Id)=HM x y:=eX ω ω;generalize HM x y=r at d |-;generalize clp x.Id=a at d |-;generalize clp y.Id=b at d |-
 go_enter Tryz.func95,Tryz.ntmps95
 go_wp2
 go_ret
 refine⟨?_,0,_,by rw[Sort.alloc_eq_grow,Sort.alloc_eq_grow,Sort.grow_grow];rfl⟩
 rfl
def EZ{w a:World}{g n:Nat}{d:Array Value}{f:Array Obj}{c:Array Value}{e:TypeId}{k:Nat × Nat}(l:w.heap[g]? = some (.cells c e k))(p:a=Sort.grow (Sort.putRow id (Sort.ahead w n) g 0 d) f) :
  a.os=w.os/\a.tape=w.tape/\a.output=w.output/\w.heap.size<=a.heap.size/\(∀b,b<w.heap.size->b≠g->a.heap[b]? = w.heap[b]?)/\a.heap[g]? = some (.cells (Sort.putCells id 0 d c) e k):=by
 subst p;have h:g<w.heap.size:=(I4.1 l).1;have o:∀b,b<w.heap.size->(Sort.grow (Sort.putRow id (Sort.ahead w n) g 0 d) f).heap[b]? = if g=b then(w.heap[b]?).map (Sort.onCells (Sort.putCells id 0 d)) else w.heap[b]?:=λb i=>by
  rw[Sort.heap_grow_old _ _ (by simpa[Sort.putRow,Sort.mapBlock,Sort.ahead] using i)];show(w.heap.modify g _)[b]? = _;rw[Array.getElem?_modify]
 refine⟨rfl,rfl,rfl,?_,λb i j=>?_,?_⟩
 ·show w.heap.size<=((w.heap.modify g _)++f).size
  simp
 ·rw[o b i,CB λe=>j e.symm]
 rw[o g h,CD rfl,l];rfl
def Ny(d:Array Value)(c:Array Value)(q:Nat):(Sort.putCells id 0 d c)[q]? = if q<d.size then(c[q]?).map (λ_=>d[q]!) else c[q]?:=by
 unfold Sort.putCells;rw[Array.getElem?_mapIdx];by_cases h:q<d.size
 ·rw[CD h]
  cases c[q]? with
  | none=>rfl
  | some y=>simp[h]
 rw[CB h];cases c[q]? with
 | none=>rfl
 | some y=>simp[h]
def rT:Value:=.func (.func 95) #[] #[]
def Hj(xs:List dm)(q:Nat):Value:=(rE (nth xs (q / 3)))[q % 3]!
def Ez{xs:List dm}{i j:Nat}(a:j<3):Hj xs (i*3+j)=(rE (nth xs i))[j]!:=by
 unfold Hj;rw[show(i*3+j) / 3=i by omega,show(i*3+j) % 3=j by omega]
def yE(d:Array dm)(i:Nat):d[i]! = nth d.toList i:=by
 unfold nth;rw[I3,Array.getElem?_toList,getElem!_def];cases d[i]?<;>rfl
def GK(d:Array dm){q:Nat}(a:q<d.size*3):(Sort.flatK rE 3 d)[q]! = Hj d.toList q:=by
 rw[Sort.get_flatK _ _ _ _ a,yE];rfl
def yW(xs ys:List dm)(hr:∀x∈xs,0<=x.Id/\x.Id<=1000000)(hl:xs.length<=1048576*64)(hys:∀zs:List dm,zs.Perm xs->zs.Pairwise (λx y=>x.Id<=y.Id)->zs=ys) :
  zzB 94 false [.mut none (gm .own xs),.val none [.v rT]] [.mut none (gm .own ys),.val none [.v rT]] (.tup []) []:=by
 refine⟨⟨_,Tryz.func94,by kernel_rfl,by kernel_rfl⟩,λw S V vs hS hV hVV hA=>?_⟩
 match vs,hA with
 | [v,v2],⟨hA,hA2,_⟩=>
  have hv2:v2=rT:=by
   obtain⟨-,u,rfl,l⟩:=(show bv w S NO none [C.v rT] v2 from hA2)
   obtain⟨f,H,-,-⟩:=l;have:=H 0 _ rfl;have hz:u 0=rT:=by
    generalize u 0=z at this;cases this
    rfl
   exact hz
  subst hv2;have U:=bv.rep1 (show bv w S (V 0) none [C.s .own (xs.map (dm.enc .own))] v from hA);generalize R:C.s .own (xs.map (dm.enc .own))=cc at U;cases U with
  | nil _ o a ho=>
   cases W:xs with
   | cons x xs'=>rw[W]at R;cases R
   | nil=>
    have hy0:ys=[]:=(hys [] (by rw[W]) List.Pairwise.nil).symm;refine(AnyF.slices_SortFunc_none Tryz.sortFact a 0 rT w).mono λe p ⟨he,Z⟩=>?_
    subst Z;refine⟨.tuple #[],he,Ca _ _,NO,λ_=>NO,NO,λ_ _ h=>h.elim,λ_ _ _ h=>h.elim,λ_ _ h=>h.elim,λ_ _ _ _ _ h=>h.elim,λ_ _ _ h=>h.elim,λ_ _ h=>h.elim,λ_ _ _ h=>h.elim,⟨#[],rfl,trivial,rfl⟩,cL.nil _ _ _ _,⟨⟨rfl,λ_=>.slice a 0 0,rfl,row1 (by rw[hy0];exact .nil _ .own _ trivial)⟩,trivial,trivial⟩⟩
  | own _ o g k n M rows u f ho hn hk N hpos hF hu hf hd hc=>
   cases R;have hnx:n=xs.length:=by rw[<-hn,I1]
   have hx0:0<xs.length:=ω
   have hk3:k=3:=by
    have:=hk (dm.enc .own xs[0]) (O5.2 ⟨_,List.getElem_mem hx0,rfl⟩);exact this.symm
   subst hk3 hnx;have O:∀q,q<xs.length*3->cel w g q=some (Hj xs q):=λq B=>by
    have H:=hu q B;have K:q / 3<xs.length:=ω
    have l:(xs.map (dm.enc .own))[q / 3]? = some (dm.enc .own (nth xs (q / 3))):=by rw[Y3,ao K];rfl
    have hid:=Dk (hr _ (am K));have h3:q % 3=0\/q % 3=1\/q % 3=2:=ω
    have J:q / 3*3+q % 3=q:=ω
    unfold Hj rE;rw[H,hid];rcases h3 with e|e|e
    ·have D:=hc (q / 3) 0 _ (I (nth xs (q / 3)).Id) l rfl
     rw[e];rw[e]at J;rw[J]at D;generalize u q=z at D;cases D
     rfl
    ·have D:=hc (q / 3) 1 _ (I (nth xs (q / 3)).q) l rfl
     rw[e];rw[e]at J;rw[J]at D;generalize u q=z at D;cases D
     rfl
    have D:=hc (q / 3) 2 _ (I (nth xs (q / 3)).c7) l rfl;rw[e];rw[e]at J;rw[J]at D;generalize u q=z at D;cases D
    rfl
   have hgs:g<w.heap.size:=(hV 0 g 0 (hF 0 ω).1).1;obtain⟨c,e0,fr,hg,-⟩:=Sort.cells_of_cell? (O 0 ω);have hH:Sort.HoldsK rE 3 w g 0 xs.toArray:=λq B=>by
    have hq':q<xs.length*3:=by simpa using B
    refine⟨?_,?_⟩
    ·rw[GK _ (by simpa using hq'),O8];exact O q hq'
    rw[O8];exact Z0 Prod.fst (hF q (W4 hq' (W8 3 N))).2.2
   have X:=AnyQ.slices_SortFunc Tryz.sortFact 3 Tryz.isAgg168 Tryz.sizeOf168 rE (λ_=>rfl) (λx v hv=>by simp[rE]at hv;rcases hv with rfl|rfl|rfl<;>rfl) HM UG 95 #[] g 0 M xs.toArray w (enters_of Tryz.func95 (by kernel_rfl) rfl) (λ_ _ _ _ x y=>Po x y _) hH hgs (by simp;omega);rw[show xs.toArray.size=xs.length from by simp]at X;refine Calls.mono (show Calls Tryz.prog 94 #[.slice (some ⟨g,0,none⟩) xs.length M,rT] w _ from X) λe p ⟨he,L,m,os,hp,hsd,Z⟩=>?_
   obtain⟨q1,q2,q3,q4,q5,q6⟩:=EZ hg (show p=Sort.grow (Sort.putRow id (Sort.ahead w m) g 0 (Sort.flatK rE 3 L)) os from Z);obtain⟨p1,-,p3⟩:=hp;have hsz:L.size=xs.length:=by simpa using p1
   have hzl:L.toList.length=xs.length:=by simpa using hsz
   have E:L.toList.Perm xs:=by
    have H:(L.extract 0 xs.length).toList=L.toList:=by rw[<-hsz];simp
    have D:(xs.toArray.extract 0 xs.length).toList=xs:=by simp
    rwa [H,D]at p3
   have T:∀y∈L.toList,0<=y.Id/\y.Id<=1000000:=λy hy=>hr y (E.mem_iff.1 hy)
   have P:L.toList.Pairwise λx y=>x.Id<=y.Id:=by
    rw[List.pairwise_iff_getElem];intro i j K F hij;have H:=hsd i j (X0 _) hij ω;rw[yE,yE,bh (X2 K),bh (X2 F),UB,Dk (T _ (List.getElem_mem K)),Dk (T _ (List.getElem_mem F))]at H;have:=of_decide_eq_false H;omega
   have hzy:=hys _ E P;generalize hzz:L.toList=zs at hzl E T P hzy;subst hzy;have Q:∀q,cel w g q=c[q]?:=λq=>by show World.cell? w _=_;unfold World.cell?;simp[hg]
   have G:∀q,cel p g q=if q<xs.length*3 then(c[q]?).map (λ_=>Hj zs q) else c[q]?:=λq=>by
    have H:=Ny (Sort.flatK rE 3 L) c q;have D:(Sort.flatK rE 3 L).size=xs.length*3:=by rw[Sort.size_flatK,hsz]
    rw[D]at H;have h3:cel p g q=(Sort.putCells id 0 (Sort.flatK rE 3 L) c)[q]?:=by show World.cell? p _=_;unfold World.cell?;simp[q6]
    rw[h3,H];by_cases B:q<xs.length*3
    ·rw[CD B,CD B,GK _ ω,hzz]
    rw[CB B,CB B]
   have d:∀q,q<xs.length*3->cel p g q=some (Hj zs q):=λq B=>by
    have H:=O q B;rw[Q]at H;rw[G,CD B,H,V6]
   have Y:∀q,fro p g q=fro w g q:=λq=>by
    refine Prod.ext ?_ ?_
    ·show World.frozen? p _=World.frozen? w _
     unfold World.frozen?;simp[q6,hg]
    show mp p g=mp w g;unfold mp;rw[q6,hg];simp only[Sort.putCells,Array.size_mapIdx]
   have hother:∀b,b<w.heap.size->b≠g->∀o,cel p b o=cel w b o/\fro p b o=fro w b o:=λb hb hne o=>by
    have hb':=q5 b hb hne;refine⟨?_,Prod.ext ?_ ?_⟩
    ·show World.cell? p _=World.cell? w _
     unfold World.cell?;simp only[hb']
    ·show World.frozen? p _=World.frozen? w _
     unfold World.frozen?;simp only[hb']
    show mp p b=mp w b;unfold mp;rw[hb']
   have hcap3:∀q,q<xs.length*3->q<M*3:=λq B=>W4 B (W8 3 N)
   have hkeep:bA (λb o=>∃i,V i b o) w p:=by
    refine⟨q1,q2,q3,q4,λb hb hn=>q5 b hb λe=>?_,λb o hb hn=>?_,λb o hb hn=>?_⟩
    ·subst e;exact hn 0 ⟨0,(hF 0 ω).1⟩
    ·by_cases e:b=g
     ·subst e
      have ho:¬o<xs.length*3:=λh=>hn ⟨0,(hF o (hcap3 o h)).1⟩
      rw[G,CB ho,Q]
     exact(hother b hb e o).1
    by_cases e:b=g
    ·subst e;exact Y o
    exact(hother b hb e o).2
   refine⟨.tuple #[],he,hkeep,NO,Va (V 0),NO,λ_ _ h=>h.elim,λi b o h=>?_,λ_ _ h=>h.elim,λi i' hne b o h h'=>?_,λ_ _ _ h=>h.elim,λ_ _ h=>h.elim,λ_ _ _ _ h=>h.elim,⟨#[],rfl,trivial,rfl⟩,cL.nil _ _ _ _,⟨⟨rfl,λ_=>.slice (some ⟨g,0,none⟩) xs.length M,rfl,row1 ?_⟩,trivial,trivial⟩⟩
   ·cases i with
    | zero=>exact .inl ⟨0,h⟩
    | succ i=>exact h.elim
   ·cases i with
    | zero=>
     cases i' with
     | zero=>exact hne rfl
     | succ i'=>exact h'.elim
    | succ i=>exact h.elim
   show dY p _ (V 0) _ _;refine .own _ .own g 3 xs.length M _ (λq=>(cel p g q).getD undef) (λ_=>NO) trivial (by rw[I1,hzl]) (λr hr=>by obtain⟨z,-,rfl⟩:=O5.1 hr;rfl) N hpos (λq B=>?_) (λq B=>?_) (λ_ _ _ _ h=>h.elim) (λ_ _ _ _ _ _ _ h=>h.elim) (λi j r c2 K F=>?_)
   ·obtain⟨a1,⟨z,a2,a3⟩,a4⟩:=hF q B
    refine⟨a1,?_,(Y q).trans a4⟩;by_cases hqx:q<xs.length*3
    ·refine⟨_,d q hqx,?_⟩
     have h3:q % 3=0\/q % 3=1\/q % 3=2:=ω
     unfold Hj rE;rcases h3 with e|e|e<;>rw[e]<;>rfl
    rw[G,CB hqx,<-Q];exact⟨z,a2,a3⟩
   ·rw[d q B];rfl
   rw[Y3]at K;have hil:i<zs.length:=by
    rcases Nat.lt_or_ge i zs.length with h|h
    ·exact h
    rw[C3 h]at K;cases K
   rw[ao hil]at K;simp only[V6,C1]at K;subst K;have hid:=Dk (T _ (am hil))
   match j,F with
   | 0,F=>
    simp only[dm.enc,List.getElem?_cons_zero,C1]at F;subst F;simp only[d (i*3+0) ω,Option.getD_some,Ez (show 0<3 by omega),rE,hid];exact .v _ _ rfl
   | 1,F=>
    simp only[dm.enc,List.getElem?_cons_succ,List.getElem?_cons_zero,C1]at F;subst F;simp only[d (i*3+1) ω,Option.getD_some,Ez (show 1<3 by omega),rE];exact .v _ _ rfl
   | 2,F=>
    simp only[dm.enc,List.getElem?_cons_succ,List.getElem?_cons_zero,C1]at F;subst F;simp only[d (i*3+2) ω,Option.getD_some,Ez (show 2<3 by omega),rE];exact .v _ _ rfl
   | j+3,F=>simp[dm.enc]at F
  | _=>cases R
set_option maxHeartbeats 2000000
def te(h:ab)(l:ab.sml h):zzA 30 false [.val (some 24) (ab.enc .W h)] .one (gm .own (gN h)):=by
 have c:=fI h l;rw[iw]at c;have p:h.O.length<=1048576:=l.2.2.2.2.1.1;cases a:cJ h<;>rw[a]at c
 ·rw[show gN h=[] by unfold gN;rw[a];rfl]
  refine fP 53 [(94,[1,0])] [] Tryz.func30 rfl ?_ (.inr (xH _))
  repeat'((conv=>whnf);first|with_reducible (first|refine Lm ?_|refine Wm ω ?_|refine Bn ?_|refine jm.wk rfl ?_)|refine Bt ?_|refine Bu ?_|refine C9 (c) ?_)
  exact⟨rfl,trivial⟩
 have n:=E5 a;have d:=KO a;have r:=Kq a;refine fP 53 [(94,[1,0])] [] Tryz.func30 rfl ?_ (.inr (xH _))
 repeat'((conv=>whnf);first|with_reducible (first|refine Lm ?_|refine Wm ω ?_|refine Bn ?_|refine jm.wk rfl ?_)|refine Bt ?_|refine Bu ?_|refine C9 (c) ?_)
 (conv=>whnf)
 refine CG (ι:=Nat) (λi=>[(1,.H .box (ab.enc .W h)),(3,.H .one (gm .own ((h.O.take i).map (pX h.G)))),(14,.H .one (mJ .W h.O)),(15,.H .one [I (h.O.length)]),(16,.H .one [I ((i:Nat):Int)])]) (λi=>i<=h.O.length) (λi=>h.O.length - i) (0) ?_ (X0 _) λi H=>?_
 ·exact wB
 by_cases e:i<h.O.length
 ·have g:=ao e
  obtain⟨J,K,L,M,N,O,-⟩:=wV a e;have t:=Dl h (nth h.O i).Addr (nth h.O i).q n ω ω;have u:=iY h.G (nth h.O i).Addr (nth h.O i).q.toNat
  repeat'(first|refine gE ?_|(conv=>whnf);first|with_reducible refine CE (aa g) ?_|refine C9 (t) ?_)
  (conv=>whnf)
  refine CG (ι:=Nat) (λq=>[(1,.H .box (ab.enc .W h)),(3,.H .one (gm .own ((h.O.take i).map (pX h.G)))),(14,.H .one (mJ .W h.O)),(15,.H .one [I (h.O.length)]),(16,.H .one [I ((i:Nat):Int)]),(5,.H .box (bu.enc .W (nth h.O i))),(6,.H .one [I (AF (cellsOf h.G (nth h.O i).Addr (nth h.O i).q.toNat) q)]),(25,.H .one (aF .own (cellsOf h.G (nth h.O i).Addr (nth h.O i).q.toNat))),(26,.H .one [I ((nth h.O i).q.toNat)]),(27,.H .one [I ((q:Nat):Int)])]) (λq=>q<=(nth h.O i).q.toNat) (λq=>(nth h.O i).q.toNat - q) (0) ?_ (X0 _) λq P=>?_
  ·exact wB
  have w:=Rr (cellsOf h.G (nth h.O i).Addr (nth h.O i).q.toNat) q;by_cases y:q<(nth h.O i).q.toNat
  ·have j:=Fg h.G (nth h.O i).Addr y
   have B:=Lf n ((nth h.O i).Addr+(q:Int));have D:=PG (k:=(q:Int)+1) B ω;have b:(AF (cellsOf h.G (nth h.O i).Addr (nth h.O i).q.toNat) q+((q:Int)+1)*eC h.G ((nth h.O i).Addr+(q:Int))).tmod 9973=AF (cellsOf h.G (nth h.O i).Addr (nth h.O i).q.toNat) (q+1):=by
    rw[dP ω,AF,bh j]
   repeat'(first|refine gE ?_|(conv=>whnf);first|with_reducible refine CE (aa j) ?_|refine CK rfl (aa j) rfl ?_|refine CP (by decide) ?_|refine CS b ?_)
   ((conv=>whnf);refine CF (q+1) ω ω ?_;(exact wB))
  obtain rfl:q=(nth h.O i).q.toNat:=ω
  repeat'(first|refine gE ?_|(conv=>whnf);first|refine Ap.sl (aM λ_=>rfl) rfl (by simp;omega) (by decide) rfl ?_)
  (conv=>whnf)
  refine CF (i+1) ω ω ?_;rw[fB e]
  (repeat'(first|exact trivial|rfl|exact CM rfl (CM (Z0 (C.s dM.own) (by simp[dm.enc,pX])) trivial)|refine CM ?_ ?_))
 obtain rfl:i=h.O.length:=ω
 rw[O6]
 repeat'(first|refine gE ?_|(conv=>whnf);first|refine CL (yW (h.O.map (pX h.G)) (gN h) (λx g=>by obtain⟨o,E,rfl⟩:=O5.1 g;have:=d o E;exact⟨by show 0<=o.Id;omega,by show o.Id<=1000000;omega⟩) (by rw[I1];omega) (λQ F G=>y3 a F G)) (.inl rfl) ?_)
 rfl
def Relieved_law(zs:List Int)(E:zs.length<=9223372036854775807/\∀y∈zs,0<=y/\y<=255):zzA 7 false [.val none (TR zs)] .one [B true]:=by
 have g:=Tp zs E.1;by_cases F:(zs.length:Int) > 1048576
 ·rw[O0 F]at g
  refine fO 74 [(5,267,[16,17,18,19,20,21,22,15,23,24,5,0,1,2,3,4,5,6,7,8,9,10,11,1009,12]),(8,38,[34,35,36,37,38,39,40,41,42,43,44,45,46,47,48,49,50,51,52,53,54,55,56,57,58,59,60,61,62,63,64,65,66,67,68,69,70,71])] Tryz.func7 rfl ?_
  repeat'(first|refine gP ?_|(conv=>whnf);first|refine CC ?_|refine C9 (g) ?_)
  rfl
 rw[W0 F]at g;have G:jO zs:=⟨ω,E.2⟩
 have cD:=zd zs G;have cP:=wn zs G;obtain⟨-,pl,M⟩:=EF zs 12;have c:=GV zs;have k:=Pz zs;have l:=Hk zs;obtain⟨h,n⟩:=Ma zs;generalize drawn zs=w at *;generalize (sW zs 12).1=o at *;have d:=ao (xs:=o) (i:=0) ω;have t:=M _ (am (xs:=o) (i:=0) ω);generalize nth o 0=p at *;have a:=c.inv;have N:=a.to;have O:=a.lens.objs;have P:=dP (y:=4) t.1;have Q:=Int.emod_nonneg p (show(4:Int)≠0 by decide);have R:=Int.emod_lt_of_pos p (show(0:Int)<4 by decide);generalize p % 4=m at *;have H:=Lo w.Z m h n;have s:=JB a c.ji k.ci m;have S:(relieve w.Z m).2=bm w.Z.G.F.U - bm (relieve w.Z m).1.G.F.U:=by
  unfold relieve;split
  ·rfl
  show(0:Int)=bm w.Z.G.F.U - bm w.Z.G.F.U;omega
 rw[S]at H;generalize (relieve w.Z m).1=X at *;have j:ab.sml X:=(s.inv.fit (by rw[s.rf];exact l) (lY.of s.inv.mail).sml).sml;have T:=te w.Z h;have J:=te X j;rw[J4 a s.inv s.kp s.ob s.nx]at J;have U:=LT a;have V:=AH (gN w.Z) ω;have W:=oN w.Z.G.F.U h.1.1.1;have Y:=oN X.G.F.U j.1.1.1;have K:=fI X j;rw[iw,s.inv.to]at K;have Z:=oF w.Z h;have c9:=oF X j;have hu:=s.us;have C:=s.ul;have b1:=kh w.Z.G.F.U (by have:=aO.1 (a7.1 a.ker).2.1;omega);have b2:=kh X.G.F.U (by have:=aO.1 (a7.1 s.inv.ker).2.1;omega);have hpr:ij X<=ij w.Z:=by
  unfold ij;rw[CD s.inv.to,CD N,C];exact Int.ediv_le_ediv (by have:=aO.1 (a7.1 a.ker).2.1;omega) ω
 have b:=m7 X;have e:=Ht (gN w.Z);have D:=aW.enc_fz X.G.F.U;generalize gN w.Z=L at *;generalize bm X.G.F.U=u at *;generalize hV:bm w.Z.G.F.U=v at *;generalize ij X=q at *;generalize hQ:ij w.Z=r at *;refine fO 74 [(5,267,[16,17,18,19,20,21,22,15,23,24,5,0,1,2,3,4,5,6,7,8,9,10,11,1009,12]),(8,38,[34,35,36,37,38,39,40,41,42,43,44,45,46,47,48,49,50,51,52,53,54,55,56,57,58,59,60,61,62,63,64,65,66,67,68,69,70,71])] Tryz.func7 rfl ?_
 repeat'(first|refine gB ?_|(conv=>whnf);first|refine CC ?_|refine CE (aa d) ?_|refine CK rfl (aa d) rfl ?_|refine CP ω ?_|refine CS P ?_|refine C9 (g) ?_|refine C9 (cD) ?_|refine C9 (cP) ?_|refine CH (H) ⟨⟨rfl,ab.enc_fz _⟩,⟨rfl,rfl⟩,trivial⟩ ?_|refine CH (T) ⟨⟨rfl,ab.enc_fz _⟩,trivial⟩ ?_|refine CH (J) ⟨⟨rfl,b⟩,trivial⟩ ?_|refine CH (V) ⟨⟨rfl,e⟩,⟨rfl,e⟩,trivial⟩ ?_|refine CH (W) ⟨⟨rfl,aW.enc_fz _⟩,trivial⟩ ?_|refine CH (Y) ⟨⟨rfl,D⟩,trivial⟩ ?_|refine CH (K) ⟨⟨rfl,b⟩,trivial⟩ ?_|refine CH (Z) ⟨⟨rfl,ab.enc_fz _⟩,trivial⟩ ?_|refine CH (c9) ⟨⟨rfl,b⟩,trivial⟩ ?_|refine CC ?_)
 all_goals first|rfl|exact Z0 (λz=>[B z]) (O0 ω)
open Go.RowKit Go.ChangeShapes Go.WideShapes Go.Deep
def ALL(w:World):ah:=λb _=>b<w.heap.size
def UE{H:Type}(e:TypeId × Value->H)(P:Program)(w:World)(t n:Nat){α:Type}(enc:α->List C)(c:α->Prop):Prop:=
 ∀(fuel:Nat)(b:List Value)(x:DataW H × List MemPlace),DataW.trod e P w 0 (λ_=>true) true fuel t b=some x->b.length=n/\∃a,c a/\(enc a).length=n/\cL w (ALL w) NO (enc a) (λj=>b.getD j undef)
section
variable{H:Type}{e:TypeId × Value->H}{P:Program}{w:World}
variable{u:Nat->Value}
def DO{S F:ah}{c:C}(h:dY w S F c (u 0)):cL w S F [c] u:=
 ⟨λ_=>F,λj e a=>by cases j with
   | zero=>simp at a;subst a;exact h
   | succ j=>simp at a,λ_ _ _ _ h=>h,λj f a b d=>by simp at a b;omega⟩
def pick{α β:Type}(n:Nat){Q:Nat->β->Prop}(h:∀i,i<n->∃b,Q i b):∃l:List β,l.length=n/\∀i b,l[i]? = some b->Q i b:=by
 induction n with
 | zero=>exact⟨[],rfl,λi b h=>by simp at h⟩
 | succ n c=>
  obtain⟨l,d,e⟩:=c λi a=>h i ω
  obtain⟨b,f⟩:=h n ω;refine⟨l++[b],by simp[d],λi g a=>?_⟩;by_cases j:i<n
  ·rw[W5 ω]at a;exact e i g a
  rw[X5 ω]at a;have:i - l.length=0:=by
   have:=(Z2.1 a).1;simp at this;omega
  rw[this]at a;simp at a;subst a;rw[show i=n by omega];exact f
theorem P4{t T n:Nat}{α:Type}{enc:α->List C}{U:α->Prop}(V:UE e P w T n enc U)(ht:P.underlying t=some (.slice T))(hn:P.cellsOf T=n)(p:0<n) :
  UE e P w t 1 (λxs:List α=>[.s .W (xs.map enc)]) (λxs=>xs.length<=9223372036854775807/\∀y∈xs,U y):=by
 intro fuel cs x h;rcases open_slice ht h with⟨rfl,-⟩|⟨k,len,cap,m,n',D,Pl,rfl,-,hl,hm,K,-,u⟩
 ·exact⟨rfl,[],⟨by simp,by simp⟩,rfl,DO (.nil _ _ _ trivial)⟩
 simp only[if_true]at K;subst K;have L:0<m->k.spot=none:=λW=>by
  obtain⟨E,M,N⟩:=u 0 W;rw[hn]at M;obtain⟨_,X,F⟩:=World.cells?_some M;have:=F 0 p;rw[X2 ω]at this;have:=World.cell?_spot this;simpa[Addr.add] using this
 have key:∀i,i<len->∃a,U a/\(enc a).length=n/\(∀d,d<n->∃z,cel w k.block (k.off+(i*n+d))=some z)/\k.spot=none/\cL w (ALL w) NO (enc a) (λd=>(cel w k.block (k.off+(i*n+d))).getD undef):=λi hil=>by
  have g:=L ω;obtain⟨E,M,N⟩:=u i ω;rw[hn]at M;obtain⟨h1,a,h3,h4,h5⟩:=V _ _ _ N;obtain⟨_,X,F⟩:=World.cells?_some M;have O:∀d,k.add d = ⟨k.block,k.off+d,none⟩:=λd=>by
   obtain⟨b,o,sp⟩:=k;simp only at g;subst g;unfold Addr.add;split<;>simp_all
  have A:∀d,d<n->cel w k.block (k.off+(i*n+d))=E[d]?:=λd J=>by
   have:=F d J;rw[Go.Deep.add_add,O]at this;exact this
  refine⟨a,h3,h4,λd J=>⟨_,by rw[A d J,X2 ω]⟩,g,h5.congr λd J=>?_⟩;show(cel w k.block (k.off+(i*n+d))).getD undef=E.getD d undef;rw[A d ω,List.getD]
 obtain⟨l,Q,B⟩:=pick (α:=α) len key;refine⟨rfl,l,⟨by simp only[maxLen]at hm;omega,λy R=>?_⟩,rfl,DO ?_⟩
 ·obtain⟨i,G⟩:=List.mem_iff_getElem?.1 R
  exact(B i y G).1
 show dY w (ALL w) NO (.s .W (l.map enc)) (.slice (some k) len m);by_cases h0:len=0
 ·subst h0
  have:l=[]:=X8 Q;subst this;by_cases Y:m=0
  ·subst Y;exact .nil _ _ _ trivial
  have g:=L ω;obtain⟨b,o,sp⟩:=k;simp only at g;subst g;exact .W _ b o n 0 m [] (λ_=>undef) rfl (λr Z=>by simp at Z) hl (λq hq=>by simp at hq) (λi j r c u=>by simp at u)
 obtain⟨y0,hy0⟩ : ∃y,l[0]? = some y:=⟨_,X2 ω⟩
 have g:=(B 0 y0 hy0).2.2.2.1;obtain⟨b,o,sp⟩:=k;simp only at g;subst g;refine .W _ b o n len m (l.map enc) (λq=>(cel w b (o+q)).getD undef) (by simpa using Q) (λr Z=>?_) hl (λq hq=>?_) (λi j r c u hj=>?_)
 ·obtain⟨y,R,rfl⟩:=O5.1 Z
  obtain⟨i,G⟩:=List.mem_iff_getElem?.1 R;exact(B i y G).2.1
 ·have hqd:q / n<len:=(Nat.div_lt_iff_lt_mul p).2 hq
  obtain⟨y,R⟩ : ∃y,l[q / n]? = some y:=⟨_,X2 ω⟩
  obtain⟨z,S⟩:=(B _ y R).2.2.1 (q % n) (Nat.mod_lt _ p);have J:q / n*n+q % n=q:=by rw[Nat.mul_comm];exact Nat.div_add_mod q n
  rw[J]at S;exact⟨Tu S,by simp only at S |-;rw[S];rfl⟩
 rw[Y3]at u;cases H:l[i]? with
 | none=>rw[H]at u;cases u
 | some y=>
  rw[H]at u;simp only[V6,C1]at u;subst u;obtain⟨f,h1,h2,-⟩:=(B i y H).2.2.2.2;have hjl:=(Z2.1 hj).1;exact(h1 j c hj).mono (λ_ _ h=>h) (h2 j hjl)
def row_val{S F:ah}{x:Value}(h:cL w S F [.v x] u):u 0=x:=by
 obtain⟨f,a,-⟩:=h;have:=a 0 _ rfl;cases this
 rfl
end
open Go.RowKit Go.ChangeShapes Go.WideShapes
section
variable{H:Type}{e:TypeId × Value->H}{P:Program}{w:World}
def R3{t:Nat}(b:P.underlying t=some (.int .u8)):UE e P w t 1 rU (λz=>0<=z/\z<=255):=by
 intro fuel c x h;obtain⟨n,rfl,-,a⟩:=DataW.trod_int b h;refine⟨rfl,n,?_,rfl,DO (.v _ _ rfl)⟩;simp only[Lit.wf,I0,C0]at a;exact a
def op_ByteS:UE e Tryz.prog w 22 1 (λzs:List Int=>[.s .W (zs.map rU)]) (λzs=>zs.length<=9223372036854775807/\∀y∈zs,0<=y/\y<=255):=P4 (R3 Tryz.underlying5) Tryz.underlying22 (by kernel_rfl) (by decide)
end
end Go.Proofs.YtiopgblagimpmaaGreat.Ab
