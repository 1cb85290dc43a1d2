/- Freeing and allocating: what objects hold is kept, and what is new is zero. No condition. -/
import Derived.Test.YtecefhjnejfheaaGreatKed
import Derived.Test.YtecefhjnejfheaaGreatKeh
import Derived.Test.YtecefhjnejfheaaGreatKeg
import Derived.Test.YtecefhjnejfheaaGreatKef
import Derived.Laws.StructEq
import Derived.Shelf.SlGeneric
import Derived.Shelf.SlSortCmp.NoneTotal
import Derived.Ground.SlsfProg
import Derived.Test.YtecefhjnejfheaaGreatProg
import Derived.Test.YtecefhjnejfheaaGreatKee
import Derived.WalkKit
import Derived.ProofKit
import Derived.OpenShut
import Derived.Deep.Slices
import Derived.Deep.Fields
import Derived.ChangeSame
import Derived.WideShapes
set_option linter.unusedVariables false
set_option linter.unusedSimpArgs false
set_option linter.constructorNameAsVariable false
namespace Go.Proofs.YtecefhjnejfheaaGreat.Ab
theorem nC{k:ah}(h:a7 k=true){f:Nat}(d:∀p:Int,(ac k.F.R p).j≠0->(ac k.F.R p).e≠f)(c:Nat):cl k f c=0:=by
 obtain⟨-,i,-,j,-⟩:=aD.1 h;obtain⟨-,-,w,n⟩:=aW.1 i;unfold cl;by_cases o:f<k.F.V.S.length
 ·have r:nth k.F.V.a9 f=false:=by
   rw[j f ω,T4];intro a;obtain⟨q,y,t,u⟩:=dL.1 a;have e:ac k.F.R (q:Nat)=nth k.F.R.J q:=by unfold ac;rw[C9 ⟨ω,ω⟩];rfl
   exact d (q:Nat) (by rw[e];exact t) (by rw[e];exact u)
  have b:=n f o;unfold gF at b;rw[r]at b;simp only[I0,C0,W3]at b;by_cases g:c<(nth k.F.V.S f).length
  ·have:=b.2 _ (am g)
   unfold ij at this;rw[I0,Bool.false_or,C0,C0]at this;exact this.2
  unfold nth;rw[I2 (l:=List.getD _ _ _),C2 (by unfold nth at g;omega)];rfl
 have:nth k.F.V.S f=[]:=by
  unfold nth;rw[I2,C2 ω];rfl
 rw[this];rfl
theorem CI.freeL{h:ab}{E:List Int}(d:aV h E)(T:CI h){i k:Nat}(O:i<h.O.length)(r:k<h.K.length)(U:(nth h.O i).Addr=16*(nth h.K k).Q):CI (freeL h i k)/\Kp h (freeL h i k):=by
 obtain⟨V,W⟩:=ss d r;have t:=d.L.lok _ (am r);have X:=aM t;have kl:=KL.unmN d.ker V _ W;have ker:=iM d.ker (nth h.K k).Q (nth h.K k).a2.toNat;have u:=(fo h.G (nth h.K k).Q (nth h.K k).a2.toNat).1;have notO:∀o∈dele h.O i,o≠nth h.O i/\o∈h.O:=λo n=>by
  obtain⟨j,y,Y,rfl⟩:=cQ.1 n;exact⟨λe=>Y (cE (f:=(·.Addr)) (cN d.osr) y O (by rw[e])),am y⟩
 have onL:∀b:Int,(nth h.K k).Q<=b / 16->b / 16<(nth h.K k).Q+((nth h.K k).a2.toNat:Nat)->∀f c:Nat,At h.G b f c->LF h (nth h.O i).Addr f c:=λb h1 h2 f c g=>.inr ⟨_,am r,U,b,ω,ω,g⟩
 refine CI.kern d T (λo n=>(notO o n).2) rfl rfl (λo n Z f c h16 C=>?_) (λq hq=>?_) (λhm=>?_) (λo n j D P=>?_) kl.cel (λ_ s' F _=>⟨s',F,rfl,rfl,λ_ h=>h⟩)
 ·-- the object itself
  have G:o=nth h.O i:=by
   refine Classical.byContradiction λe=>Z ?_
   obtain⟨j,y,rfl⟩:=aJ n;exact cQ.2 ⟨j,y,λx=>e (by rw[x]),rfl⟩
  subst G;rcases kl.cel f c with e|e
  ·refine nC ker (λp A H=>?_) c
   obtain⟨j,D,P,g⟩:=C;have hsz:(nth h.O i).o<=16*(nth h.K k).a2:=by
    rcases d.oow _ n with⟨s,J,Q,-⟩|⟨l,R,e1,e2⟩
    ·exact absurd (show s.Q=(nth h.K k).Q+((0:Nat):Int) by have:=Q.1;have:=Q.2.1;omega) (d.L.dis s J _ (am r) 0 ω)
    obtain⟨m,K,rfl⟩:=aJ R;have:=d.L.one m k K r 0 0 (by have:=aM (d.L.lok _ R);omega) ω ω;subst this;unfold bE at t;rw[C0]at t;omega
   by_cases B:(nth h.K k).Q<=p/\p<(nth h.K k).Q+((nth h.K k).a2.toNat:Nat)
   ·exact A (kl.ins p B.1 B.2)
   have w:=kl.out p B;change ac (unmN h.G (nth h.K k).Q (nth h.K k).a2.toNat).F.R p=_ at w;change (ac (unmN h.G (nth h.K k).Q (nth h.K k).a2.toNat).F.R p).j≠0 at A;change (ac (unmN h.G (nth h.K k).Q (nth h.K k).a2.toNat).F.R p).e=_ at H;rw[w]at A H;have:=kY d (am r) (b:=(nth h.O i).Addr+j) ω ω g A H;omega
  exact e.1
 ·have:=kl.md u q (by show(nth (tbl (Ab.freeL h i k)).J q).j≠0;omega)
  show(nth h.G.F.R.J q).j=1;rw[<-this];exact hq
 ·obtain⟨-,⟨a,ha,M⟩,b,hb,eb⟩:=d.job hm
  have no:∀s∈h.M,¬((nth h.K k).Q<=s.Q/\s.Q<(nth h.K k).Q+((nth h.K k).a2.toNat:Nat)):=λs J B=>d.L.dis s J _ (am r) (s.Q - (nth h.K k).Q).toNat ω ω
  exact⟨by rw[<-M];exact kl.out _ (no a ha),by rw[<-eb];exact kl.out _ (no b hb)⟩
 obtain⟨o1,N⟩:=notO o n;refine kl.out _ λS=>o1 ?_
 have g:=At.mk' d.ker (cG d N (k:=j) ⟨D,ω⟩).1;have e:=uR d (jq d N ⟨j,D,P,g⟩) (onL _ S.1 S.2 _ _ g);obtain⟨m,K,rfl⟩:=aJ N;rw[cE (f:=(·.Addr)) (cN d.osr) K O e]
theorem CI.freeT{h:ab}{t i:Nat}(b:aV h [])(c:JI h)(d:CI h)(e:i<h.O.length)(n:t<h.T.length):CI (freeT h t i).1/\Kp h (freeT h t i).1:=by
 unfold Ab.freeT;split
 ·rename_i a
  obtain⟨l,o,f,-⟩:=(dA b (am e)).1 a;obtain⟨g,j,-⟩:=uI o f;exact CI.freeL b d e g j
 rename_i a;split
 ·exact⟨d,CX h⟩
 rename_i k;split
 ·obtain⟨p,g⟩:=CI.clearO (h':=inQuar h i) b c d e a k rfl rfl rfl rfl rfl
  have f:=b.inQuar e a;obtain⟨q,j⟩:=CI.recycs (t:=t) (E:=[]) (az:=(xN h.a6 (kK h (nth h.O i))).map (·.Addr)) (h:=inQuar h i) (by rw[List.append_nil];exact f) n p;exact⟨q,g.trans j⟩
 split
 ·exact CI.clearO (h':=KB h t i) b c d e a k rfl rfl rfl rfl rfl
 exact⟨d,CX h⟩
structure KA(k k':ah)(lo n:Int):Prop where
 out:∀q:Int,¬(lo<=q/\q<lo+n)->ac k'.F.R q=ac k.F.R q
 md:∀q:Nat,(nth k'.F.R.J q).j=1->(nth k.F.R.J q).j=1
 cel:∀f c:Nat,cl k' f c=cl k f c
theorem Lk{k a:ah}{lo n:Int}(b:a.F.R.J.length=k.F.R.J.length)(h:∀q:Nat,¬(lo<=q/\(q:Int)<lo+n)->nth a.F.R.J q=nth k.F.R.J q)(q:Int)(c:¬(lo<=q/\q<lo+n)):ac a.F.R q=ac k.F.R q:=by
 unfold ac;rw[b];by_cases e:0<=q/\q<k.F.R.J.length
 ·rw[C9 e,C9 e];exact h q.toNat ω
 rw[C8 e,C8 e]
theorem KA.newK{k:ah}{p:Int}{r:ah × Bool}(s:up k p r):KA k r.1 p 1:=by
 cases e:r.2 with
 | false=>rw[s.no e];exact⟨λ_ _=>rfl,λ_ h=>h,λ_ _=>rfl⟩
 | true=>
  obtain⟨f,-,-,b,-⟩:=s.yes e;refine⟨Lk s.len λq a=>by rw[b,C8 ω],λq a=>?_,λf c=>by unfold cl;rw[s.cells]⟩;rw[b]at a;split at a
  ·exact absurd a (by show ¬(2:Int)=1;decide)
  exact a
theorem KA.newsK{k:ah}{p:Int}{n:Nat}{r:ah × Nat}(s:lf k p n r):KA k r.1 p r.2:=by
 refine⟨Lk s.len s.out,λq a=>?_,λf c=>by unfold cl;rw[s.cells]⟩;by_cases e:p<=q/\(q:Int)<p+r.2
 ·rw[(s.new q e.1 e.2).1]at a;exact absurd a (by decide)
 rw[s.out q e]at a;exact a
theorem ni{h:ab}{E:List Int}(d:aV h E){lo n:Int}(b:∀q:Nat,lo<=q->(q:Int)<lo+n->(nth (tbl h).J q).j=0){p:Int}(a:(ac (tbl h) p).j≠0):¬(lo<=p/\p<lo+n):=λe=>by
 obtain⟨f,-,c⟩:=lU a;rw[c]at a;exact a (b p.toNat ω ω)
theorem CI.mapped{h h':ab}{E:List Int}(b:aV h E)(t:CI h){lo n:Int}(e:KA h.G h'.G lo n)(g:∀q:Nat,lo<=q->(q:Int)<lo+n->(nth (tbl h).J q).j=0)(i:h'.O=h.O)(u:h'.Y=h.Y)(l:h'.u=h.u)(p:h.u=true->∀d∈h'.M,d.Q=h.Y.W.a4\/d.Q=h.Y.W.a1->d∈h.M):CI h'/\Kp h h':=by
 refine CI.kern b t (λo a=>by rw[<-i];exact a) u l (λo a r=>absurd (by rw[i];exact a) r) e.md (λa=>?_) (λo a j w C=>?_) (λf c=>.inl (e.cel f c)) (λa d r y=>⟨d,p a d r y,rfl,rfl,λ_ h=>h⟩)
 ·obtain⟨A,B⟩:=b.jobM a
  exact⟨e.out _ (ni b g A),e.out _ (ni b g B)⟩
 rw[i]at a;exact e.out _ (ni b g (cG b a (k:=j) ⟨w,ω⟩).1)
structure CA(h:ab)(r:ab):Prop where
 ci:CI r
 kp:Kp h r
 ob:r.O=h.O
theorem CI.slotT{h:ab}(e:CI h){i:Nat}(t:i<h.M.length)(a:fJ h (nth h.M i).Q=false):CI (slotT h i):=by
 refine e.keep rfl rfl (λq h=>h) (λ_=>⟨rfl,rfl⟩) (λf c _ _=>.inl rfl) (λo g f c _ b _=>⟨o,g,b⟩) (λ_ c _=>⟨rfl,rfl⟩) λk u d l=>?_
 rcases dI d with rfl|⟨j,n,-,rfl⟩
 ·obtain⟨p,r⟩:=vo a k
  exact(l.elim p r).elim
 exact⟨_,am n,rfl,rfl,λ_ h=>h⟩
theorem CI.smallA{h:ab}{t c:Nat}(d:aV h [])(a:CI h)(V:t<h.T.length)(G:c<=3)(H:h.G.Calls<=90000):CA h (smallA h t c).1:=by
 unfold Ab.smallA;split
 ·exact⟨⟨a.z,a.jv,a.jd,a.jc,a.jn,a.m1,a.m2⟩,CX h,rfl⟩
 split
 ·rename_i i D
  have o:=List.find?_some D;have b:=List.mem_range.1 (List.mem_of_find?_eq_some D);unfold rQ at o;simp only[I0,C0,Bool.not_eq_true']at o;exact⟨CI.slotT a b o.2.1,CX h,rfl⟩
 split
 ·exact⟨a,CX h,rfl⟩
 rename_i J;have f:(au h.q 1).2.2=true:=by simpa using J
 obtain⟨K,L,r,E⟩:=jm d (W4 1) f;have s:=up.of (p:=(au h.q 1).2.1) d.ker ω ⟨K,by have:(au h.q 1).2.1+1<=(h.G.F.R.J.length:Nat):=L;omega⟩ (r _ ω ω);have F:=KA.newK s;split
 ·obtain⟨g,j⟩:=CI.mapped (h':={h with G:=(newK h.G (au h.q 1).2.1).1}) d a F (λq u w=>r q u w) rfl rfl rfl (λ_ k b _=>b)
  exact⟨g,j,rfl⟩
 rename_i M;have A:(newK h.G (au h.q 1).2.1).2=true:=by simpa using M
 have k:up h.G (au h.q 1).2.1 ((newK h.G (au h.q 1).2.1).1,true):=by rw[<-A];exact s
 have W:=d.addS (c:=c) ⟨ω,ω⟩ f k;have N:JK h (qr h c):=JK.addS k;have jno:∀l:h.u=true,(au h.q 1).2.1≠h.Y.W.a4/\(au h.q 1).2.1≠h.Y.W.a1:=λl=>by
  obtain⟨-,⟨y,O,P⟩,⟨z,Q,R⟩⟩:=d.job l;exact⟨λe=>E _ (W4 _) ω (by rw[e,<-P];exact dx O),λe=>E _ (W4 _) ω (by rw[e,<-R];exact dx Q)⟩
 obtain⟨g,j⟩:=CI.mapped (h':=qr h c) d a F (λq u w=>r q u w) rfl rfl rfl (λl k b S=>by
   rcases cA.1 b with rfl|b
   · obtain⟨B,C⟩:=jno l
     exact(S.elim B C).elim
   exact b)
 obtain⟨T,U⟩:=AW (Fi (au h.q 1).2.1) h.M ⟨(au h.q 1).2.1,c,0⟩;unfold pH;split
 ·exact⟨g,j,rfl⟩
 refine⟨CI.slotT (h:=qr h c) g (i:=pN h) T ?_,j,rfl⟩;show fJ (qr h c) (nth (iZ (Fi (au h.q 1).2.1) h.M ⟨(au h.q 1).2.1,c,0⟩) (pN h)).Q=false;unfold pN;rw[U,N.pg,<-C5];intro n;unfold fJ at n;simp only[I0,X5,C0]at n;obtain⟨B,C⟩:=jno n.1;exact n.2.elim B C
structure Qj(h h':ab)(x:br):Prop where
 mem:∀o,o∈h'.O↔o=x\/o∈h.O
 ze:∀j:Int,0<=j->j<x.o->dG h'.G (x.Addr+j)=0
 ke:∀o∈h.O,∀j:Int,0<=j->j<o.o->dG h'.G (o.Addr+j)=dG h.G (o.Addr+j)
theorem Qj.of{h g h':ab}{E L:List Int}{x:br}(A:aV g E)(M:CI g)(b:aV h' L)(r:JI h')(B:CI h')(C:∀p:Int,(ac (tbl g) p).j≠0->ac (tbl h') p=ac (tbl g) p)(d:∀f c,cl h'.G f c=cl g.G f c)(l:∀o,o∈h'.O↔o=x\/o∈g.O)(N:x∉g.O)(G:h'.Y=g.Y)(O:h'.u=g.u)(D:g.O=h.O)(P:Kp h g):Qj h h' x:=by
 have Q:∀o∈g.O,∀f c:Nat,po g o f c->po h' o f c:=λo D f c ⟨j,n,t,a⟩=>by
  have e:=C _ a.m;unfold tbl at e;exact⟨j,n,t,by rw[e];exact a.m,by rw[e];exact a.f,a.c⟩
 refine⟨λo=>by rw[l,D],λj n t=>?_,λo u j n t=>?_⟩
 ·have q:=(l x).2 (.inl rfl)
  have a:=At.mk' b.ker (cG b q (k:=j) ⟨n,ω⟩).1;rw[a.cell];refine Classical.byContradiction λH=>?_
  have w:((x.Addr+j) % 16).toNat<16:=ω
  rw[d]at H;have i:po h' x _ _:=⟨j,n,t,a⟩
  rcases M.z _ _ w H with⟨o,u,F⟩|⟨J,R,S⟩
  ·have:=Hk b ((l o).2 (.inr u)) q (Q o u _ _ F) i
   subst this;exact N u
  refine rd b r B (by rw[O];exact J) (jq b q i) w (by rw[G];exact List.mem_of_mem_take S) ?_;rw[G,C _ (A.jobM J).1];exact R
 have K:o∈g.O:=by rw[D];exact u
 refine Eq.trans ?_ ((P o K).2 j n t);have a:=At.mk' A.ker (cG A K (k:=j) ⟨n,ω⟩).1;have e:=C _ a.m;have y:At h'.G (o.Addr+j) (cL g.G (o.Addr+j)) ((o.Addr+j) % 16).toNat:=by
  unfold tbl at e;exact⟨by rw[e];exact a.m,by rw[e];exact a.f,a.c⟩
 rw[y.cell,a.cell,d]
theorem CI.addO{h:ab}(e:CI h)(a size t:Int):CI (addO h a size t):=
 e.keep rfl rfl (λq h=>h) (λ_=>⟨rfl,rfl⟩) (λf c _ _=>.inl rfl) (λo g f c _ b _=>⟨o,cA.2 (.inr g),b⟩) (λ_ c _=>⟨rfl,rfl⟩) λ_ i d _=>⟨i,d,rfl,rfl,λ_ h=>h⟩
structure AL(h:ab)(t size:Int)(r:ab × Int × Int):Prop where
 ci:CI r.1
 no:r.2.2≠0->r.1.O=h.O/\Kp h r.1/\r.1.a=h.a/\r.2.1 = -1
 yes:r.2.2=0->Qj h r.1 ⟨h.a,r.2.1,size,t⟩/\r.1.a=h.a+1/\1<=size/\size<=1000/\0<=r.2.1
theorem Lb{h:ab}{E:List Int}(b:aV h E){a size t:Int} : (⟨h.a,a,size,t⟩ : br)∉h.O:=λc=>by
 have:=(b.onu _ c).2.1;simp only at this;omega
theorem CI.largeA{h:ab}{t size:Int}(b:aV h [])(C:JI h)(y:CI h)(L:9<=size/\size<=1000)(D:h.a<1000000)(E:h.G.Calls<=90000)(U:0<=t/\t<=h.T.length - 1):AL h t size (largeA h t size):=by
 have hl:(gL size:Int)=(size+15) / 16:=by unfold gL;omega
 have a:=yH b L D E U;unfold Ab.largeA at a |-;by_cases F:(au h.q (gL size:Nat)).2.2=false
 ·rw[C9 F]
  exact⟨y,λ_=>⟨rfl,CX h,rfl,rfl⟩,λe=>by cases e⟩
 rw[C8 F]at a |-;have G:(au h.q (gL size:Nat)).2.2=true:=by simpa using F
 obtain⟨M,N,O,u4⟩:=jm b (show(1:Int)<=(gL size:Nat) by omega) G;have s:lf h.G (au h.q (gL size:Nat)).2.1 (gL size) (d7 h size):=lf.of (p:=(au h.q (gL size:Nat)).2.1) (n:=gL size) b.ker ω ⟨M,N⟩ O (gL size) (W2 _);have d:=KA.newsK s;have V:=s.le;have i:∀q:Nat,(au h.q (gL size:Nat)).2.1<=q->(q:Int)<(au h.q (gL size:Nat)).2.1+(d7 h size).2->(nth (tbl h).J q).j=0:=λq W q2=>O q W ω
 by_cases P:(d7 h size).2=gL size
 ·rw[C9 P]at a |-
  obtain⟨Q,H⟩:=a;have ji1:=C.keep Q H;have w:∀o,o∈(addL h (d7 h size).1 (au h.q (gL size:Nat)).1 (au h.q (gL size:Nat)).2.1 (gL size:Nat) size t).O↔o = ⟨h.a,16*(au h.q (gL size:Nat)).2.1,size,t⟩\/o∈h.O:=λo=>cA
  have X:=CI.mapped (h':={h with G:=(d7 h size).1}) b y d i rfl rfl rfl (λ_ A Y _=>Y);have B:CI (addL h (d7 h size).1 (au h.q (gL size:Nat)).1 (au h.q (gL size:Nat)).2.1 (gL size:Nat) size t):=
   X.1.keep rfl rfl (λq h=>h) (λ_=>⟨rfl,rfl⟩) (λf c _ _=>.inl rfl) (λo l f c _ J _=>⟨o,cA.2 (.inr l),J⟩) (λ_ c _=>⟨rfl,rfl⟩) λ_ A r _=>⟨A,r,rfl,rfl,λ_ h=>h⟩
  refine⟨B,λe=>absurd rfl e,λ_=>⟨?_,rfl,ω,L.2,by show 0<=16*_;omega⟩⟩;exact Qj.of (g:=h) b y Q ji1 B (λp Z=>d.out p (ni b i Z)) d.cel w (Lb b) rfl rfl rfl (CX h)
 rw[C8 P]at a |-;have K:=s.len;have kl:=KL.unmN s.ker M (d7 h size).2 (by rw[K];have:(au h.q (gL size:Nat)).2.1+((gL size:Nat):Int)<=(h.G.F.R.J.length:Nat):=N;omega);have u:=((fo (d7 h size).1 (au h.q (gL size:Nat)).2.1 (d7 h size).2).1)
 obtain⟨B,k1⟩:=CI.kern (h':={h with G:=unmN (d7 h size).1 (au h.q (gL size:Nat)).2.1 (d7 h size).2}) b y (λo l=>l) rfl rfl (λo l D=>absurd l D) (λq R=>d.md q (by rw[<-kl.md u q (by show(nth (unmN (d7 h size).1 _ _).F.R.J q).j≠0;have:(nth (unmN (d7 h size).1 (au h.q (gL size:Nat)).2.1 (d7 h size).2).F.R.J q).j=1:=R;omega)];exact R)) (λhm=>by
     obtain⟨S,T⟩:=b.jobM hm;exact⟨(kl.out _ (ni b i S)).trans (d.out _ (ni b i S)),(kl.out _ (ni b i T)).trans (d.out _ (ni b i T))⟩) (λo l j H j2=>by
     have:=ni b i (cG b l (k:=j) ⟨H,ω⟩).1;exact(kl.out _ this).trans (d.out _ this)) (λf c=>by
     rcases kl.cel f c with e|e
     · exact .inl (e.trans (d.cel f c))
     exact .inr e) (λ_ A r _=>⟨A,r,rfl,rfl,λ_ h=>h⟩)
 exact⟨B,λ_=>⟨rfl,k1,rfl,rfl⟩,λe=>by cases e⟩
theorem CI.allocH{h:ab}{t size:Int}(i:aV h [])(f:JI h)(j:CI h):AL h t size (allocH h t size):=by
 have a:=zA (t:=t) (size:=size) i;have no:∀n:Int,n≠0->AL h t size (h,-1,n):=λn B=>⟨j,λ_=>⟨rfl,CX h,rfl,rfl⟩,λe=>absurd e B⟩
 unfold Ab.allocH at a |-;by_cases k:1000000<=h.a\/90000<h.G.Calls
 ·rw[C9 k];exact no 5 (by decide)
 rw[C8 k]at a |-;by_cases l:¬(0<=t/\t<=h.T.length - 1)
 ·rw[C9 l];exact no 1 (by decide)
 rw[C8 l]at a |-;by_cases q:¬(1<=size/\size<=1000)
 ·rw[C9 q];exact no 2 (by decide)
 rw[C8 q]at a |-;by_cases u:h.c3<so h+size
 ·rw[C9 u];exact no 3 (by decide)
 rw[C8 u]at a |-;by_cases b:0<=aI size
 ·rw[C9 b]at a |-
  have C:aI size<=3:=by unfold aI;repeat' split<;>omega
  have s:=sP (t:=t.toNat) (c:=(aI size).toNat) i ω ω ω;have d:=CI.smallA (t:=t.toNat) (c:=(aI size).toNat) i j ω ω ω;generalize Ab.smallA h t.toNat (aI size).toNat=r at s d a |-;by_cases e:r.2<0
  ·rw[C9 e]at a |-
   exact⟨d.ci,λ_=>⟨d.ob,d.kp,s.nx,rfl⟩,λe=>by cases e⟩
  rw[C8 e]at a |-;obtain⟨w,D⟩:=a;obtain⟨y,-⟩:=s.yes ω;have A:=CI.addO d.ci r.2 size t;refine⟨A,λe=>absurd rfl e,λ_=>⟨?_,by show r.1.a+1=h.a+1;rw[s.nx],ω,ω,by show 0<=r.2;omega⟩⟩;have:=Qj.of (h:=h) (g:=r.1) (x:=⟨r.1.a,r.2,size,t⟩) y d.ci w (f.keep w D) A (λp _=>rfl) (λ_ _=>rfl) (λo=>cA) (Lb y) rfl rfl d.ob d.kp;rw[s.nx]at this;exact this
 rw[C8 b];have E:9<=size:=by
  unfold aI at b
  repeat' split at b<;>omega
 exact CI.largeA i f j ⟨E,ω⟩ ω ω ω
theorem pQ(k:ah)(a v:Int)(f c:Nat):cl (d3 k a v) f c=cl k f c\/(cl (d3 k a v) f c=v/\f=cL k a/\c=(a % 16).toNat):=by
 unfold cl d3 setCell;simp only[bA];by_cases e:cL k a=f/\f<k.F.V.S.length
 ·rw[C9 e,bA]
  by_cases b:(a % 16).toNat=c/\c<(nth k.F.V.S (cL k a)).length
  ·rw[C9 b];exact .inr ⟨rfl,e.1.symm,b.1.symm⟩
  rw[C8 b,e.1];exact .inl rfl
 rw[C8 e];exact .inl rfl
theorem yY{k:ah}(c:a7 k=true){a v:Int}(e:(ac k.F.R (a / 16)).j≠0):cl (d3 k a v) (cL k a) (a % 16).toNat=v:=by
 have d:=(gg c e).1;have b:=(sN c (f:=cL k a) d).1;unfold cl d3 setCell;show nth (nth (List.set _ _ _) _) _=v;rw[bA,C9 ⟨rfl,d⟩,bA,C9 ⟨rfl,by rw[b];omega⟩]
theorem Hi{h:ab}{a v:Int}{o:br}{f c:Nat}(d:po h o f c):po {h with G:=d3 h.G a v} o f c:=by
 obtain⟨j,e,g,b⟩:=d;exact⟨j,e,g,⟨b.m,b.f,b.c⟩⟩
theorem MH{h:ab}{E:List Int}(d:aV h E){o:br}(q:o∈h.O){x j:Int}(y:0<=x/\x<o.o)(A:0<=j/\j<o.o){f c:Nat}(h1:At h.G (o.Addr+x) f c)(g:At h.G (o.Addr+j) f c):x=j:=by
 have B:=h1.c;have C:=g.c;rcases d.oow o q with⟨s,r,t,u⟩|⟨l,k,D,F⟩
 ·have i:=aC (d.L.sok s r)
  have a:=Az (n:=o.o) ω;rw[<-u]at a;obtain⟨G,H,w,-⟩:=t;rcases bM i.2.2 with e|e|e|e<;>rw[e]at w a<;>omega
 have p:=d.L.lok l k;unfold bE at p;rw[C0]at p;have:=kY d k (b:=o.Addr+x) ω ω h1 g.m g.f;omega
theorem CI.store{h:ab}{E:List Int}(b:aV h E)(A:JI h)(N:CI h){i:Nat}(O:i<h.O.length){j v:Int}(P:0<=j/\j<=(nth h.O i).o - 1)(Y:(ac (tbl h) (((nth h.O i).Addr+j) / 16)).j≠1):CI {h with G:=d3 h.G ((nth h.O i).Addr+j) v}/\
  ∀o∈h.O,∀x:Int,0<=x->x<o.o->dG (d3 h.G ((nth h.O i).Addr+j) v) (o.Addr+x)=if o=nth h.O i/\x=j then v else dG h.G (o.Addr+x):=by
 have g:=am O;have F:=(cG b g P).1;have G:=At.mk' b.ker F;have d:po h (nth h.O i) _ _:=⟨j,P.1,ω,G⟩
 have r:=jq b g d;have Z:(((nth h.O i).Addr+j) % 16).toNat<16:=ω
 have key:∀p:Int,(ac (tbl h) p).j≠0->(ac (tbl h) p).e≠(cL h.G ((nth h.O i).Addr+j):Nat)->∀c,cl (d3 h.G ((nth h.O i).Addr+j) v) (bG h.G p) c=cl h.G (bG h.G p) c:=λp Q B c=>by
  rcases pQ h.G ((nth h.O i).Addr+j) v (bG h.G p) c with e|⟨-,e,-⟩
  ·exact e
  refine absurd ?_ B;rw[<-e];exact kw b.ker Q
 refine⟨N.keep rfl rfl (λq h=>h) (λ_=>⟨rfl,rfl⟩) (λf c _ _=>?_) (λo g f c _ d _=>⟨o,g,Hi d⟩) (λH c C=>?_) (λ_ s' R _=>⟨s',R,rfl,rfl,λ_ h=>h⟩),λo g x S W=>?_⟩
 ·rcases pQ h.G ((nth h.O i).Addr+j) v f c with e|⟨-,u,w⟩
  ·exact .inl e.symm
  refine .inr ⟨_,g,?_⟩;rw[u,w];exact Hi d
 ·obtain⟨jm1,jm2⟩:=b.jobM H
  have J:c<16:=by
   obtain⟨k,lk,e⟩:=aJ (List.mem_of_mem_take C);have:=fR (dq.1 (b.job H).1).1 lk;omega
  constructor
  ·rcases pQ h.G ((nth h.O i).Addr+j) v (bG h.G h.Y.W.a4) c with e|⟨-,u,w⟩
   ·exact e
   exfalso;rw[<-u,<-w]at r;exact rd b A N H r J (List.mem_of_mem_take C) (kw b.ker jm1)
  rcases pQ h.G ((nth h.O i).Addr+j) v (bG h.G h.Y.W.a1) c with e|⟨-,u,w⟩
  ·exact e
  exfalso;rw[<-u,<-w]at r;refine E7 b A N H r ?_ C (kw b.ker jm2);rcases b.oow _ g with⟨s,hs,s1,s2⟩|⟨l,X,l1,-⟩
  ·have T:=aC (b.L.sok s hs)
   have K:=Az (n:=(nth h.O i).o) ω;rw[<-s2]at K;obtain⟨g1,g2,g3,-⟩:=s1;have Q:((nth h.O i).Addr+j) / 16=(nth h.O i).Addr / 16:=by rcases bM T.2.2 with e|e|e|e<;>rw[e]at g3 K<;>omega
   rw[<-Q];exact Y
  intro M;obtain⟨a1,a2,a3⟩:=lU (t:=tbl h) (p:=(nth h.O i).Addr / 16) ω;rw[a3]at M;have h3:=(N.m1 _ M).2.1;obtain⟨-,-,y,hy,-,ey,-⟩:=A.sp H;have hpl:=aM (b.L.lok l X);exact b.L.dis y hy l X 0 ω ω
 have U:=(cG b g (k:=x) ⟨S,ω⟩).1;have a:=At.mk' b.ker U;have D:At (d3 h.G ((nth h.O i).Addr+j) v) (o.Addr+x) (cL h.G (o.Addr+x)) ((o.Addr+x) % 16).toNat:=⟨a.m,a.f,a.c⟩
 rw[D.cell,a.cell];split
 ·rename_i e
  obtain⟨u,w⟩:=e;subst u w;exact yY b.ker F
 rename_i B;rcases pQ h.G ((nth h.O i).Addr+j) v (cL h.G (o.Addr+x)) ((o.Addr+x) % 16).toNat with e|⟨-,u,w⟩
 ·exact e
 exfalso;rw[u,w]at a;have V:po h o _ _:=⟨x,S,W,a⟩
 have eo:=Hk b g (am O) V d;subst eo;refine B ⟨rfl,?_⟩;exact MH b (am O) ⟨S,W⟩ ⟨P.1,ω⟩ a G
structure JP(h:ab):Prop where
 km:(ac (tbl h) h.Y.W.a4).j≠0
 mm:(ac (tbl h) h.Y.W.a1).j≠0
 kf:(ac (tbl h) h.Y.W.a4).e=(bG h.G h.Y.W.a4:Nat)
 mf:(ac (tbl h) h.Y.W.a1).e=(bG h.G h.Y.W.a1:Nat)
 ne:bG h.G h.Y.W.a4≠bG h.G h.Y.W.a1
 pe:h.Y.W.a4≠h.Y.W.a1
 k2:CI h->(ac (tbl h) h.Y.W.a4).j≠1
theorem JP.of{h:ab}{E:List Int}(g:aV h E)(i:JI h)(j:h.u=true):JP h:=by
 obtain⟨k,b⟩:=g.jobM j;have a:=(dq.1 (g.job j).1).1;unfold ew at a;simp only[I0,C0]at a;have c:=a.2.2.2.2.2;have l:=kw g.ker k;have n:=kw g.ker b;obtain⟨t,u,o⟩:=lU k;obtain⟨w,y,q⟩:=lU b;refine⟨k,b,l,n,λe=>c ?_,c,λr p=>?_⟩
 ·have d:(ac (tbl h) h.Y.W.a4).e=(bG h.G h.Y.W.a4:Nat):=l
  have f:(ac (tbl h) h.Y.W.a1).e=(bG h.G h.Y.W.a1:Nat):=n;rw[o]at d;rw[q]at f b;have:=i.sk j h.Y.W.a1.toNat b (by rw[d,f,e]);omega
 rw[o]at p;have:=(r.m1 _ p).2.1;omega
def hJ(h:ab)(k:ah)(j:cK):ab:={h with G:=k,u:=true,Y:=j}
def hE(h:ab)(k:ah):ab:={h with G:=k,u:=false,Y:=⟨⟨0,0,[]⟩,0,0⟩}
theorem LY{h:ab}(a:h.u=true):mStep h=if over (gE h.G h.Y).2=true then hE h (gE h.G h.Y).1 else hJ h (gE h.G h.Y).1 (gE h.G h.Y).2:=by
 unfold mStep hE hJ;split
 ·rfl
 rw[a]
theorem uT{h h':ab}{E:List Int}(g:aV h E)(l:h'.O=h.O)(n:∀p,(ac (tbl h) p).j≠0->(ac (tbl h') p).j≠0/\(ac (tbl h') p).e=(ac (tbl h) p).e)(q:∀o∈h.O,∀f c,po h o f c->cl h'.G f c=cl h.G f c):Kp h h':=λo e=>by
 rw[l]at e;refine⟨e,λj i r=>?_⟩;have b:=(cG g e (k:=j) ⟨i,ω⟩).1;have a:=At.mk' g.ker b;obtain⟨t,u⟩:=n _ b;have d:At h'.G (o.Addr+j) (cL h.G (o.Addr+j)) ((o.Addr+j) % 16).toNat:=⟨t,u.trans a.f,a.c⟩
 rw[d.cell,a.cell];exact q o e _ _ ⟨j,i,r,a⟩
theorem v6{h h':ab}(b:∀p,(ac (tbl h) p).j≠0->(ac (tbl h') p).j≠0/\(ac (tbl h') p).e=(ac (tbl h) p).e){o:br}{f c:Nat}(d:po h o f c):po h' o f c:=by
 obtain⟨j,e,g,a⟩:=d;obtain⟨i,k⟩:=b _ a.m;exact⟨j,e,g,i,k.trans a.f,a.c⟩
theorem qM{k:ah}{p m:Int}(b:(ac k.F.R p).j≠0)(q:Int):ac (iQ k p m).F.R q=if q=p then {ac k.F.R p with j:=m} else ac k.F.R q:=by
 obtain⟨c,d,g⟩:=lU b;have f:(iQ k p m).F.R.J.length=k.F.R.J.length:=by unfold iQ;simp
 unfold ac;rw[f];by_cases e:0<=q/\q<k.F.R.J.length
 ·rw[C9 e,C9 e]
  unfold iQ;simp only[bA];by_cases a:q=p
  ·rw[C9 a,C9 ⟨ω,ω⟩,C9 ⟨c,d⟩]
  rw[C8 a,C8 ω]
 rw[C8 e,C8 e,C8 ω]
theorem F5{t:aH}{q:Nat}(h:(nth t.J q).j≠0):ac t (q:Int)=nth t.J q:=by
 have:=re h;unfold ac;rw[C9 ⟨ω,ω⟩];rfl
theorem CI.ended{h:ab}{k:ah}{E:List Int}(l:aV h E)(n:CI h)(u:h.u=true)(r:h.Y.a=0)(g:∀f c,cl k f c=cl h.G f c)(i:∀p,(ac (tbl h) p).j≠0->(ac k.F.R p).j≠0/\(ac k.F.R p).e=(ac (tbl h) p).e)(h1:∀q:Nat,(nth k.F.R.J q).j≠1):CI (hE h k)/\Kp h (hE h k):=by
 refine⟨⟨λf c a b=>?_,λe=>(by cases e),λe=>(by cases e),λe=>(by cases e),λe=>(by cases e),λq t=>absurd t (h1 q),λe=>(by cases e)⟩,uT l rfl i λo j f c _=>g f c⟩;change cl k f c≠0 at b;rw[g]at b;rcases n.z f c a b with⟨o,j,d⟩|⟨-,-,e⟩
 ·exact .inl ⟨o,j,v6 i d⟩
 rw[r]at e;cases e
theorem GG{p:cM}(h:ew p=true){i:Nat} : ∀{j:Nat},i<j->j<p.S.length->nth p.S i<nth p.S j
 | 0,a,_=>absurd a (Nat.not_lt_zero i)
 | j+1,a,d=>by
  have b:=h;unfold ew at b;simp only[I0]at b;have c:=dC b.1 d;unfold lB at c;rw[C0]at c;have f:nth p.S j<nth p.S (j+1):=c.2.2.resolve_left ω;by_cases e:i=j
  ·rw[e];exact f
  have:=GG h (i:=i) (j:=j) ω ω;omega
theorem qg(k:ah)(a:Nat)(b v:Int)(f c:Nat):cl (setCell k a b v) f c=cl k f c\/(cl (setCell k a b v) f c=v/\f=a/\c=b.toNat):=by
 unfold cl setCell;simp only[bA];by_cases e:a=f/\f<k.F.V.S.length
 ·rw[C9 e,bA]
  by_cases d:b.toNat=c/\c<(nth k.F.V.S a).length
  ·rw[C9 d];exact .inr ⟨rfl,e.1.symm,d.1.symm⟩
  rw[C8 d,e.1];exact .inl rfl
 rw[C8 e];exact .inl rfl
theorem pp{k:ah}(c:a7 k=true){p a v:Int}(e:(ac k.F.R p).j≠0)(g:0<=a/\a<=15):cl (setCell k (bG k p) a v) (bG k p) a.toNat=v:=by
 have d:=(gg c e).1;have b:=(sN c (f:=bG k p) d).1;unfold cl setCell;show nth (nth (List.set _ _ _) _) _=v;rw[bA];rw[C9 ⟨rfl,d⟩,bA,C9 ⟨rfl,by rw[b];omega⟩]
theorem E6{h:ab}{p b v:Int}{j:cK}{o:br}{f c:Nat}(d:po h o f c):po (hJ h (setCell h.G (bG h.G p) b v) j) o f c:=by
 obtain⟨x,e,g,a⟩:=d;exact⟨x,e,g,⟨a.m,a.f,a.c⟩⟩
theorem GY{h:ab}{j:cK}(a:aV h [])(b:JI h)(q:CI h)(l:h.u=true)(r:JP h){d:Int}(n:d∈h.Y.W.S)(v:Int):Kp h (hJ h (setCell h.G (bG h.G h.Y.W.a4) d v) j):=by
 obtain⟨k,t,e⟩:=aJ n;have u:=fR (dq.1 (a.job l).1).1 t;refine uT a rfl (λp w=>⟨w,rfl⟩) λo y f c i=>?_
 rcases qg h.G (bG h.G h.Y.W.a4) d v f c with g|⟨-,A,B⟩
 ·exact g
 exfalso;refine rd a b q l (jq a y i) ω ?_ (by rw[A];exact r.kf);rw[B,Int.toNat_of_nonneg ω];exact n
theorem CI.copied{h:ab}(r:aV h [])(t:JI h)(b:CI h)(k:h.u=true)(n:JP h)(N:h.Y.b2=1)(O:0<=h.Y.a/\h.Y.a<h.Y.W.S.length):CI (hJ h (qN h.G h.Y.W.a1 h.Y.W.a4 (nth h.Y.W.S h.Y.a.toNat)) {h.Y with a:=h.Y.a+1})/\Kp h (hJ h (qN h.G h.Y.W.a1 h.Y.W.a4 (nth h.Y.W.S h.Y.a.toNat)) {h.Y with a:=h.Y.a+1}):=by
 have d:h.Y.a.toNat<h.Y.W.S.length:=ω
 have l:=am d;have u:=fR (dq.1 (r.job k).1).1 d;have i:h.Y.W.S.take (h.Y.a+1).toNat=h.Y.W.S.take h.Y.a.toNat++[nth h.Y.W.S h.Y.a.toNat]:=by
  rw[show(h.Y.a+1).toNat=h.Y.a.toNat+1 by omega,I5,ao d];rfl
 unfold qN;have w:=pp r.ker (p:=h.Y.W.a4) (v:=nth (nth h.G.F.V.S (bG h.G h.Y.W.a1)) (nth h.Y.W.S h.Y.a.toNat).toNat) n.km u;have j:=qg h.G (bG h.G h.Y.W.a4) (nth h.Y.W.S h.Y.a.toNat) (nth (nth h.G.F.V.S (bG h.G h.Y.W.a1)) (nth h.Y.W.S h.Y.a.toNat).toNat);refine⟨⟨λf c y H=>?_,λ_ c a=>?_,λ_=>b.jd k,λ_=>b.jc k,λ_=>⟨λe=>absurd e (by show ¬h.Y.b2=0;omega),λe=>absurd e (by show ¬h.Y.b2=2;omega)⟩,λq J=>?_,λ_ _=>b.m2 k ω⟩,GY r t b k n l _⟩
 ·rcases j f c with g|⟨-,A,B⟩
  ·have C:cl h.G f c≠0:=by rw[<-g];exact H
   rcases b.z f c y C with⟨o,K,L⟩|⟨M,D,E⟩
   ·exact .inl ⟨o,K,E6 L⟩
   refine .inr ⟨rfl,D,?_⟩;show(c:Int)∈h.Y.W.S.take (h.Y.a+1).toNat;rw[i];exact U2.2 (.inl E)
  refine .inr ⟨rfl,?_,?_⟩
  ·show(ac (tbl h) h.Y.W.a4).e=f;rw[A];exact n.kf
  show(c:Int)∈h.Y.W.S.take (h.Y.a+1).toNat;rw[i,B,Int.toNat_of_nonneg ω];exact U2.2 (.inr (C1.2 rfl))
 ·change (c:Int)∈h.Y.W.S.take (h.Y.a+1).toNat at a
  show cl (setCell h.G (bG h.G h.Y.W.a4) _ _) (bG h.G h.Y.W.a4) c=cl (setCell h.G (bG h.G h.Y.W.a4) _ _) (bG h.G h.Y.W.a1) c;have F:cl (setCell h.G (bG h.G h.Y.W.a4) (nth h.Y.W.S h.Y.a.toNat) (nth (nth h.G.F.V.S (bG h.G h.Y.W.a1)) (nth h.Y.W.S h.Y.a.toNat).toNat)) (bG h.G h.Y.W.a1) c=cl h.G (bG h.G h.Y.W.a1) c:=by
   rcases j (bG h.G h.Y.W.a1) c with g|⟨-,A,-⟩
   ·exact g
   exact absurd A.symm n.ne
  rw[F];by_cases G:(c:Int)=nth h.Y.W.S h.Y.a.toNat
  ·have:c=(nth h.Y.W.S h.Y.a.toNat).toNat:=ω
   rw[this,w];rfl
  rw[i]at a;rcases U2.1 a with a|a
  ·rcases j (bG h.G h.Y.W.a4) c with g|⟨-,-,B⟩
   ·rw[g];exact b.jv k c a
   exact absurd (by rw[B,Int.toNat_of_nonneg ω]) G
  exact absurd (C1.1 a) G
 obtain⟨M,D,E⟩:=b.m1 q J;exact⟨rfl,D,E⟩
theorem CI.undone{h:ab}(y:aV h [])(A:JI h)(b:CI h)(r:h.u=true)(l:JP h)(p3:h.Y.b2=3)(hp:0<h.Y.a):CI (hJ h {h.G with F:=(iJ h.G.F (h.Y.W.a4*16+nth h.Y.W.S (h.Y.a - 1).toNat) 0).1} {h.Y with a:=h.Y.a - 1})/\Kp h (hJ h {h.G with F:=(iJ h.G.F (h.Y.W.a4*16+nth h.Y.W.S (h.Y.a - 1).toNat) 0).1} {h.Y with a:=h.Y.a - 1}):=by
 obtain⟨t,-,-,n0,n1⟩:=dq.1 (y.job r).1;have a:(h.Y.a - 1).toNat<h.Y.W.S.length:=ω
 have u:=am a;have B:=fR t a;have O:=(lU l.km).1;have P:(h.Y.W.a4*16+nth h.Y.W.S (h.Y.a - 1).toNat) / 16=h.Y.W.a4:=ω
 have Q:(h.Y.W.a4*16+nth h.Y.W.S (h.Y.a - 1).toNat) % 16=nth h.Y.W.S (h.Y.a - 1).toNat:=ω
 have C:(ac h.G.F.R h.Y.W.a4).j≠0:=l.km;have D:(ac h.G.F.R h.Y.W.a4).j≠1:=l.k2 b;have R:({h.G with F:=(iJ h.G.F (h.Y.W.a4*16+nth h.Y.W.S (h.Y.a - 1).toNat) 0).1} : ah)=setCell h.G (bG h.G h.Y.W.a4) (nth h.Y.W.S (h.Y.a - 1).toNat) 0:=by
  unfold iJ;rw[P,Q,C8 C,C8 D]
  rfl
 rw[R];have n:=qg h.G (bG h.G h.Y.W.a4) (nth h.Y.W.S (h.Y.a - 1).toNat) 0;have w:h.Y.W.S.take h.Y.a.toNat=h.Y.W.S.take (h.Y.a - 1).toNat++[nth h.Y.W.S (h.Y.a - 1).toNat]:=by
  rw[show h.Y.a.toNat=(h.Y.a - 1).toNat+1 by omega,I5,ao a];rfl
 have E:nth h.Y.W.S (h.Y.a - 1).toNat∉h.Y.W.S.take (h.Y.a - 1).toNat:=λF=>by
  obtain⟨k,S,T⟩:=aJ F;rw[O1]at S;have G:nth (h.Y.W.S.take (h.Y.a - 1).toNat) k=nth h.Y.W.S k:=by
   refine bc ?_;rw[List.getElem?_take,C9 ω];exact ao ω
  rw[G]at T;have:=GG t (i:=k) (j:=(h.Y.a - 1).toNat) ω a;omega
 refine⟨⟨λf c H J=>?_,λ_ c p=>?_,λ_=>b.jd r,λ_=>b.jc r,λ_=>⟨λe=>absurd e (by show ¬h.Y.b2=0;omega),λe=>absurd e (by show ¬h.Y.b2=2;omega)⟩,λq U=>?_,λ_ _=>b.m2 r ω⟩,GY y A b r l u _⟩
 ·rcases n f c with g|⟨V,-,-⟩
  ·have K:cl h.G f c≠0:=by rw[<-g];exact J
   rcases b.z f c H K with⟨o,W,X⟩|⟨Y,L,d⟩
   ·exact .inl ⟨o,W,E6 X⟩
   rw[w]at d;rcases U2.1 d with d|d
   ·exact .inr ⟨rfl,L,d⟩
   exfalso;have ec:=C1.1 d;have M:f=bG h.G h.Y.W.a4:=by have:=l.kf;omega
   refine J ?_;show cl (setCell h.G (bG h.G h.Y.W.a4) _ 0) f c=0;rw[M,show c=(nth h.Y.W.S (h.Y.a - 1).toNat).toNat by omega];exact pp y.ker l.km B
  exact absurd V J
 ·change (c:Int)∈h.Y.W.S.take (h.Y.a - 1).toNat at p
  show cl (setCell h.G (bG h.G h.Y.W.a4) _ 0) (bG h.G h.Y.W.a4) c=cl (setCell h.G (bG h.G h.Y.W.a4) _ 0) (bG h.G h.Y.W.a1) c;have N:cl (setCell h.G (bG h.G h.Y.W.a4) (nth h.Y.W.S (h.Y.a - 1).toNat) 0) (bG h.G h.Y.W.a1) c=cl h.G (bG h.G h.Y.W.a1) c:=by
   rcases n (bG h.G h.Y.W.a1) c with g|⟨-,Z,-⟩
   ·exact g
   exact absurd Z.symm l.ne
  rw[N];rcases n (bG h.G h.Y.W.a4) c with g|⟨-,-,g2⟩
  ·rw[g]
   exact b.jv r c (by rw[w];exact U2.2 (.inl p))
  exact absurd (by rw[show nth h.Y.W.S (h.Y.a - 1).toNat=(c:Int) by omega];exact p) E
 obtain⟨Y,L,d⟩:=b.m1 q U;exact⟨rfl,L,d⟩
theorem CI.meshed{h:ab}(F:aV h [])(D:JI h)(G:CI h)(H:h.u=true)(d:JP h)(hn:h.Y.a=h.Y.W.S.length)(L:h.G.Calls≠100000)(R:(uo h.G h.Y.W.a1 h.Y.W.a4).2=true):CI (hE h (uo h.G h.Y.W.a1 h.Y.W.a4).1)/\Kp h (hE h (uo h.G h.Y.W.a1 h.Y.W.a4).1):=by
 have A:=GH F.ker (p:=h.Y.W.a1) (o:=h.Y.W.a4) d.mm R;obtain⟨m1,m2,m3⟩:=lU d.mm;obtain⟨k1,k2,k3⟩:=lU d.km;have M:=(A 0).1;generalize N:(uo h.G h.Y.W.a1 h.Y.W.a4).1=K at *;have J:∀q:Int,ac K.F.R q=if q=h.Y.W.a1 then⟨2,(ac (tbl h) h.Y.W.a4).e⟩ else ac (tbl h) q:=λq=>by
  unfold ac;rw[M];by_cases e:0<=q/\q<h.G.F.R.J.length
  ·rw[C9 e,(A q.toNat).2]
   by_cases B:q=h.Y.W.a1
   ·rw[C9 B,C9 ω,C9 ⟨k1,k2⟩];rfl
   rw[C8 B,C8 ω,C9 (show 0<=q/\q<(tbl h).J.length from e)];rfl
  rw[C8 e,C8 (show ¬q=h.Y.W.a1 by unfold tbl at m2;omega),C8 (show ¬(0<=q/\q<(tbl h).J.length) from e)]
 have l:∀f c,cl K f c=cl h.G f c\/(cl K f c=0/\f=bG h.G h.Y.W.a1):=λf c=>by
  unfold uo at N R;by_cases e:refd h.G=true
  ·rw[C9 e]at R;cases R
  rw[C8 e]at N;simp only at N;rw[<-N];rcases G2 (ux (bY h.G) h.Y.W.a1.toNat ⟨2,(nth (bY h.G).F.R.J h.Y.W.a4.toNat).e⟩) (nth (bY h.G).F.R.J h.Y.W.a1.toNat).e f c with g|⟨S,T,-⟩
  ·exact .inl g
  refine .inr ⟨S,?_⟩;rw[<-T];have h3:nth (bY h.G).F.R.J h.Y.W.a1.toNat=ac h.G.F.R h.Y.W.a1:=m3.symm;rw[h3];rfl
 have n:h.Y.W.S.take h.Y.a.toNat=h.Y.W.S:=U6 ω;have O:∀p:Int,(ac (tbl h) p).j≠0->(ac (tbl h) p).e=(bG h.G h.Y.W.a1:Nat)->p=h.Y.W.a1:=λp j C=>by
  obtain⟨p1,p2,p3⟩:=lU j;have P:=d.mf;rw[p3]at j C;rw[m3]at P;have:=D.sm H p.toNat j (by rw[C,P]);omega
 have U:∀c,cl K (bG h.G h.Y.W.a4) c=cl h.G (bG h.G h.Y.W.a4) c:=λc=>by
  rcases l (bG h.G h.Y.W.a4) c with g|⟨-,g⟩
  ·exact g
  exact absurd g d.ne
 have place:∀o∈h.O,∀x:Int,0<=x->x<o.o->∀f c:Nat,At h.G (o.Addr+x) f c->(f≠bG h.G h.Y.W.a1->At K (o.Addr+x) f c)/\(f=bG h.G h.Y.W.a1->At K (o.Addr+x) (bG h.G h.Y.W.a4) c/\(c:Int)∈h.Y.W.S):=λo r x u w f c a=>by
  constructor
  ·intro hne
   have j:(o.Addr+x) / 16≠h.Y.W.a1:=λe=>by
    have:=a.f;rw[e]at this;have h3:(ac h.G.F.R h.Y.W.a1).e=_:=d.mf;omega
   exact⟨by rw[J,C8 j];exact a.m,by rw[J,C8 j];exact a.f,a.c⟩
  intro he;have j:=O _ a.m (by rw[<-he];exact a.f);refine⟨⟨by rw[J,C9 j];show(2:Int)≠0;decide,by rw[J,C9 j];exact d.kf,a.c⟩,?_⟩;obtain⟨-,-,b,hb,-,V,-⟩:=D.sp H;have y:c<16:=by have:=a.c;omega
  obtain⟨e1,B,-⟩:=vQ F (jq F r ⟨x,u,w,a⟩) hb (by rw[V];exact D.sm H) (by rw[V,he];exact d.mf);refine G.jc H b hb V c y ?_;rw[B];exact e1.2.2.2
 refine⟨⟨λf c y E=>?_,λe=>(by cases e),λe=>(by cases e),λe=>(by cases e),λe=>(by cases e),λq hq=>?_,λe=>(by cases e)⟩,λo r=>⟨r,λx u w=>?_⟩⟩
 ·change cl K f c≠0 at E
  rcases l f c with g|⟨g,-⟩
  rotate_left
  ·exact absurd g E
  rw[g]at E;have W:f≠bG h.G h.Y.W.a1:=λe=>by
   refine E ?_;rw[<-g,e];have X:a7 K=true:=by
    rw[<-N];exact Mv F.ker L d.mm d.km (Ne.symm d.pe)
   refine nC X (λp j C=>?_) c;rw[J]at j C;by_cases B:p=h.Y.W.a1
   ·rw[C9 B]at C
    have h1:(ac (tbl h) h.Y.W.a4).e=(bG h.G h.Y.W.a1:Nat):=C;have h2:=d.kf;exact d.ne ω
   rw[C8 B]at j C;exact B (O p j C)
  rcases G.z f c y E with⟨o,r,x,u,w,a⟩|⟨-,q2,q3⟩
  ·exact .inl ⟨o,r,x,u,w,(place o r x u w f c a).1 W⟩
  rw[n]at q3;have Q:f=bG h.G h.Y.W.a4:=by have:=d.kf;omega
  rw[Q,G.jv H c (by rw[n];exact q3)]at E;rcases G.z _ c y E with⟨o,r,x,u,w,a⟩|⟨-,r2,-⟩
  ·exact .inl ⟨o,r,x,u,w,by rw[Q];exact((place o r x u w _ c a).2 rfl).1⟩
  exact absurd (by have:=d.kf;omega) d.ne
 ·have i:(nth K.F.R.J q).j=1:=hq
  have:=F5 (t:=K.F.R) (q:=q) (by rw[i];decide);rw[J]at this;by_cases e:(q:Int)=h.Y.W.a1
  ·rw[C9 e]at this
   rw[<-this]at i;exact absurd i (by show ¬(2:Int)=1;decide)
  rw[C8 e]at this;rw[<-this]at i;obtain⟨a1,a2,a3⟩:=lU (t:=tbl h) (p:=(q:Int)) (by rw[i];decide);rw[a3]at i;exact absurd (by have:=(G.m1 _ i).2.1;omega) e
 have Y:=(cG F r (k:=x) ⟨u,ω⟩).1;have a:=At.mk' F.ker Y;obtain⟨S,T⟩:=place o r x u w _ _ a;show dG K (o.Addr+x)=dG h.G (o.Addr+x);by_cases e:cL h.G (o.Addr+x)=bG h.G h.Y.W.a1
 ·obtain⟨Z,g4⟩:=T e
  rw[Z.cell,a.cell,U,e];exact G.jv H _ (by rw[n];exact g4)
 have Z:=S e;rw[Z.cell,a.cell];rcases l (cL h.G (o.Addr+x)) ((o.Addr+x) % 16).toNat with g|⟨-,g⟩
 ·exact g
 exact absurd g e
theorem CI.mStep{h:ab}(w:aV h [])(l:JI h)(a:CI h)(d:h.u=true):CI (mStep h)/\Kp h (mStep h):=by
 have C:=JP.of w l d;have Z:=l.ph d;obtain⟨jn0,jn2⟩:=a.jn d;obtain⟨-,-,-,n0,n1⟩:=dq.1 (w.job d).1;rw[LY d];have stay:∀(k:ah)(j:cK),k.F=h.G.F->j.W=h.Y.W->j.a=h.Y.a->(j.b2=0↔h.Y.b2=0)->(j.b2=2->j.a=j.W.S.length)->CI (hJ h k j)/\Kp h (hJ h k j):=λk j M u N O e5=>by
  have J:tbl (hJ h k j)=tbl h:=by unfold tbl hJ;rw[M]
  have L:∀f c,cl k f c=cl h.G f c:=λf c=>by unfold cl;rw[M]
  have D:∀o f c,po h o f c->po (hJ h k j) o f c:=λo f c=>v6 (λp E=>by rw[J];exact⟨E,rfl⟩)
  refine⟨⟨λf c F K=>?_,λ_ c g=>?_,λ_=>?_,λ_=>?_,λ_=>⟨λe=>?_,e5⟩,λq i=>?_,λ_ e=>?_⟩,uT w rfl (λp E=>by rw[J];exact⟨E,rfl⟩) λo _ f c _=>L f c⟩
  ·change cl k f c≠0 at K
   rw[L]at K;rcases a.z f c F K with⟨o,P,Q⟩|⟨q1,R,G⟩
   ·exact .inl ⟨o,P,D o f c Q⟩
   refine .inr ⟨rfl,?_,?_⟩
   ·rw[J];show(ac (tbl h) j.W.a4).e=f;rw[u];exact R
   show(c:Int)∈j.W.S.take j.a.toNat;rw[u,N];exact G
  ·change (c:Int)∈j.W.S.take j.a.toNat at g
   show cl k (bG k j.W.a4) c=cl k (bG k j.W.a1) c;rw[u,N]at g;rw[u,L,L];unfold bG;rw[M];exact a.jv d c g
  ·show ∀s∈h.M,s.Q=j.W.a4->_
   rw[show(hJ h k j).Y.W=h.Y.W from u,u];exact a.jd d
  ·show ∀s∈h.M,s.Q=j.W.a1->_
   rw[show(hJ h k j).Y.W=h.Y.W from u,u];exact a.jc d
  ·exact(show j.a=h.Y.a from N).trans (jn0 (O.1 e))
  ·rw[J]at i
   obtain⟨q1,R,G⟩:=a.m1 q i;exact⟨rfl,by show(q:Int)=j.W.a1;rw[u];exact R,λe=>G (O.1 e)⟩
  rw[J];show(ac (tbl h) j.W.a1).j=1;rw[u];exact a.m2 d λx=>e (O.2 x)
 have prot:∀H:Int,H=1\/H=2->∀p,(ac (tbl h) p).j≠0->(ac (iQ (bY h.G) h.Y.W.a1 H).F.R p).j≠0/\(ac (iQ (bY h.G) h.Y.W.a1 H).F.R p).e=(ac (tbl h) p).e:=λH hmo p E=>by
  rw[qM (k:=bY h.G) C.mm];by_cases e:p=h.Y.W.a1
  ·rw[C9 e,e]
   exact⟨by show H≠0;omega,rfl⟩
  rw[C8 e];exact⟨E,rfl⟩
 unfold gE;by_cases b:jmay h.G h.Y=true;rotate_left
 ·rw[C8 b]
  rw[C8 (by rw[show over (h.G,h.Y).2=over h.Y from rfl,show over h.Y=false from R0 ω];decide)];exact stay h.G h.Y rfl rfl rfl Iff.rfl jn2
 rw[C9 b];unfold jstep;by_cases A:h.Y.b2=0
 ·rw[C9 A]
  have n:=jn0 A;simp only;unfold jG;by_cases B:refd h.G=true
  ·rw[C9 B]
   simp only[Bool.false_eq_true,if_false];rw[C9 (show over {h.Y with b2:=5} = true from O0 (.inr rfl))];refine CI.ended w a d n (λ_ _=>rfl) (λp E=>⟨E,rfl⟩) λq i=>(a.m1 q i).2.2 A
  rw[C8 B];simp only[if_true];rw[C8 (by rw[show over {h.Y with b2:=1} = false from R0 (by show ¬((1:Int)=4\/(1:Int)=5);decide)];decide)];have D:∀o f c,po h o f c->po (hJ h (iQ (bY h.G) h.Y.W.a1 1) {h.Y with b2:=1}) o f c:=λo f c=>v6 (prot 1 (.inl rfl))
  refine⟨⟨λf c F K=>?_,λ_ c g=>?_,λ_=>a.jd d,λ_=>a.jc d,λ_=>⟨λe=>absurd e (by show ¬(1:Int)=0;decide),λe=>absurd e (by show ¬(1:Int)=2;decide)⟩,λq i=>?_,λ_ _=>?_⟩,uT w rfl (prot 1 (.inl rfl)) λ_ _ _ _ _=>rfl⟩
  ·rcases a.z f c F K with⟨o,P,Q⟩|⟨-,-,G⟩
   ·exact .inl ⟨o,P,D o f c Q⟩
   rw[n]at G;cases G
  ·change (c:Int)∈h.Y.W.S.take h.Y.a.toNat at g
   rw[n]at g;cases g
  ·refine⟨rfl,?_,by show ¬(1:Int)=0;decide⟩
   show(q:Int)=h.Y.W.a1;refine Classical.byContradiction λS=>?_
   have y:(nth (iQ (bY h.G) h.Y.W.a1 1).F.R.J q).j=1:=i;have:=F5 (t:=(iQ (bY h.G) h.Y.W.a1 1).F.R) (q:=q) (by rw[y];decide);rw[qM (k:=bY h.G) C.mm,C8 S]at this;rw[<-this]at y;obtain⟨a1,a2,T⟩:=lU (t:=tbl h) (p:=(q:Int)) (by show(ac h.G.F.R q).j≠0;have:(ac h.G.F.R q).j=1:=y;rw[this];decide);have r:(ac (tbl h) q).j=1:=y;rw[T]at r;exact(a.m1 _ r).2.2 A
  show(ac (iQ (bY h.G) h.Y.W.a1 1).F.R h.Y.W.a1).j=1;rw[qM (k:=bY h.G) C.mm,C9 rfl]
 rw[C8 A];by_cases U:h.Y.b2=1
 ·rw[C9 U]
  by_cases V:h.Y.a=h.Y.W.S.length
  ·rw[C9 V]
   simp only;rw[C8 (by rw[show over {h.Y with b2:=2} = false from R0 (by show ¬((2:Int)=4\/(2:Int)=5);decide)];decide)];exact stay h.G {h.Y with b2:=2} rfl rfl rfl ⟨λe=>absurd e (by show ¬(2:Int)=0;decide),λe=>absurd e A⟩ λ_=>V
  rw[C8 V];simp only;rw[C8 (by rw[show over {h.Y with a:=h.Y.a+1} = false from R0 (by show ¬(h.Y.b2=4\/h.Y.b2=5);omega)];decide)];exact CI.copied w l a d C U ω
 rw[C8 U];by_cases W:h.Y.b2=2
 ·rw[C9 W]
  simp only;cases B:(uo h.G h.Y.W.a1 h.Y.W.a4).2 with
  | false=>
   simp only[Bool.false_eq_true,if_false];rw[C8 (by rw[show over {h.Y with b2:=3} = false from R0 (by show ¬((3:Int)=4\/(3:Int)=5);decide)];decide)];rw[Mc B];exact stay (bY h.G) {h.Y with b2:=3} rfl rfl rfl ⟨λe=>absurd e (by show ¬(3:Int)=0;decide),λe=>absurd e A⟩ λe=>absurd e (by show ¬(3:Int)=2;decide)
  | true=>
   rw[C9 rfl];rw[C9 (show over {h.Y with b2:=4} = true from O0 (.inl rfl))];exact CI.meshed w l a d C (jn2 W) (by unfold jmay at b;simp only[I0,C0]at b;exact b.1.2) B
 rw[C8 W];have Y:h.Y.b2=3:=ω
 rw[C9 Y];by_cases X:0<h.Y.a
 ·rw[C9 X]
  simp only;rw[C8 (by rw[show over {h.Y with a:=h.Y.a - 1} = false from R0 (by show ¬(h.Y.b2=4\/h.Y.b2=5);omega)];decide)];exact CI.undone w l a d C Y X
 rw[C8 X];have n:h.Y.a=0:=ω
 simp only;unfold jG;by_cases B:refd h.G=true
 ·rw[C9 B]
  simp only[Bool.false_eq_true,if_false];rw[C8 (by rw[show over {h.Y with b2:=3} = false from R0 (by show ¬((3:Int)=4\/(3:Int)=5);decide)];decide)];exact stay (bY h.G) {h.Y with b2:=3} rfl rfl rfl ⟨λe=>absurd e (by show ¬(3:Int)=0;decide),λe=>absurd e A⟩ λe=>absurd e (by show ¬(3:Int)=2;decide)
 rw[C8 B];simp only[if_true];rw[C9 (show over {h.Y with b2:=5} = true from O0 (.inr rfl))];refine CI.ended w a d n (λ_ _=>rfl) (prot 2 (.inr rfl)) λq i=>?_
 have:=F5 (t:=(iQ (bY h.G) h.Y.W.a1 2).F.R) (q:=q) (by rw[i];decide);rw[qM (k:=bY h.G) C.mm]at this;by_cases e:(q:Int)=h.Y.W.a1
 ·rw[C9 e]at this
  rw[<-this]at i;exact absurd i (by show ¬(2:Int)=1;decide)
 rw[C8 e]at this;rw[<-this]at i;obtain⟨a1,a2,T⟩:=lU (t:=tbl h) (p:=(q:Int)) (by have:(ac (tbl h) q).j=1:=i;rw[this];decide);have r:(ac (tbl h) q).j=1:=i;rw[T]at r;exact e (by have:=(a.m1 _ r).2.1;omega)
theorem yP{s:ax}{n c:Nat} : (c:Int)∈tz s n↔c<n/\td s c=true:=by
 unfold tz;simp only[C4,I4,List.mem_range];constructor
 ·rintro⟨a,⟨b,d⟩,e⟩
  have:a=c:=ω
  subst this;exact⟨b,d⟩
 rintro⟨b,d⟩;exact⟨c,⟨b,d⟩,rfl⟩
theorem N2{a b:ax}(c:meshable a b=true){i:Int}(h:aR a.b1 i=true):aR b.b1 i=false:=by
 unfold meshable at c;simp only[I0,C0]at c;obtain⟨-,-,-,d⟩:=c;rw[<-C5];intro e;have f:=(dH _ _).1 h;have g:=(dH _ _).1 e;have:=U0 (λn=>Nat.testBit n i.toNat) d;simp only[Nat.testBit_and,Nat.zero_testBit]at this;rw[f.2.2.2,g.2.2.2]at this;cases this
theorem Hf{h:ab}{E:List Int}(a:aV h E){s u:ax}(b:s∈h.M)(c:u∈h.M)(e:s.Q=u.Q):s=u:=by
 obtain⟨i,d,rfl⟩:=aJ b;obtain⟨j,g,rfl⟩:=aJ c;rw[cE (f:=(·.Q)) a.L.nd d g e]
theorem CI.begun{h:ab}{E:List Int}(B:aV h E)(C:CI h)(D:h.u=false){a b:ax}(F:a∈h.M)(G:b∈h.M)(l:meshable a b=true)(sd:Int):CI {h with c0:=sd,u:=true,Y:=sE (dc a b)}:=by
 have n:∃x∈h.M,∃y∈h.M,(dc a b).a4=x.Q/\(dc a b).a1=y.Q/\(dc a b).S=tz y 16/\meshable x y=true:=by
  unfold dc;split
  ·exact⟨b,G,a,F,rfl,rfl,rfl,by rw[gt];exact l⟩
  exact⟨a,F,b,G,rfl,rfl,rfl,l⟩
 obtain⟨x,M,y,N,H,J,r,d⟩:=n;generalize dc a b=p at H J r;have ecl:x.b=y.b:=by
  unfold meshable at d;simp only[I0,C0]at d;exact d.2.1
 refine⟨λf c g O=>?_,λ_ c j=>absurd j (by show ¬(c:Int)∈p.S.take (0:Int).toNat;simp),λ_ s t n c g j=>?_,λ_ s t n c g u=>?_,λ_=>⟨λ_=>rfl,λe=>absurd e (by show ¬(0:Int)=2;decide)⟩,λq P=>?_,λ_ e=>absurd rfl e⟩
 ·rcases C.z f c g O with⟨o,Q,w⟩|⟨K,-⟩
  ·exact .inl ⟨o,Q,w⟩
  rw[D]at K;cases K
 ·have k:=Hf B t M (n.trans H)
  subst k;have i:(c:Int)∈p.S:=j;rw[r]at i;have A:=(yP.1 i).2;unfold td at A;rw[<-ecl]at A;rw[gt]at d;exact N2 d A
 ·have k:=Hf B t N (n.trans J)
  subst k;show(c:Int)∈p.S;rw[r];exact yP.2 ⟨g,u⟩
 have L:=(C.m1 q P).1;rw[D]at L;cases L
theorem CI.started{h:ab}(f:aV h [])(a:CI h)(j:h.u=false):CI (started h).1/\Kp h (started h).1:=by
 have g:=f.nums;unfold cg at g;rw[C0]at g;have d:=nl (bB h) (show 0<=h.c0/\h.c0<=1073741823 by omega);cases e:lh (bB h) h.c0 with
 | nil=>
  have c:Ab.started h=({h with c0:=(shuf (bB h).length h.c0).2},false):=by unfold Ab.started;rw[e]
  rw[c];exact⟨⟨a.z,a.jv,a.jd,a.jc,a.jn,a.m1,a.m2⟩,CX h⟩
 | cons q n=>
  obtain⟨o,p,k⟩:=d q (by rw[e];exact R1 ..);have c:Ab.started h=({h with c0:=(shuf (bB h).length h.c0).2,u:=true,Y:=sE (dc (nth (bB h) q.A.toNat) (nth (bB h) q.B.toNat))},true):=by unfold Ab.started;rw[e]
  rw[c];have b:∀s∈bB h,s∈h.M:=λs l=>lY h (W2 _) s (List.mem_of_mem_take l)
  exact⟨CI.begun f a j (b _ (am (xs:=bB h) (i:=q.A.toNat) ω)) (b _ (am (xs:=bB h) (i:=q.B.toNat) ω)) k _,CX h⟩
theorem Pv(k:ah)(a:Int)(f c:Nat):∀m,cl (zK k a m) f c=cl k f c\/(cl (zK k a m) f c=0/\∃j:Nat,j<m/\f=cL k (a+j)/\c=((a+j) % 16).toNat)
 | 0=>.inl rfl
 | m+1=>by
  have e:cL (zK k a m) (a+m)=cL k (a+m):=by unfold cL;rw[(nP k a m).1]
  rcases pQ (zK k a m) (a+m) 0 f c with g|⟨b,h,d⟩
  ·rcases Pv k a f c m with i|⟨b,j,h,d⟩
   ·exact .inl (g.trans i)
   exact .inr ⟨g.trans b,j,ω,d⟩
  exact .inr ⟨b,m,ω,by rw[<-e];exact h,d⟩
theorem D6{k:ah}(h:a7 k=true){a:Int} : ∀{m:Nat},(∀j:Nat,j<m->(ac k.F.R ((a+j) / 16)).j≠0)->∀j:Nat,j<m->cl (zK k a m) (cL k (a+j)) ((a+j) % 16).toNat=0
 | 0,_,_,c=>absurd c (Nat.not_lt_zero _)
 | m+1,d,j,c=>by
  have f:=M5 h (a:=a) (m:=m) λj c=>d j ω
  have i:=(nP k a m).1;have e:∀b,cL (zK k a m) b=cL k b:=λb=>by unfold cL;rw[i]
  rcases pQ (zK k a m) (a+m) 0 (cL k (a+j)) ((a+j) % 16).toNat with g|⟨l,-⟩
  ·by_cases n:j=m
   ·subst n
    have:=yY f (a:=a+j) (v:=0) (by rw[i];exact d j ω);rw[e]at this;exact this
   exact g.trans (D6 h (λj c=>d j ω) j ω)
  exact l
theorem yW{h:ab}{E:List Int}(a:aV h E){o:br}(e:o∈h.O){k:Nat}(b:k<h.K.length)(n:o.Addr=16*(nth h.K k).Q):o.o=(nth h.K k).o:=by
 have f:=aM (a.L.lok _ (am b));rcases a.oow _ e with⟨s,g,c,-⟩|⟨l,d,p,i⟩
 ·exact absurd (show s.Q=(nth h.K k).Q+((0:Nat):Int) by have:=c.1;have:=c.2.1;omega) (a.L.dis s g _ (am b) 0 ω)
 obtain⟨m,j,rfl⟩:=aJ d;have:=a.L.one m k j b 0 0 (by have:=aM (a.L.lok _ d);omega) ω ω;subst this;exact i.symm
theorem ri{α:Type}[Inhabited α]{xs:List α}{i:Nat}{y z:α}(c:i<xs.length):z∈xs.set i y↔z=y\/∃j,j<xs.length/\j≠i/\nth xs j=z:=by
 refine⟨dI,?_⟩
 rintro(rfl|⟨j,d,b,rfl⟩)
 ·have a:=am (xs:=xs.set i z) (i:=i) (by rw[I1];exact c)
  rw[bA,C9 ⟨rfl,c⟩]at a;exact a
 have a:=am (xs:=xs.set i y) (i:=j) (by rw[I1];exact d);rw[bA,C8 (λx=>b x.1.symm)]at a;exact a
theorem CI.trimH{h:ab}{i k:Nat}{size:Int}(l:aV h [])(hc:CI h)(V:i<h.O.length)(r:k<h.K.length)(W:(nth h.O i).Addr=16*(nth h.K k).Q)(hz:9<=size/\size<=(nth h.K k).o):CI (trimH h i k size)/\∀o∈h.O,∀j:Int,0<=j->j<o.o->(o=nth h.O i->j<size)->dG (trimH h i k size).G (o.Addr+j)=dG h.G (o.Addr+j):=by
 obtain⟨b1,b2⟩:=ss l r;have M:=l.L.lok _ (am r);have hlp:=aM M;have hsz:=yW l (am V) r W;have h8:=M;unfold bE at h8;rw[C0]at h8;have N:a7 (jR h k size)=true:=vB l r hz (W2 _);have D:(jR h k size).F.R=h.G.F.R:=(nP h.G _ _).1;have hN:((dt (nth h.K k) size:Nat):Int)=(nth h.K k).a2 - (size+15) / 16:=by unfold dt;omega
 have hte:((tbl h).J.length:Int)=(h.G.F.R.J.length:Int):=rfl;have kl:=KL.unmN N (p:=(nth h.K k).Q+(size+15) / 16) ω (dt (nth h.K k) size) (by rw[D];omega);have ker:=iM N ((nth h.K k).Q+(size+15) / 16) (dt (nth h.K k) size);have A:=(fo (jR h k size) ((nth h.K k).Q+(size+15) / 16) (dt (nth h.K k) size)).1;have hcz:=Pv h.G (16*(nth h.K k).Q+size);have hca:=D6 l.ker (a:=16*(nth h.K k).Q+size) (m:=(16*((size+15) / 16) - size).toNat) λj O=>jF l r ⟨ω,ω⟩
 have E:(Ab.trimH h i k size).G=unmN (jR h k size) ((nth h.K k).Q+(size+15) / 16) (dt (nth h.K k) size):=rfl;have F:(Ab.trimH h i k size).O=h.O.set i {nth h.O i with o:=size}:=rfl;have P:(Ab.trimH h i k size).M=h.M:=rfl;have Q:(Ab.trimH h i k size).Y=h.Y:=rfl;have R:(Ab.trimH h i k size).u=h.u:=rfl;generalize Ab.trimH h i k size=h' at E F P Q R |-;have G:∀f c,cl (jR h k size) f c=cl h.G f c\/(cl (jR h k size) f c=0/\∃b:Int,16*(nth h.K k).Q+size<=b/\b<16*((nth h.K k).Q+(size+15) / 16)/\At h.G b f c):=λf c=>by
  rcases hcz f c (16*((size+15) / 16) - size).toNat with g|⟨g,j,w,B,j3⟩
  ·exact .inl g
  refine .inr ⟨g,16*(nth h.K k).Q+size+j,ω,ω,?_⟩;have:=At.mk' l.ker (jF l r (a:=16*(nth h.K k).Q+size+j) ⟨ω,ω⟩);rw[B,j3];exact this
 have hzv:∀(f c:Nat)(b:Int),16*(nth h.K k).Q+size<=b->b<16*((nth h.K k).Q+(size+15) / 16)->At h.G b f c->cl (jR h k size) f c=0:=λf c b H X d=>by
  have:=hca (b - (16*(nth h.K k).Q+size)).toNat ω;rw[show 16*(nth h.K k).Q+size+((b - (16*(nth h.K k).Q+size)).toNat:Nat)=b by omega]at this;have e:=At.mk' l.ker d.m;obtain⟨u1,u2⟩:=e.uniq d;rw[u1,u2]at this;exact this
 have pout:∀q:Int,¬((nth h.K k).Q+(size+15) / 16<=q/\q<(nth h.K k).Q+(nth h.K k).a2)->ac h'.G.F.R q=ac h.G.F.R q:=λq Y=>by
  rw[E,kl.out q ω,D]
 rw[<-E]at kl ker A;generalize jR h k size=kz at *;have onL:∀b:Int,16*(nth h.K k).Q<=b->b<16*((nth h.K k).Q+(nth h.K k).a2)->∀f c:Nat,At h.G b f c->LF h (nth h.O i).Addr f c:=λb H X f c d=>.inr ⟨_,am r,W,b,H,X,d⟩
 have only:∀o∈h.O,∀f c:Nat,po h o f c->LF h (nth h.O i).Addr f c->o=nth h.O i:=λo t f c H X=>by
  have e:=uR l (jq l t H) X;obtain⟨m,lm,rfl⟩:=aJ t;rw[cE (f:=(·.Addr)) (cN l.osr) lm V e]
 have noS:∀s∈h.M,¬((nth h.K k).Q<=s.Q/\s.Q<(nth h.K k).Q+(nth h.K k).a2):=λs J hr=>l.L.dis s J _ (am r) (s.Q - (nth h.K k).Q).toNat ω ω
 have same:∀f c:Nat,cl h'.G f c≠0->cl h.G f c=cl h'.G f c:=λf c C=>by
  rcases kl.cel f c with e|e
  ·rcases G f c with g|⟨g,-⟩
   ·rw[e,g]
   exact absurd (e.trans g) C
  exact absurd e.1 C
 have stay:∀o∈h.O,∀j:Int,0<=j->j<o.o->(o=nth h.O i->j<size)->∀f c:Nat,At h.G (o.Addr+j) f c->At h'.G (o.Addr+j) f c/\cl h'.G f c=cl h.G f c:=λo t j w B O f c d=>by
  have y:po h o f c:=⟨j,w,B,d⟩
  have n:ac h'.G.F.R ((o.Addr+j) / 16)=ac h.G.F.R ((o.Addr+j) / 16):=by
   refine pout _ λZ=>?_
   have e:=only o t f c y (onL _ ω ω f c d);have:=O e;rw[e,W]at Z;omega
  have u:At h'.G (o.Addr+j) f c:=⟨by rw[n];exact d.m,by rw[n];exact d.f,d.c⟩
  refine⟨u,?_⟩;rcases kl.cel f c with e|⟨-,e⟩
  ·rcases G f c with g|⟨-,b,g1,g2,S⟩
   ·rw[e,g]
   exfalso;have eo:=only o t f c y (onL b ω ω f c S);have hjs:=O eo;have Y:=kY l (am r) (b:=b) ω ω S d.m d.f;have c1:=d.c;have c2:=S.c;rw[eo,W]at Y c1;omega
  exact absurd u.f (e _ u.m)
 refine⟨hc.keep Q R (λq Y=>?_) (λhm=>?_) (λf c _ C=>.inl (same f c C)) (λo t f c h16 y C=>?_) (λhm c _=>?_) (λ_ s' hs' _=>⟨s',by rw[<-P];exact hs',rfl,rfl,λ_ h=>h⟩),λo t j w B O=>?_⟩
 ·have hq':(nth h'.G.F.R.J q).j=1:=Y
  have:=kl.md A q ω;rw[D]at this;show(nth h.G.F.R.J q).j=1;rw[<-this];exact hq'
 ·obtain⟨-,⟨a,ha,T⟩,b,hb,eb⟩:=l.job hm
  exact⟨pout _ λZ=>noS a ha ω,pout _ λZ=>noS b hb ω⟩
 ·obtain⟨j,w,B,d⟩:=y
  by_cases e:o=nth h.O i/\size<=j
  ·exfalso
   obtain⟨e,ej⟩:=e;subst e;by_cases ej2:j<16*((size+15) / 16)
   ·have:=hzv f c ((nth h.O i).Addr+j) ω ω d
    rcases kl.cel f c with g|g
    ·exact C (g.trans this)
    exact C g.1
   refine C (nC ker (λp K hf=>?_) c);by_cases er:(nth h.K k).Q+(size+15) / 16<=p/\p<(nth h.K k).Q+(nth h.K k).a2
   ·exact K (kl.ins p er.1 ω)
   rw[pout p er]at K hf;have:=kY l (am r) (b:=(nth h.O i).Addr+j) ω ω d K hf;omega
  have st:=stay o t j w B (λU=>by have:¬size<=j:=λx=>e ⟨U,x⟩;omega) f c d;by_cases U:o=nth h.O i
  ·refine⟨{nth h.O i with o:=size},by rw[F];exact(ri V).2 (.inl rfl),j,w,?_,?_⟩
   ·have:¬size<=j:=λx=>e ⟨U,x⟩
    show j<size;omega
   have H:=st.1;rw[U]at H;exact H
  refine⟨o,?_,j,w,B,st.1⟩;rw[F];obtain⟨m,lm,rfl⟩:=aJ t;exact(ri V).2 (.inr ⟨m,lm,λx=>U (by rw[x]),rfl⟩)
 ·have key:∀s∈h.M,cl h'.G (bG h.G s.Q) c=cl h.G (bG h.G s.Q) c:=λs J=>by
   have n:(ac (tbl h) s.Q).j≠0:=by rw[l.pe J];exact(l.mapped J).2.2
   rcases kl.cel (bG h.G s.Q) c with e|⟨-,e⟩
   ·rcases G (bG h.G s.Q) c with g|⟨-,b,g1,g2,S⟩
    ·rw[e,g]
    have:=kY l (am r) (b:=b) ω ω S (q:=s.Q) n (kw l.ker n);exact absurd (show(nth h.K k).Q<=s.Q/\s.Q<(nth h.K k).Q+(nth h.K k).a2 by omega) (noS s J)
   have K:=pout s.Q λZ=>noS s J ω
   refine absurd ?_ (e s.Q (by rw[K];exact n));rw[K];exact kw l.ker n
  obtain⟨-,⟨a,ha,T⟩,b,hb,eb⟩:=l.job hm;rw[<-T,<-eb];exact⟨key a ha,key b hb⟩
 have d:=At.mk' l.ker (cG l t (k:=j) ⟨w,ω⟩).1;obtain⟨s1,s2⟩:=stay o t j w B O _ _ d;rw[s1.cell,d.cell,s2]
theorem DP{α:Type}[Inhabited α](n j:Nat)(y:α):nth (List.replicate n y) j=y\/nth (List.replicate n y) j=default:=by
 by_cases h:j<n
 ·exact .inl (cJ h)
 right
 unfold nth;rw[I2,C2 (by rw[R3];omega)];rfl
theorem CI.newHeap(p f t:Nat)(lim:Int)(a:List Int):CI (newHeap p f t lim a):=by
 refine⟨λg c b d=>absurd ?_ d,λe=>(by cases e),λe=>(by cases e),λe=>(by cases e),λe=>(by cases e),λq h=>absurd h ?_,λe=>(by cases e)⟩
 ·show nth (nth (List.replicate f (List.replicate 16 (0:Int))) g) c=0
  rcases DP f g (List.replicate 16 (0:Int)) with e|e<;>rw[e]
  ·exact yB _ _
  rfl
 show ¬(nth (List.replicate p (⟨0,0⟩ : bi)) q).j=1;rcases DP p q (⟨0,0⟩ : bi) with e|e<;>rw[e]
 ·decide
 decide
def f8(k:ah)(o:br):bp:=⟨o.Id,cellsOf k o.Addr o.o.toNat⟩
structure RS(w:bj):Prop where
 nx:w.b3.a=w.Z.a
 asc:w.b3.O.Pairwise λa b=>a.Id<b.Id
 mem:∀y,y∈w.b3.O↔∃o∈w.Z.O,y=f8 w.Z.G o
theorem pq{k b:ah}{a:Int}{n:Nat}(h:∀j:Int,0<=j->j<n->dG b (a+j)=dG k (a+j)):cellsOf b a n=cellsOf k a n:=by
 unfold cellsOf;refine List.map_congr_left λj c=>?_
 have:=List.mem_range.1 c;exact h j ω ω
theorem f9{k a:ah}{o:br}(h:∀j:Int,0<=j->j<o.o->dG a (o.Addr+j)=dG k (o.Addr+j)):f8 a o=f8 k o:=by
 unfold f8;rw[pq λj b c=>h j b ω]
theorem P2{α:Type}[Inhabited α]{R:α->α->Prop}{xs:List α}(h:xs.Pairwise R){i j:Nat}(a:i<j)(b:j<xs.length):R (nth xs i) (nth xs j):=by
 have:=List.pairwise_iff_getElem.1 h i j ω b a;rw[show nth xs i=xs[i] from bc (W1 ω),show nth xs j=xs[j] from bc (W1 b)];exact this
theorem RS.at{w:bj}(b:RS w){o:br}(c:o∈w.Z.O):∃j:Nat,j<w.b3.O.length/\nA w.b3 o.Id=(j:Nat)/\nth w.b3.O j=f8 w.Z.G o:=by
 obtain⟨j,a,e⟩:=aJ ((b.mem _).2 ⟨o,c,rfl⟩);refine⟨j,a,ed (ao a) (O0 (by rw[e];rfl)) λm z d f=>R0 ?_,e⟩;have g:=P2 b.asc d a;rw[bc f,e]at g;have h:(f8 w.Z.G o).Id=o.Id:=rfl;omega
theorem RS.lt{w:bj}(a:RS w)(b:aV w.Z []):∀y∈w.b3.O,1<=y.Id/\y.Id<w.b3.a:=λy c=>by
 obtain⟨o,d,rfl⟩:=(a.mem y).1 c;have:=b.onu o d;rw[a.nx];show 1<=o.Id/\o.Id<w.Z.a;omega
theorem RS.keep{w:bj}(b:RS w){h':ab}(d:h'.O=w.Z.O)(c:Kp w.Z h')(e:h'.a=w.Z.a):RS ⟨h',w.b3⟩:=by
 refine⟨b.nx.trans e.symm,b.asc,λy=>(b.mem y).trans ?_⟩;show _↔∃o∈h'.O,y=f8 h'.G o
 constructor
 ·rintro⟨o,f,rfl⟩
  have a:o∈h'.O:=by rw[d];exact f
  exact⟨o,a,(f9 (c o a).2).symm⟩
 rintro⟨o,a,rfl⟩
 exact⟨o,(c o a).1,f9 (c o a).2⟩
theorem RS.alloc{w:bj}(e:RS w)(i:aV w.Z []){h':ab}{x:br}(d:Qj w.Z h' x)(k:x.Id=w.Z.a)(g:h'.a=w.Z.a+1)(l:1<=x.o/\x.o<=1000):RS ⟨h',iv w.b3 x.o⟩:=by
 unfold iv;rw[C9 l];have h:f8 h'.G x = ⟨w.b3.a,List.replicate x.o.toNat 0⟩:=by
  unfold f8;rw[k,e.nx]
  congr 1
  refine List.eq_replicate_iff.2 ⟨gh ..,λb f=>?_⟩;unfold cellsOf at f;obtain⟨j,n,rfl⟩:=C4.1 f;have:=List.mem_range.1 n;exact d.ze j ω ω
 refine⟨by show w.b3.a+1=h'.a;rw[g,e.nx],?_,λy=>?_⟩
 ·refine List.pairwise_append.2 ⟨e.asc,List.pairwise_singleton _ _,λa p b f=>?_⟩
  rw[C1.1 f];exact(e.lt i a p).2
 show y∈w.b3.O++[_]↔∃o∈h'.O,y=f8 h'.G o
 rw[U2,C1,e.mem];constructor
 ·rintro(⟨o,c,rfl⟩|rfl)
  ·exact⟨o,(d.mem o).2 (.inr c),(f9 (d.ke o c)).symm⟩
  exact⟨x,(d.mem x).2 (.inl rfl),h.symm⟩
 rintro⟨o,c,rfl⟩
 rcases(d.mem o).1 c with rfl|c
 ·exact .inr h
 exact .inl ⟨o,c,f9 (d.ke o c)⟩
theorem RS.free{w:bj}(a:RS w)(p:aV w.Z []){i:Nat}(h:i<w.Z.O.length){h':ab}(k:h'.O=dele w.Z.O i)(l:Kp w.Z h')(r:h'.a=w.Z.a):RS ⟨h',jl w.b3 (nth w.Z.O i).Id⟩:=by
 obtain⟨j,t,u,n⟩:=a.at (am h);unfold jl;rw[u,C8 ω];simp only[O2];refine⟨a.nx.trans r.symm,a.asc.sublist (fk _ _),λy=>?_⟩;show y∈dele w.b3.O j↔∃o∈h'.O,y=f8 h'.G o
 rw[cQ];constructor
 ·rintro⟨m,c,A,rfl⟩
  obtain⟨o,d,e⟩:=(a.mem _).1 (am c);have b:o∈h'.O:=by
   rw[k];obtain⟨q,g,rfl⟩:=aJ d;refine cQ.2 ⟨q,g,λx=>A ?_,rfl⟩;subst x;exact cE (f:=(·.Id)) (cN a.asc) c t (by rw[e,n])
  exact⟨o,b,e.trans (f9 (l o b).2).symm⟩
 rintro⟨o,b,rfl⟩
 obtain⟨d,B⟩:=l o b;rw[f9 B];obtain⟨m,c,e⟩:=aJ ((a.mem _).2 ⟨o,d,rfl⟩);refine⟨m,c,λx=>?_,e⟩;subst x;rw[k]at b;obtain⟨q,g,C,rfl⟩:=cQ.1 b;exact C (cE (f:=(·.Id)) p.oid g h (U0 bp.Id (e.symm.trans n)))
theorem RS.upd{w:bj}(d:RS w)(A:aV w.Z []){i:Nat}(B:i<w.Z.O.length){h':ab}{x':br}(C:x'.Id=(nth w.Z.O i).Id)(k:∀o,o∈h'.O↔o=x'\/∃m,m<w.Z.O.length/\m≠i/\nth w.Z.O m=o)(t:∀m,m<w.Z.O.length->m≠i->f8 h'.G (nth w.Z.O m)=f8 w.Z.G (nth w.Z.O m))(D:h'.a=w.Z.a){j:Nat}(l:j<w.b3.O.length)(n:nth w.b3.O j=f8 w.Z.G (nth w.Z.O i)):RS ⟨h',{w.b3 with O:=w.b3.O.set j (f8 h'.G x')}⟩:=by
 refine⟨d.nx.trans D.symm,?_,λy=>?_⟩
 ·have u:(w.b3.O.map (·.Id)).Pairwise (λa b=>a<b):=List.pairwise_map.2 d.asc
  rw[<-jY (f:=(·.Id)) (y:=f8 h'.G x') l (by rw[n];exact C)]at u;exact List.pairwise_map.1 u
 show y∈w.b3.O.set j _↔∃o∈h'.O,y=f8 h'.G o
 rw[ri l];constructor
 ·rintro(rfl|⟨m,h,p,rfl⟩)
  ·exact⟨x',(k x').2 (.inl rfl),rfl⟩
  obtain⟨o,r,e⟩:=(d.mem _).1 (am h);obtain⟨q,c,rfl⟩:=aJ r;have g:q≠i:=λx=>p (by subst x;exact cE (f:=(·.Id)) (cN d.asc) h l (by rw[e,n]))
  exact⟨_,(k _).2 (.inr ⟨q,c,g,rfl⟩),e.trans (t q c g).symm⟩
 rintro⟨o,r,rfl⟩
 rcases(k o).1 r with rfl|⟨q,c,g,rfl⟩
 ·exact .inl rfl
 rw[t q c g];obtain⟨m,h,e⟩:=aJ ((d.mem _).2 ⟨_,am c,rfl⟩);refine .inr ⟨m,h,λx=>g ?_,e⟩;subst x;exact cE (f:=(·.Id)) A.oid c B (U0 bp.Id (e.symm.trans n))
theorem MR{h:ab}{E:List Int}(a:aV h E){o:br}(c:o∈h.O):1<=o.o/\o.o<=1000:=by
 rcases a.oow _ c with⟨s,d,e,f⟩|⟨l,b,g,i⟩
 ·have j:=aC (a.L.sok s d)
  have:=gf (n:=o.o) ω;omega
 have k:=cw (a.L.lok l b);omega
theorem RS.store{w:bj}(l:RS w)(g:aV w.Z [])(h:JI w.Z)(n:CI w.Z){i:Nat}(a:i<w.Z.O.length){j v:Int}(p:0<=j/\j<=(nth w.Z.O i).o - 1)(r:0<=v/\v<=999)(t:(ac (tbl w.Z) (((nth w.Z.O i).Addr+j) / 16)).j≠1):RS ⟨{w.Z with G:=d3 w.Z.G ((nth w.Z.O i).Addr+j) v},dR w.b3 (nth w.Z.O i).Id j v⟩:=by
 obtain⟨-,d⟩:=CI.store (v:=v) g h n a p t;obtain⟨b,u,A,k⟩:=l.at (am a);have B:(nth w.b3.O b).S.length=(nth w.Z.O i).o.toNat:=by rw[k];exact gh ..
 have C:dR w.b3 (nth w.Z.O i).Id j v = {w.b3 with O:=w.b3.O.set b ⟨(nth w.b3.O b).Id,(nth w.b3.O b).S.set j.toNat v⟩}:=by
  unfold dR;rw[A];simp only[O2];rw[C9 ⟨ω,ω,r⟩]
 have D:(⟨(nth w.b3.O b).Id,(nth w.b3.O b).S.set j.toNat v⟩ : bp)=f8 (d3 w.Z.G ((nth w.Z.O i).Addr+j) v) (nth w.Z.O i):=by
  rw[k];unfold f8;simp only
  congr 1
  refine List.ext_getElem (by simp[cellsOf]) λq K E=>?_
  rw[gh]at E;rw[List.getElem_set];simp only[cellsOf,List.getElem_map,List.getElem_range];have:=d _ (am a) q ω ω;rw[this];by_cases e:j.toNat=q
  ·rw[C9 e,C9 ⟨rfl,ω⟩]
  rw[C8 e,C8 (λx=>e ω)]
 rw[C,D];refine RS.upd l g a (h':={w.Z with G:=d3 w.Z.G ((nth w.Z.O i).Addr+j) v}) rfl (λo=>?_) (λm c F=>?_) rfl u k
 ·show o∈w.Z.O↔_
  constructor
  ·intro G
   obtain⟨m,c,rfl⟩:=aJ G;by_cases e:m=i
   ·subst e;exact .inl rfl
   exact .inr ⟨m,c,e,rfl⟩
  rintro(rfl|⟨m,c,-,rfl⟩)
  ·exact am a
  exact am c
 refine f9 λx H J=>?_
 show dG (d3 w.Z.G _ v) _=_;rw[d _ (am c) x H J,C8 (λy=>F (cE (f:=(·.Addr)) (cN g.osr) c a (by rw[y.1])))]
theorem zE(k:ah)(a:Int){n m:Nat}(h:m<=n):(cellsOf k a n).take m=cellsOf k a m:=by
 unfold cellsOf;rw[<-Y3,List.take_range,Nat.min_eq_left h]
theorem RS.trim{w:bj}(g:RS w)(d:aV w.Z [])(p:CI w.Z){i k:Nat}{size:Int}(a:i<w.Z.O.length)(h:k<w.Z.K.length)(l:(nth w.Z.O i).Addr=16*(nth w.Z.K k).Q)(q:9<=size/\size<=(nth w.Z.K k).o):RS ⟨trimH w.Z i k size,fg w.b3 (nth w.Z.O i).Id size⟩:=by
 obtain⟨-,c⟩:=CI.trimH d p a h l q;have r:=yW d (am a) h l;obtain⟨b,t,u,e⟩:=g.at (am a);have A:(nth w.b3.O b).S.length=(nth w.Z.O i).o.toNat:=by rw[e];exact gh ..
 have B:fg w.b3 (nth w.Z.O i).Id size = {w.b3 with O:=w.b3.O.set b ⟨(nth w.b3.O b).Id,(nth w.b3.O b).S.take size.toNat⟩}:=by
  unfold fg;rw[u];simp only[O2];rw[C9 ⟨ω,ω,ω⟩]
 have C:(⟨(nth w.b3.O b).Id,(nth w.b3.O b).S.take size.toNat⟩ : bp)=f8 (trimH w.Z i k size).G {nth w.Z.O i with o:=size}:=by
  rw[e];unfold f8;simp only;rw[zE _ _ ω]
  congr 1
  refine(pq λj D H=>?_).symm;exact c _ (am a) j D ω λ_=>ω
 rw[B,C];refine RS.upd g d a (h':=trimH w.Z i k size) (x':={nth w.Z.O i with o:=size}) rfl (λo=>ri a) (λm n E=>?_) rfl t e;refine f9 λx F G=>c _ (am n) x F G λy=>absurd (cE (f:=(·.Addr)) (cN d.osr) n a (by rw[y])) E
theorem Dn(h:ab)(i:Nat)(a:Int):(freeS h i a).a=h.a:=by unfold freeS;split<;>rfl
theorem K5(t:Nat)(h:ab)(a:Int):(recyc t h a).a=h.a:=by
 unfold recyc;split
 ·rfl
 exact Dn h (t7 h a) a
theorem sD(t:Nat):∀(az:List Int)(h:ab),(recycs t h az).a=h.a
 | [],_=>rfl
 | a::az,h=>(sD t az (recyc t h a)).trans (K5 t h a)
theorem rV:∀(az:List Int)(h:ab),(freeAs h az).a=h.a
 | [],_=>rfl
 | a::az,h=>(rV az (freeA h a)).trans (Dn h (t7 h a) a)
theorem zu(t:Nat)(h:ab):∀k,(flushN t h k).1.a=h.a/\(flushN t h k).1.O=h.O
 | 0=>⟨rfl,rfl⟩
 | k+1=>by
  obtain⟨a,b⟩:=zu t h k;exact⟨(rV _ _).trans a,(ig _ _).2.1.trans b⟩
theorem El(h:ab)(t i:Nat):(Dw h t i).a=h.a/\(Dw h t i).O=dele h.O i:=⟨sD _ _ _,(gn _ _ _).2.1⟩
theorem Fp(h:ab)(t i:Nat):(freeT h t i).1.a=h.a/\(((freeT h t i).2=0/\(freeT h t i).1.O=dele h.O i)\/((freeT h t i).2=5/\(freeT h t i).1=h)):=by
 unfold freeT
 repeat' split
 ·exact⟨rfl,.inl ⟨rfl,rfl⟩⟩
 ·exact⟨rfl,.inr ⟨rfl,rfl⟩⟩
 ·exact⟨(El h t i).1,.inl ⟨rfl,(El h t i).2⟩⟩
 ·exact⟨rfl,.inl ⟨rfl,rfl⟩⟩
 exact⟨rfl,.inr ⟨rfl,rfl⟩⟩
theorem FY(h:ab):∀n,(stN h n).1.a=h.a/\(stN h n).1.O=h.O
 | 0=>⟨rfl,rfl⟩
 | n+1=>by
  obtain⟨a,b⟩:=FY h n;unfold stN;split
  ·exact⟨a,b⟩
  exact⟨a,b⟩
theorem CI.stN{h:ab}(a:aV h [])(b:JI h)(c:CI h):∀n,CI (stN h n).1/\Kp h (stN h n).1
 | 0=>⟨c,CX h⟩
 | n+1=>by
  obtain⟨g,i⟩:=vw a b n;obtain⟨d,f⟩:=CI.stN a b c n;unfold Ab.stN;split
  ·rename_i e
   unfold sQ at e;rw[I0]at e;obtain⟨j,k⟩:=CI.mStep g i d e.1;exact⟨j,f.trans k⟩
  exact⟨d,f⟩
theorem wR(h:ab):(started h).1.a=h.a/\(started h).1.O=h.O:=by
 unfold started;split<;>exact⟨rfl,rfl⟩
structure CW(w:bj):Prop where
 ci:CI w.Z
 rs:RS w
theorem CW.keep{w:bj}(h:CW w){g:ab}(a:CI g/\Kp w.Z g)(b:g.O=w.Z.O)(c:g.a=w.Z.a):CW ⟨g,w.b3⟩:=⟨a.1,h.rs.keep b a.2 c⟩
theorem CW.obj{w:bj}{m:Nat}(h:qA w m)(c:CW w)(a:eg){i:Nat}(b:i<w.Z.O.length):CW (mH w a i).1:=by
 unfold mH;split
 ·unfold rA
  split
  ·exact c
  split
  ·rename_i q
   unfold mu at q;have l:=CI.freeT (t:=a.a3.toNat) h.inv h.ji c.ci b ω;obtain⟨r,u⟩:=Fp w.Z a.a3.toNat i;refine⟨l.1,?_⟩;show RS ⟨(freeT w.Z a.a3.toNat i).1,if _ then _ else _⟩;rcases u with⟨f,d⟩|⟨f,d⟩
   ·rw[C9 f];exact c.rs.free h.inv b d l.2 r
   rw[C8 (by rw[f];decide),d];exact c.rs
  exact c
 split
 ·unfold nU
  split
  ·exact c
  rename_i g;split
  ·exact c
  rename_i n;split
  ·exact c
  rename_i j;have g:=Classical.not_not.1 g;have j:=Classical.not_not.1 j;exact⟨(CI.store h.inv h.ji c.ci b g n).1,RS.store c.rs h.inv h.ji c.ci b g j n⟩
 unfold r7;split
 ·rename_i e
  obtain⟨-,f,d⟩:=e;obtain⟨o,y,A⟩:=fx _ _ f;have k:=of_decide_eq_true y;have p:=k.symm.trans (Int.mul_comm _ _);exact⟨(CI.trimH h.inv c.ci b o p d).1,RS.trim c.rs h.inv c.ci b o p d⟩
 exact c
theorem CW.thread{w:bj}{m:Nat}(h:qA w m)(c:CW w)(a:eg):CW ⟨(fL w.Z a).1,w.b3⟩:=by
 have b:=c.ci;unfold fL;split
 ·split
  ·exact CW.keep (g:={w.Z with w:=fC w.Z.w a.a3.toNat}) c ⟨⟨b.z,b.jv,b.jd,b.jc,b.jn,b.m1,b.m2⟩,CX w.Z⟩ rfl rfl
  exact c
 split
 ·exact c
 rename_i e;have e:=Classical.not_not.1 e;obtain⟨-,i⟩:=e;unfold mu at i;split
 ·exact c.keep (CI.collect (t:=a.a3.toNat) h.inv b ω) (gn _ _ _).2.1 (sD _ _ _)
 have j:a.a3.toNat<w.Z.T.length:=ω
 have f:=CI.flushN h.inv j b (W2 4);have d:=zu a.a3.toNat w.Z 4;generalize flushN a.a3.toNat w.Z 4=r at f d |-;exact CW.keep (g:=r.1) c f d.2 d.1
theorem CW.act{w:bj}{m:Nat}(h:qA w m)(c:CW w)(a:eg):CW (oc w a).1:=by
 unfold oc;split
 ·have b:=CI.allocH (t:=a.a3) (size:=a.N) h.inv h.ji c.ci
  refine⟨b.ci,?_⟩;show RS ⟨(allocH w.Z a.a3 a.N).1,if _ then _ else _⟩;split
  ·rename_i e
   obtain⟨d,f,g,i,-⟩:=b.yes e;exact RS.alloc (x:=⟨w.Z.a,(allocH w.Z a.a3 a.N).2.1,a.N,a.a3⟩) c.rs h.inv d rfl f ⟨g,i⟩
  rename_i e;obtain⟨j,k,l,-⟩:=b.no e;exact c.rs.keep j k l
 split
 ·split
  ·exact c
  rename_i e;exact c.obj h a (fx _ _ (by unfold pF at e;omega)).1
 split
 ·exact c.thread h a
 split
 ·unfold oW
  split
  ·rename_i e
   exact c.keep (CI.tick h.inv c.ci e.2.1.1 e.2.2) (ig _ _).2.1 (rV _ _)
  exact c
 split
 ·unfold pb
  split
  ·exact c
  rename_i e;exact c.keep (CI.started h.inv c.ci (by simpa using e)) (wR _).2 (wR _).1
 split
 ·exact c.keep (CI.stN h.inv h.ji c.ci _) (FY _ _).2 (FY _ _).1
 exact c
theorem HJ(c:cF):CW (world0 c):=⟨CI.newHeap ..,rfl,List.Pairwise.nil,λy=>⟨λh=>(by cases h),λ⟨_,h,_⟩=>(by cases h)⟩⟩
theorem Ks{c:cF}(h:Fz c)(acts:List eg):∀n,CW (zZ c acts n).1
 | 0=>HJ c
 | n+1=>(Ks h acts n).act (vA h acts n) _
theorem Mq(zs:List Int):CW (drawn zs):=Ks (qE (T0 _)).1 _ _
def sm{α:Type}(f:α->Int):List α->Int
 | []=>0
 | a::l=>f a+sm f l
open Go.RowKit
set_option maxRecDepth 20000
set_option maxHeartbeats 4000000
set_option maxHeartbeats 2000000
def NJ(h:ab):Nat->Nat
 | 0=>0
 | n+1=>if(nth (tbl h).J n).j≠0/\HQ h n=true then NJ h n+1 else NJ h n
theorem Nm(h:ab):∀n,NJ h n<=n
 | 0=>W2 _
 | n+1=>by have:=Nm h n;unfold NJ;split<;>omega
theorem oy{α:Type}{f:α->Int}{x:α} : ∀{xs:List α},(xs.map f).Nodup->x∈xs->xs.filter (λy=>decide (f y=f x))=[x]
 | [],_,h=>by cases h
 | y::ys,b,a=>by
  rw[U5,List.nodup_cons]at b;by_cases e:f y=f x
  ·rw[List.filter_cons_of_pos (by simpa using e)]
   have c:ys.filter (λy=>decide (f y=f x))=[]:=List.filter_eq_nil_iff.2 λz d g=>b.1 (by
     rw[e,<-of_decide_eq_true g];exact C4.2 ⟨z,d,rfl⟩)
   rw[c];rcases List.mem_cons.1 a with rfl|a
   ·rfl
   exact absurd (by rw[e];exact C4.2 ⟨x,a,rfl⟩) b.1
  rw[List.filter_cons_of_neg (by simpa using e)];rcases List.mem_cons.1 a with rfl|a
  ·exact absurd rfl e
  exact oy b.2 a
theorem zj{α:Type}{f:α->Int}(n:Int):∀{xs:List α},(xs.Pairwise λa b=>f a<f b)->xs.filter (λy=>decide (f y<n+1))=xs.filter (λy=>decide (f y<n))++xs.filter (λy=>decide (f y=n))
 | [],_=>rfl
 | y::ys,h=>by
  obtain⟨d,k⟩:=List.pairwise_cons.1 h;have l:=zj (f:=f) n k;rcases Int.lt_trichotomy (f y) n with e|e|e
  ·rw[List.filter_cons_of_pos (by simp;omega),List.filter_cons_of_pos (by simp;omega),List.filter_cons_of_neg (by simp;omega),l];rfl
  ·have g:ys.filter (λy=>decide (f y<n+1))=[]:=List.filter_eq_nil_iff.2 λz c=>by have:=d z c;simp;omega
   have i:ys.filter (λy=>decide (f y<n))=[]:=List.filter_eq_nil_iff.2 λz c=>by have:=d z c;simp;omega
   have j:ys.filter (λy=>decide (f y=n))=[]:=List.filter_eq_nil_iff.2 λz c=>by have:=d z c;simp;omega
   rw[List.filter_cons_of_pos (by simp;omega),List.filter_cons_of_neg (by simp;omega),List.filter_cons_of_pos (by simp;omega),g,i,j];rfl
  have g:ys.filter (λy=>decide (f y<n+1))=[]:=List.filter_eq_nil_iff.2 λz c=>by have:=d z c;simp;omega
  have i:ys.filter (λy=>decide (f y<n))=[]:=List.filter_eq_nil_iff.2 λz c=>by have:=d z c;simp;omega
  have j:ys.filter (λy=>decide (f y=n))=[]:=List.filter_eq_nil_iff.2 λz c=>by have:=d z c;simp;omega
  rw[List.filter_cons_of_neg (by simp;omega),List.filter_cons_of_neg (by simp;omega),List.filter_cons_of_neg (by simp;omega),g,i,j];rfl
def m9(r:bp):cn:=⟨r.Id,(r.S.length:Nat),ro r.S r.S.length⟩
theorem FW(k:ah){o:br}(h:0<=o.o):m9 (f8 k o)=mw k o:=by
 unfold m9 f8 mw;simp only[gh];rw[show((o.o.toNat:Nat):Int)=o.o by omega]
theorem y8{w:bj}(b:RS w)(c:aV w.Z []):∀n:Nat,i6 w.Z n=(w.b3.O.filter λy:bp=>decide (y.Id<(n:Int))).map m9
 | 0=>by
  rw[List.filter_eq_nil_iff.2 (λy h=>by have:=b.lt c y h;simp;omega)];rfl
 | n+1=>by
  have k:=zj (f:=λy:bp=>y.Id) (n:Int) b.asc;rw[show((n+1:Nat):Int)=(n:Int)+1 by omega,k,R5,i6,y8 b c n]
  congr 1
  by_cases i:∃o∈w.Z.O,o.Id=n
  ·obtain⟨o,a,e⟩:=i
   have l:=MR c a;have d:=oy (f:=λo:br=>o.Id) (x:=o) c.oid a;have g:=oy (f:=λy:bp=>y.Id) (x:=f8 w.Z.G o) (cN b.asc) ((b.mem _).2 ⟨o,a,rfl⟩);simp only[show(f8 w.Z.G o).Id=o.Id from rfl,e]at d g;rw[g,show w.Z.O.filter (eG n)=[o] from d,U5,U5,FW _ ω]
   rfl
  have d:w.Z.O.filter (eG n)=[]:=List.filter_eq_nil_iff.2 λo a j=>i ⟨o,a,of_decide_eq_true j⟩
  have g:w.b3.O.filter (λy:bp=>decide (y.Id=(n:Int)))=[]:=List.filter_eq_nil_iff.2 λy h j=>by
   obtain⟨o,a,rfl⟩:=(b.mem y).1 h;exact i ⟨o,a,of_decide_eq_true j⟩
  rw[d,g];rfl
theorem D0{w:bj}(a:RS w)(b:aV w.Z []):jf w.Z=w.b3.O.map m9:=by
 unfold jf;rw[C9 b.to,y8 a b,List.filter_eq_self.2];intro y c;have:=a.lt b y c;have:=a.nx;exact O0 ω
theorem Hz{h:ab}(b:aV h []):(jf h).length=h.O.length:=by
 have c:=λo a=>b.onu o a
 unfold jf;rw[C9 b.to,tO (λo a=>by have:=c o a;omega),List.filter_eq_self.2];intro o a;have:=c o a;exact O0 ω
theorem NS{w:bj}(c:RS w)(a:aV w.Z []):w.b3.O.length=w.Z.O.length:=by
 have b:=Hz a;rw[D0 c a,X0]at b;exact b
theorem KK(a b c d e f:Int):QH Tryz.prog .neq 84 [.int .i64 a,.int .i64 b,.int .i64 c] [.int .i64 d,.int .i64 e,.int .i64 f] (!(a == d&&(b == e&&(c == f)))):=by
 refine⟨λx y w=>?_⟩;rw[Sem.run_bind,run_eqGuard_agg w .neq _ x y _ _ (by kernel_rfl)];simp only[Result.andThen_ok];rw[run_neq_struct,run_equalIn_agg w _ _ _ _ (by kernel_rfl) (by kernel_rfl)];simp only[Program.fieldsOf,Tryz.underlying84];simp only[Op.eqFields];simp[part,Sem.run_bind,run_equalIn_int _ _ _ _ _ _ _ Tryz.underlying3];by_cases g:a=d<;>by_cases h:b=e<;>by_cases i:c=f<;>simp[g,h,i]
theorem ET(a:List cn)(d:a.length<=1048576):ar Tryz.prog 100 false [.val none (dB .X a),.val none (dB .X a)] .one [B true]:=by
 refine fO 26 [(6,9,[16,17,18,19,20,21,22,23,24])] Tryz.func100 rfl ?_
 repeat'(first|refine gA ?_|fail)
 (conv=>whnf)
 refine CE (ι:=Nat) (λi=>[(0,.H .one (dB .X a)),(1,.H .one (dB .X a)),(12,.H .one [I ((a.length:Nat):Int)]),(13,.H .one [I ((i:Nat):Int)])]) (λi=>i<=a.length) (λi=>a.length - i) (0) ?_ (T0 _) λi e=>?_
 ·exact wC
 by_cases c:i<a.length
 ·have b:=ao c
  repeat'(first|refine gD ?_|(conv=>whnf);first|with_reducible refine CC (aa b) ?_|refine CH rfl (aa b) rfl ?_|refine PA.mk (KK _ _ _ _ _ _) ?_|refine Bf.t (by simp only[beq_self_eq_true,Bool.and_self]) ?_)
  ((conv=>whnf);refine CD (i+1) ω ω ?_;(exact wC))
 repeat'(first|refine gD ?_|fail)
 rfl
theorem H3(a b:List cn)(e:a.length<=1048576)(c:b.length<=1048576)(d:a.length≠b.length):ar Tryz.prog 100 false [.val none (dB .X a),.val none (dB .X b)] .one [B false]:=by
 refine fO 26 [(6,9,[16,17,18,19,20,21,22,23,24])] Tryz.func100 rfl ?_
 repeat'(first|refine gA ?_|fail)
 rfl
theorem xA(a:List cn)(b:a.length<=1048576):ar Tryz.prog 33 false [.val none (dB .X a),.val none (dB .X a)] .one [B true]:=by
 have c:=ET a b;refine fO 8 [] Tryz.func33 rfl ?_
 repeat'(first|refine gO ?_|(conv=>whnf);first|refine C7 (c) ?_)
 rfl
theorem AK(a b:List cn)(e:a.length<=1048576)(c:b.length<=1048576)(d:a.length≠b.length):ar Tryz.prog 33 false [.val none (dB .X a),.val none (dB .X b)] .one [B false]:=by
 have g:=H3 a b e c d;refine fO 8 [] Tryz.func33 rfl ?_
 repeat'(first|refine gO ?_|(conv=>whnf);first|refine C7 (g) ?_)
 rfl
theorem Ds:∀{a b:List cn},a.Pairwise (λx y=>x.Id<y.Id)->b.Pairwise (λx y=>x.Id<y.Id)->(∀x,x∈a↔x∈b)->a=b
 | [],[],_,_,_=>rfl
 | [],y::b,_,_,h=>by have:=(h y).2 (R1 ..);cases this
 | x::a,[],_,_,h=>by have:=(h x).1 (R1 ..);cases this
 | x::a,y::b,d,f,h=>by
  rw[List.pairwise_cons]at d f;have g:x=y:=by
   rcases List.mem_cons.1 ((h x).1 (R1 ..)) with e|e
   ·exact e
   rcases List.mem_cons.1 ((h y).2 (R1 ..)) with i|i
   ·exact i.symm
   have j:=f.1 x e;have k:=d.1 y i;omega
  subst g;rw[Ds d.2 f.2 λz=>?_];constructor
  ·intro c
   rcases List.mem_cons.1 ((h z).1 (Z4 _ c)) with e|e
   ·subst e;have:=d.1 z c;omega
   exact e
  intro c;rcases List.mem_cons.1 ((h z).2 (Z4 _ c)) with e|e
  ·subst e;have:=f.1 z c;omega
  exact e
theorem w5{h:ab}(c:dO h=true):h.O.Pairwise λo d=>o.Id≠d.Id:=by
 rw[List.pairwise_iff_getElem];intro i j a b f e;refine Qd c a b ω ?_;rw[bc (W1 a),bc (W1 b)];exact e
theorem tL{h:ab}(e:dO h=true):∀n:Nat,(i6 h n).Pairwise λx y=>x.Id<y.Id
 | 0=>List.Pairwise.nil
 | n+1=>by
  rw[i6,List.pairwise_append];refine⟨tL e n,?_,λx i y j=>?_⟩
  ·rw[List.pairwise_map]
   refine List.Pairwise.imp_of_mem ?_ ((w5 e).filter _);intro o f g k a;have b:=(I4.1 g).2;have c:=(I4.1 k).2;unfold eG at b c;rw[C0]at b c;exact absurd (b.trans c.symm) a
  obtain⟨o,-,⟨m,l,g⟩,rfl⟩:=nI.1 i;obtain⟨f,d,rfl⟩:=C4.1 j;have:=(I4.1 d).2;unfold eG at this;rw[C0]at this;show o.Id<f.Id;omega
theorem vI{h:ab}(a:dO h=true){zs:List cn}(e:zs.Perm (h.O.map (mw h.G)))(f:zs.Pairwise λx y=>x.Id<=y.Id):zs=jf h:=by
 have g:=Hs a;unfold jf;rw[C9 a];refine Ds ?_ (tL a _) λx=>?_
 ·have c:zs.Pairwise λx y=>x.Id≠y.Id:=by
   refine(e.pairwise_iff (fun {x y} h=>Ne.symm h)).2 ?_;rw[List.pairwise_map];exact(w5 a).imp λh=>h
  exact(f.and c).imp λh=>ω
 rw[e.mem_iff,nI,C4];constructor
 ·rintro⟨o,b,d⟩
  have:=g o b;exact⟨o,b,⟨o.Id.toNat,ω,ω⟩,d⟩
 rintro⟨o,b,-,d⟩
 exact⟨o,b,d⟩
end Go.Proofs.YtecefhjnejfheaaGreat.Ab
/-
 DERIVED: THE SHELF's CONTRACTS AT THIS DUMP, IN PLAIN WORDS (tools/lay-plain.mjs out of 'TryzShelf2.lean', which tools/lay-shelf.mjs wrote): THE SAME DECLARATIONS UNDER THE SAME NAMES: 'import', 'namespace', 'open', 'def', 'theorem' AND NOTHING ELSE: no command of the shelf's: FOR A HAND-IN. Each laying: the table of numbers ('.._ren') and one theorem, a field a fact of the dump's own or the kernel's comparison; each contract: ONE APPLICATION.
-/
namespace Go.Proofs
open Go.Shelf
def Tryz.sortFact_ren:Go.Shelf.Ren:=⟨fun|6=>98|15=>264|14=>263|28=>405|29=>406|20=>397|21=>398|22=>399|23=>400|24=>401|25=>402|26=>403|27=>404|46=>494|47=>495|48=>496|49=>497|50=>498|57=>551|n=>n,fun|22=>79|24=>84|25=>172|3=>3|39=>309|0=>0|53=>407|55=>409|4=>4|46=>401|45=>400|50=>136|5=>5|9=>9|66=>461|70=>465|76=>490|77=>145|n=>n,fun|n=>n⟩
theorem Tryz.sortFact:Go.Proofs.SlLaysF0.n6 Tryz.prog Tryz.sortFact_ren:={
  mixed:=by kernel_rfl
  f6:=⟨Tryz.f98.name,by decide,Tryz.func98.trans (congrArg some (by kernel_rfl))⟩
  f14:=⟨Tryz.f263.name,by decide,Tryz.func263.trans (congrArg some (by kernel_rfl))⟩
  f15:=Tryz.func264.trans (congrArg some (by kernel_rfl))
  f20:=⟨Tryz.f397.name,by decide,Tryz.func397.trans (congrArg some (by kernel_rfl))⟩
  f21:=⟨Tryz.f398.name,by decide,Tryz.func398.trans (congrArg some (by kernel_rfl))⟩
  f22:=⟨Tryz.f399.name,by decide,Tryz.func399.trans (congrArg some (by kernel_rfl))⟩
  f23:=⟨Tryz.f400.name,by decide,Tryz.func400.trans (congrArg some (by kernel_rfl))⟩
  f24:=⟨Tryz.f401.name,by decide,Tryz.func401.trans (congrArg some (by kernel_rfl))⟩
  f25:=⟨Tryz.f402.name,by decide,Tryz.func402.trans (congrArg some (by kernel_rfl))⟩
  f26:=⟨Tryz.f403.name,by decide,Tryz.func403.trans (congrArg some (by kernel_rfl))⟩
  f27:=⟨Tryz.f404.name,by decide,Tryz.func404.trans (congrArg some (by kernel_rfl))⟩
  f28:=Tryz.func405.trans (congrArg some (by kernel_rfl))
  f29:=Tryz.func406.trans (congrArg some (by kernel_rfl))
  f46:=⟨Tryz.f494.name,by decide,Tryz.func494.trans (congrArg some (by kernel_rfl))⟩
  f47:=Tryz.func495.trans (congrArg some (by kernel_rfl))
  f48:=Tryz.func496.trans (congrArg some (by kernel_rfl))
  f49:=⟨Tryz.f497.name,by decide,Tryz.func497.trans (congrArg some (by kernel_rfl))⟩
  f50:=⟨Tryz.f498.name,by decide,Tryz.func498.trans (congrArg some (by kernel_rfl))⟩
  f57:=⟨Tryz.f551.name,by decide,Tryz.func551.trans (congrArg some (by kernel_rfl))⟩
  t0:=Tryz.underlying0
  a0:=Tryz.isAgg0
  z0:=Tryz.sizeOf0
  v0:=Tryz.zeroValue0
  t3:=Tryz.underlying3
  a3:=Tryz.isAgg3
  z3:=Tryz.sizeOf3
  v3:=Tryz.zeroValue3
  t4:=Tryz.underlying4
  a4:=Tryz.isAgg4
  z4:=Tryz.sizeOf4
  v4:=Tryz.zeroValue4
  t5:=Tryz.underlying5
  a5:=Tryz.isAgg5
  z5:=Tryz.sizeOf5
  v5:=Tryz.zeroValue5
  t9:=Tryz.underlying9
  a9:=Tryz.isAgg9
  z9:=Tryz.sizeOf9
  v9:=Tryz.zeroValue9
  t22:=Tryz.underlying79
  a22:=Tryz.isAgg79
  z22:=Tryz.sizeOf79
  v22:=Tryz.zeroValue79
  t25:=Tryz.underlying172
  a25:=Tryz.isAgg172
  z25:=Tryz.sizeOf172
  v25:=Tryz.zeroValue172
  t39:=Tryz.underlying309
  a39:=Tryz.isAgg309
  z39:=Tryz.sizeOf309
  v39:=Tryz.zeroValue309
  t45:=Tryz.underlying400
  a45:=Tryz.isAgg400
  z45:=Tryz.sizeOf400
  v45:=Tryz.zeroValue400
  t46:=Tryz.underlying401
  a46:=Tryz.isAgg401
  z46:=Tryz.sizeOf401
  v46:=Tryz.zeroValue401
  t50:=Tryz.underlying136
  a50:=Tryz.isAgg136
  z50:=Tryz.sizeOf136
  v50:=Tryz.zeroValue136
  t53:=Tryz.underlying407
  a53:=Tryz.isAgg407
  z53:=Tryz.sizeOf407
  v53:=Tryz.zeroValue407
  t55:=Tryz.underlying409
  a55:=Tryz.isAgg409
  z55:=Tryz.sizeOf409
  v55:=Tryz.zeroValue409
  t66:=Tryz.underlying461
  a66:=Tryz.isAgg461
  z66:=Tryz.sizeOf461
  v66:=Tryz.zeroValue461
  t70:=Tryz.underlying465
  a70:=Tryz.isAgg465
  z70:=Tryz.sizeOf465
  v70:=Tryz.zeroValue465
  t76:=Tryz.underlying490
  a76:=Tryz.isAgg490
  z76:=Tryz.sizeOf490
  v76:=Tryz.zeroValue490
  t77:=Tryz.underlying145
  a77:=Tryz.isAgg145
  z77:=Tryz.sizeOf145
  v77:=Tryz.zeroValue145}
end Go.Proofs
namespace Go.Proofs.YtecefhjnejfheaaGreat.Ab
open Go.RowKit
set_option maxRecDepth 20000
set_option maxHeartbeats 4000000
def clp(z:Int):Int:=if z<0 then 0 else if 1000000<z then 1000000 else z
theorem LG(z:Int):0<=clp z/\clp z<=1000000:=by unfold clp;split<;>(try split)<;>omega
theorem Ad{z:Int}(h:0<=z/\z<=1000000):clp z=z:=by unfold clp;rw[C8 ω,C8 ω]
def pS(x:cn):List Value:=[.int .i64 (clp x.Id),.int .i64 x.o,.int .i64 x.c8]
def Fy(x y:cn):Int:=clp x.Id - clp y.Id
theorem QI(x y:cn):Go.Proofs.ltOf Fy x y=decide (clp x.Id<clp y.Id):=by
 unfold Go.Proofs.ltOf Fy;rw[decide_eq_decide];omega
theorem QR:Go.Sort.SWO (Go.Proofs.ltOf Fy) where
 irrefl x:=by rw[QI];simp
 trans x y z h1 h2:=by rw[QI]at *;simp at *;omega
 ntrans x y z h1 h2:=by rw[QI]at *;simp at *;omega
theorem Kq(x y:cn)(W:World):Calls Tryz.prog 99 #[.agg #[.int .i64 (clp x.Id),.int .i64 x.o,.int .i64 x.c8],.agg #[.int .i64 (clp y.Id),.int .i64 y.o,.int .i64 y.c8]] W λe g=>e=.returned (.int .i64 (Fy x y))/\∃q c,g=Sort.grow (W.drewN q) c:=by
 have h:=LG x.Id;have i:=LG y.Id;have d:IntKind.i64.wrap (clp x.Id - clp y.Id)=Fy x y:=eE ω ω;generalize Fy x y=r at d |-;generalize clp x.Id=a at d |-;generalize clp y.Id=b at d |-
 go_enter Tryz.func99,Tryz.ntmps99
 go_wp2
 go_ret
 refine⟨?_,0,_,by rw[Sort.alloc_eq_grow,Sort.alloc_eq_grow,Sort.grow_grow];rfl⟩
 rfl
theorem Dm{w a:World}{g n:Nat}{d:Array Value}{f:Array Obj}{c:Array Value}{e:TypeId}{k:Nat × Nat}(l:w.heap[g]? = some (.cells c e k))(p:a=Sort.grow (Sort.putRow id (Sort.ahead w n) g 0 d) f) :
  a.os=w.os/\a.tape=w.tape/\a.output=w.output/\w.heap.size<=a.heap.size/\(∀b,b<w.heap.size->b≠g->a.heap[b]? = w.heap[b]?)/\a.heap[g]? = some (.cells (Sort.putCells id 0 d c) e k):=by
 subst p;have h:g<w.heap.size:=(I3.1 l).1;have o:∀b,b<w.heap.size->(Sort.grow (Sort.putRow id (Sort.ahead w n) g 0 d) f).heap[b]? = if g=b then(w.heap[b]?).map (Sort.onCells (Sort.putCells id 0 d)) else w.heap[b]?:=λb i=>by
  rw[Sort.heap_grow_old _ _ (by simpa[Sort.putRow,Sort.mapBlock,Sort.ahead] using i)];show(w.heap.modify g _)[b]? = _;rw[Array.getElem?_modify]
 refine⟨rfl,rfl,rfl,?_,λb i j=>?_,?_⟩
 ·show w.heap.size<=((w.heap.modify g _)++f).size
  simp
 ·rw[o b i,C8 λe=>j e.symm]
 rw[o g h,C9 rfl,l];rfl
theorem Lv(d:Array Value)(c:Array Value)(q:Nat):(Sort.putCells id 0 d c)[q]? = if q<d.size then(c[q]?).map (λ_=>d[q]!) else c[q]?:=by
 unfold Sort.putCells;rw[Array.getElem?_mapIdx];by_cases h:q<d.size
 ·rw[C9 h]
  cases c[q]? with
  | none=>rfl
  | some y=>simp[h]
 rw[C8 h];cases c[q]? with
 | none=>rfl
 | some y=>simp[h]
def pO:Value:=.func (.func 99) #[] #[]
def D5(xs:List cn)(q:Nat):Value:=(pS (nth xs (q / 3)))[q % 3]!
theorem zG{xs:List cn}{i j:Nat}(a:j<3):D5 xs (i*3+j)=(pS (nth xs i))[j]!:=by
 unfold D5;rw[show(i*3+j) / 3=i by omega,show(i*3+j) % 3=j by omega]
theorem xx(d:Array cn)(i:Nat):d[i]! = nth d.toList i:=by
 unfold nth;rw[I2,Array.getElem?_toList,getElem!_def];cases d[i]?<;>rfl
theorem E9(d:Array cn){q:Nat}(a:q<d.size*3):(Sort.flatK pS 3 d)[q]! = D5 d.toList q:=by
 rw[Sort.get_flatK _ _ _ _ a,xx];rfl
theorem wD(xs ys:List cn)(hr:∀x∈xs,0<=x.Id/\x.Id<=1000000)(hl:xs.length<=1048576*64)(hys:∀zs:List cn,zs.Perm xs->zs.Pairwise (λx y=>x.Id<=y.Id)->zs=ys) :
  aS Tryz.prog 98 false [.mut none (dB .own xs),.val none [.v pO]] [.mut none (dB .own ys),.val none [.v pO]] (.tup []) []:=by
 refine⟨⟨_,Tryz.func98,by kernel_rfl,by kernel_rfl⟩,λw S V vs hS hV hVV hA=>?_⟩
 match vs,hA with
 | [v,v2],⟨hA,hA2,_⟩=>
  have hv2:v2=pO:=by
   obtain⟨-,u,rfl,l⟩:=(show bS w S NO none [C.v pO] v2 from hA2)
   obtain⟨f,H,-,-⟩:=l;have:=H 0 _ rfl;have hz:u 0=pO:=by
    generalize u 0=z at this;cases this
    rfl
   exact hz
  subst hv2;have U:=bS.rep1 (show bS w S (V 0) none [C.s .own (xs.map (cn.enc .own))] v from hA);generalize R:C.s .own (xs.map (cn.enc .own))=cc at U;cases U with
  | nil _ o a ho=>
   cases W:xs with
   | cons x xs'=>rw[W]at R;cases R
   | nil=>
    have hy0:ys=[]:=(hys [] (by rw[W]) List.Pairwise.nil).symm;refine(AnyF.slices_SortFunc_none Tryz.sortFact a 0 pO w).mono λe p ⟨he,Z⟩=>?_
    subst Z;refine⟨.tuple #[],he,CY _ _,NO,λ_=>NO,NO,λ_ _ h=>h.elim,λ_ _ _ h=>h.elim,λ_ _ h=>h.elim,λ_ _ _ _ _ h=>h.elim,λ_ _ _ h=>h.elim,λ_ _ h=>h.elim,λ_ _ _ h=>h.elim,⟨#[],rfl,trivial,rfl⟩,cU.nil _ _ _ _,⟨⟨rfl,λ_=>.slice a 0 0,rfl,row1 (by rw[hy0];exact .nil _ .own _ trivial)⟩,trivial,trivial⟩⟩
  | own _ o g k n M rows u f ho hn hk N hpos hF hu hf hd hc=>
   cases R;have hnx:n=xs.length:=by rw[<-hn,X0]
   have hx0:0<xs.length:=ω
   have hk3:k=3:=by
    have:=hk (cn.enc .own xs[0]) (C4.2 ⟨_,List.getElem_mem hx0,rfl⟩);exact this.symm
   subst hk3 hnx;have O:∀q,q<xs.length*3->cel w g q=some (D5 xs q):=λq B=>by
    have H:=hu q B;have K:q / 3<xs.length:=ω
    have l:(xs.map (cn.enc .own))[q / 3]? = some (cn.enc .own (nth xs (q / 3))):=by rw[X2,ao K];rfl
    have hid:=Ad (hr _ (am K));have h3:q % 3=0\/q % 3=1\/q % 3=2:=ω
    have J:q / 3*3+q % 3=q:=ω
    unfold D5 pS;rw[H,hid];rcases h3 with e|e|e
    ·have D:=hc (q / 3) 0 _ (I (nth xs (q / 3)).Id) l rfl
     rw[e];rw[e]at J;rw[J]at D;generalize u q=z at D;cases D
     rfl
    ·have D:=hc (q / 3) 1 _ (I (nth xs (q / 3)).o) l rfl
     rw[e];rw[e]at J;rw[J]at D;generalize u q=z at D;cases D
     rfl
    have D:=hc (q / 3) 2 _ (I (nth xs (q / 3)).c8) l rfl;rw[e];rw[e]at J;rw[J]at D;generalize u q=z at D;cases D
    rfl
   have hgs:g<w.heap.size:=(hV 0 g 0 (hF 0 ω).1).1;obtain⟨c,e0,fr,hg,-⟩:=Sort.cells_of_cell? (O 0 ω);have hH:Sort.HoldsK pS 3 w g 0 xs.toArray:=λq B=>by
    have hq':q<xs.length*3:=by simpa using B
    refine⟨?_,?_⟩
    ·rw[E9 _ (by simpa using hq'),R6];exact O q hq'
    rw[R6];exact U0 Prod.fst (hF q (T3 hq' (V6 3 N))).2.2
   have X:=AnyQ.slices_SortFunc Tryz.sortFact 3 Tryz.isAgg84 Tryz.sizeOf84 pS (λ_=>rfl) (λx v hv=>by simp[pS]at hv;rcases hv with rfl|rfl|rfl<;>rfl) Fy QR 99 #[] g 0 M xs.toArray w (enters_of Tryz.func99 (by kernel_rfl) rfl) (λ_ _ _ _ x y=>Kq x y _) hH hgs (by simp;omega);rw[show xs.toArray.size=xs.length from by simp]at X;refine Calls.mono (show Calls Tryz.prog 98 #[.slice (some ⟨g,0,none⟩) xs.length M,pO] w _ from X) λe p ⟨he,L,m,os,hp,hsd,Z⟩=>?_
   obtain⟨q1,q2,q3,q4,q5,q6⟩:=Dm hg (show p=Sort.grow (Sort.putRow id (Sort.ahead w m) g 0 (Sort.flatK pS 3 L)) os from Z);obtain⟨p1,-,p3⟩:=hp;have hsz:L.size=xs.length:=by simpa using p1
   have hzl:L.toList.length=xs.length:=by simpa using hsz
   have E:L.toList.Perm xs:=by
    have H:(L.extract 0 xs.length).toList=L.toList:=by rw[<-hsz];simp
    have D:(xs.toArray.extract 0 xs.length).toList=xs:=by simp
    rwa [H,D]at p3
   have T:∀y∈L.toList,0<=y.Id/\y.Id<=1000000:=λy hy=>hr y (E.mem_iff.1 hy)
   have P:L.toList.Pairwise λx y=>x.Id<=y.Id:=by
    rw[List.pairwise_iff_getElem];intro i j K F hij;have H:=hsd i j (T0 _) hij ω;rw[xx,xx,bc (W1 K),bc (W1 F),QI,Ad (T _ (List.getElem_mem K)),Ad (T _ (List.getElem_mem F))]at H;have:=of_decide_eq_false H;omega
   have hzy:=hys _ E P;generalize hzz:L.toList=zs at hzl E T P hzy;subst hzy;have Q:∀q,cel w g q=c[q]?:=λq=>by show World.cell? w _=_;unfold World.cell?;simp[hg]
   have G:∀q,cel p g q=if q<xs.length*3 then(c[q]?).map (λ_=>D5 zs q) else c[q]?:=λq=>by
    have H:=Lv (Sort.flatK pS 3 L) c q;have D:(Sort.flatK pS 3 L).size=xs.length*3:=by rw[Sort.size_flatK,hsz]
    rw[D]at H;have h3:cel p g q=(Sort.putCells id 0 (Sort.flatK pS 3 L) c)[q]?:=by show World.cell? p _=_;unfold World.cell?;simp[q6]
    rw[h3,H];by_cases B:q<xs.length*3
    ·rw[C9 B,C9 B,E9 _ ω,hzz]
    rw[C8 B,C8 B]
   have d:∀q,q<xs.length*3->cel p g q=some (D5 zs q):=λq B=>by
    have H:=O q B;rw[Q]at H;rw[G,C9 B,H,Y4]
   have Y:∀q,fro p g q=fro w g q:=λq=>by
    refine Prod.ext ?_ ?_
    ·show World.frozen? p _=World.frozen? w _
     unfold World.frozen?;simp[q6,hg]
    show mp p g=mp w g;unfold mp;rw[q6,hg];simp only[Sort.putCells,Array.size_mapIdx]
   have hother:∀b,b<w.heap.size->b≠g->∀o,cel p b o=cel w b o/\fro p b o=fro w b o:=λb hb hne o=>by
    have hb':=q5 b hb hne;refine⟨?_,Prod.ext ?_ ?_⟩
    ·show World.cell? p _=World.cell? w _
     unfold World.cell?;simp only[hb']
    ·show World.frozen? p _=World.frozen? w _
     unfold World.frozen?;simp only[hb']
    show mp p b=mp w b;unfold mp;rw[hb']
   have hcap3:∀q,q<xs.length*3->q<M*3:=λq B=>T3 B (V6 3 N)
   have hkeep:bP (λb o=>∃i,V i b o) w p:=by
    refine⟨q1,q2,q3,q4,λb hb hn=>q5 b hb λe=>?_,λb o hb hn=>?_,λb o hb hn=>?_⟩
    ·subst e;exact hn 0 ⟨0,(hF 0 ω).1⟩
    ·by_cases e:b=g
     ·subst e
      have ho:¬o<xs.length*3:=λh=>hn ⟨0,(hF o (hcap3 o h)).1⟩
      rw[G,C8 ho,Q]
     exact(hother b hb e o).1
    by_cases e:b=g
    ·subst e;exact Y o
    exact(hother b hb e o).2
   refine⟨.tuple #[],he,hkeep,NO,Rf (V 0),NO,λ_ _ h=>h.elim,λi b o h=>?_,λ_ _ h=>h.elim,λi i' hne b o h h'=>?_,λ_ _ _ h=>h.elim,λ_ _ h=>h.elim,λ_ _ _ _ h=>h.elim,⟨#[],rfl,trivial,rfl⟩,cU.nil _ _ _ _,⟨⟨rfl,λ_=>.slice (some ⟨g,0,none⟩) xs.length M,rfl,row1 ?_⟩,trivial,trivial⟩⟩
   ·cases i with
    | zero=>exact .inl ⟨0,h⟩
    | succ i=>exact h.elim
   ·cases i with
    | zero=>
     cases i' with
     | zero=>exact hne rfl
     | succ i'=>exact h'.elim
    | succ i=>exact h.elim
   show eD p _ (V 0) _ _;refine .own _ .own g 3 xs.length M _ (λq=>(cel p g q).getD undef) (λ_=>NO) trivial (by rw[X0,hzl]) (λr hr=>by obtain⟨z,-,rfl⟩:=C4.1 hr;rfl) N hpos (λq B=>?_) (λq B=>?_) (λ_ _ _ _ h=>h.elim) (λ_ _ _ _ _ _ _ h=>h.elim) (λi j r c2 K F=>?_)
   ·obtain⟨a1,⟨z,a2,a3⟩,a4⟩:=hF q B
    refine⟨a1,?_,(Y q).trans a4⟩;by_cases hqx:q<xs.length*3
    ·refine⟨_,d q hqx,?_⟩
     have h3:q % 3=0\/q % 3=1\/q % 3=2:=ω
     unfold D5 pS;rcases h3 with e|e|e<;>rw[e]<;>rfl
    rw[G,C8 hqx,<-Q];exact⟨z,a2,a3⟩
   ·rw[d q B];rfl
   rw[X2]at K;have hil:i<zs.length:=by
    rcases Nat.lt_or_ge i zs.length with h|h
    ·exact h
    rw[C2 h]at K;cases K
   rw[ao hil]at K;simp only[Y4,W0]at K;subst K;have hid:=Ad (T _ (am hil))
   match j,F with
   | 0,F=>
    simp only[cn.enc,List.getElem?_cons_zero,W0]at F;subst F;simp only[d (i*3+0) ω,Option.getD_some,zG (show 0<3 by omega),pS,hid];exact .v _ _ rfl
   | 1,F=>
    simp only[cn.enc,List.getElem?_cons_succ,List.getElem?_cons_zero,W0]at F;subst F;simp only[d (i*3+1) ω,Option.getD_some,zG (show 1<3 by omega),pS];exact .v _ _ rfl
   | 2,F=>
    simp only[cn.enc,List.getElem?_cons_succ,List.getElem?_cons_zero,W0]at F;subst F;simp only[d (i*3+2) ω,Option.getD_some,zG (show 2<3 by omega),pS];exact .v _ _ rfl
   | j+3,F=>simp[cn.enc]at F
  | _=>cases R
set_option maxHeartbeats 2000000
theorem Bj(h:ab)(l:ab.sml h):ar Tryz.prog 32 false [.val (some 24) (ab.enc .X h)] .one (dB .own (jf h)):=by
 have c:=Er h l;rw[Jp]at c;have p:h.O.length<=1048576:=l.2.2.2.2.1.1;cases a:dO h<;>rw[a]at c
 ·rw[show jf h=[] by unfold jf;rw[a];rfl]
  refine fP 53 [(98,[1,0])] [] Tryz.func32 rfl ?_ (.inr (wz _))
  repeat'((conv=>whnf);first|with_reducible (first|refine Lm ?_|refine Wm ω ?_|refine Bn ?_|refine iU.wk rfl ?_)|refine Bt ?_|refine Bu ?_|refine C7 (c) ?_)
  exact⟨rfl,trivial⟩
 have n:=A7 a;have d:=Hs a;have r:=Gx a;refine fP 53 [(98,[1,0])] [] Tryz.func32 rfl ?_ (.inr (wz _))
 repeat'((conv=>whnf);first|with_reducible (first|refine Lm ?_|refine Wm ω ?_|refine Bn ?_|refine iU.wk rfl ?_)|refine Bt ?_|refine Bu ?_|refine C7 (c) ?_)
 (conv=>whnf)
 refine CE (ι:=Nat) (λi=>[(1,.H .box (ab.enc .X h)),(3,.H .one (dB .own ((h.O.take i).map (mw h.G)))),(14,.H .one (lE .X h.O)),(15,.H .one [I (h.O.length)]),(16,.H .one [I ((i:Nat):Int)])]) (λi=>i<=h.O.length) (λi=>h.O.length - i) (0) ?_ (T0 _) λi H=>?_
 ·exact wB
 by_cases e:i<h.O.length
 ·have g:=ao e
  obtain⟨J,K,L,M,N,O,-⟩:=uQ a e;have t:=zW h (nth h.O i).Addr (nth h.O i).o n ω ω;have u:=gh h.G (nth h.O i).Addr (nth h.O i).o.toNat
  repeat'(first|refine gD ?_|(conv=>whnf);first|with_reducible refine CC (aa g) ?_|refine C7 (t) ?_)
  (conv=>whnf)
  refine CE (ι:=Nat) (λq=>[(1,.H .box (ab.enc .X h)),(3,.H .one (dB .own ((h.O.take i).map (mw h.G)))),(14,.H .one (lE .X h.O)),(15,.H .one [I (h.O.length)]),(16,.H .one [I ((i:Nat):Int)]),(5,.H .box (br.enc .X (nth h.O i))),(6,.H .one [I (ro (cellsOf h.G (nth h.O i).Addr (nth h.O i).o.toNat) q)]),(25,.H .one (aG .own (cellsOf h.G (nth h.O i).Addr (nth h.O i).o.toNat))),(26,.H .one [I ((nth h.O i).o.toNat)]),(27,.H .one [I ((q:Nat):Int)])]) (λq=>q<=(nth h.O i).o.toNat) (λq=>(nth h.O i).o.toNat - q) (0) ?_ (T0 _) λq P=>?_
  ·exact wB
  have w:=ME (cellsOf h.G (nth h.O i).Addr (nth h.O i).o.toNat) q;by_cases y:q<(nth h.O i).o.toNat
  ·have j:=B1 h.G (nth h.O i).Addr y
   have B:=yx n ((nth h.O i).Addr+(q:Int));have D:=wF (k:=(q:Int)+1) B ω;have b:(ro (cellsOf h.G (nth h.O i).Addr (nth h.O i).o.toNat) q+((q:Int)+1)*dG h.G ((nth h.O i).Addr+(q:Int))).tmod 9973=ro (cellsOf h.G (nth h.O i).Addr (nth h.O i).o.toNat) (q+1):=by
    rw[eR ω,ro,bc j]
   repeat'(first|refine gD ?_|(conv=>whnf);first|with_reducible refine CC (aa j) ?_|refine CH rfl (aa j) rfl ?_|refine CN (by decide) ?_|refine CS b ?_)
   ((conv=>whnf);refine CD (q+1) ω ω ?_;(exact wB))
  obtain rfl:q=(nth h.O i).o.toNat:=ω
  repeat'(first|refine gD ?_|(conv=>whnf);first|refine Ap.sl (aQ λ_=>rfl) rfl (by simp;omega) (by decide) rfl ?_)
  (conv=>whnf)
  refine CD (i+1) ω ω ?_;rw[jb e]
  (repeat'(first|exact trivial|rfl|exact CK rfl (CK (U0 (C.s dK.own) (by simp[cn.enc,mw])) trivial)|refine CK ?_ ?_))
 obtain rfl:i=h.O.length:=ω
 rw[X4]
 repeat'(first|refine gD ?_|(conv=>whnf);first|refine CJ (wD (h.O.map (mw h.G)) (jf h) (λx g=>by obtain⟨o,E,rfl⟩:=C4.1 g;have:=d o E;exact⟨by show 0<=o.Id;omega,by show o.Id<=1000000;omega⟩) (by rw[X0];omega) (λQ F G=>vI a F G)) (.inl rfl) ?_)
 rfl
def xI(cs:List Int):Nat->Int
 | 0=>0
 | n+1=>xI cs n+(n+1)*nth cs n
theorem BU(cs:List Int):∀n,xI cs n % 9973=ro cs n
 | 0=>rfl
 | n+1=>by
  have a:=BU cs n;show(xI cs n+((n:Int)+1)*nth cs n) % 9973=(ro cs n+((n:Int)+1)*nth cs n) % 9973;generalize ((n:Int)+1)*nth cs n=x;omega
theorem Hl{cs:List Int}(b:cs.length<=1000)(a:∀c∈cs,0<=c/\c<=999):∀n,n<=cs.length->0<=xI cs n/\xI cs n<=1000000*n
 | 0,_=>by simp[xI]
 | n+1,h=>by
  have d:=Hl b a n ω;have e:=wF (k:=(n:Int)+1) (a _ (am (xs:=cs) (i:=n) ω)) ⟨ω,ω⟩;simp only[xI];omega
def Pw(w:bj):List C:=ab.enc .own w.Z++[I w.b3.a,.s .X (w.b3.O.map (bp.enc .X))]
theorem Facts_law(zs:List Int)(K:zs.length<=9223372036854775807/\∀y∈zs,0<=y/\y<=255):ar Tryz.prog 8 false [.val none (QC zs)] .one [B true]:=by
 have t:=P3 zs K.1;by_cases M:(zs.length:Int) > 1048576
 ·rw[O0 M]at t
  refine fP 95 [(2000004,[3,25])] [(16,27,[52,53,54,55,56,57,58,59,60,61,62,63,64,65,66,67,68,69,70,71,72,73,74,75,76,77,78])] Tryz.func8 rfl ?_
  repeat'(first|refine gO ?_|(conv=>whnf);first|refine C7 (t) ?_)
  rfl
 rw[R0 M]at t;have S:jJ zs:=⟨ω,K.2⟩
 have cD:=uX zs S;have e:=DX zs;have a:=Mq zs;obtain⟨T,U⟩:=HR zs;generalize drawn zs=w at *;have b:=e.inv;have u:=Bj w.Z T;have g:=D0 a.rs b;have V:=NS a.rs b;have W:=b.lens.objs;have h:∀y∈w.b3.O,y.S.length<=1000/\∀c∈y.S,0<=c/\c<=999:=λy l=>by
  refine⟨e.ref.cel y l,λc N=>?_⟩;obtain⟨o,ho,rfl⟩:=(a.rs.mem y).1 l;unfold f8 cellsOf at N;obtain⟨j,-,rfl⟩:=C4.1 N;exact yx b.ker _
 rw[g]at u;have C:(w.b3.O.map m9).length=w.b3.O.length:=X0 ..;obtain⟨L,D⟩ : ∃L,w.b3.O.map m9=L:=⟨_,rfl⟩
 have n:∀i,i<w.b3.O.length->L[i]? = some (m9 (nth w.b3.O i)):=λi b=>by rw[<-D,X2,ao b];rfl
 rw[D]at u C;have X:=xA L ω;have Y:=AK L (L++[⟨0,0,0⟩]) ω (by simp;omega) (by simp);have d:=xe L;have p:=xe (L++[⟨0,0,0⟩]);clear D g;refine fP 95 [(2000004,[3,25])] [(16,27,[52,53,54,55,56,57,58,59,60,61,62,63,64,65,66,67,68,69,70,71,72,73,74,75,76,77,78])] Tryz.func8 rfl ?_
 repeat'(first|refine gA ?_|(conv=>whnf);first|refine C7 (t) ?_|refine C7 (cD) ?_|refine CG (u) ⟨⟨rfl,ab.enc_fz _⟩,trivial⟩ ?_|refine EF.mk rfl (Hg w.b3.O) rfl ?_)
 (conv=>whnf)
 refine CE (ι:=Nat) (λi=>[(3,.H .box (Pw w)),(4,.H .one (dB .own L)),(5,.H .one [I ((i:Nat):Int)])]) (λi=>i<=w.b3.O.length) (λi=>w.b3.O.length - i) (0) ?_ (T0 _) λi b=>?_
 ·exact wC
 by_cases E:i<w.b3.O.length
 ·have O:=ao E
  have Z:=n i E;obtain⟨F,q⟩:=h _ (am E);generalize nth w.b3.O i=o at *
  repeat'(first|refine gD ?_|(conv=>whnf);first|with_reducible refine CC (aa O) ?_|refine CH rfl (aa O) rfl ?_)
  (conv=>whnf)
  refine CE (ι:=Nat) (λk=>[(3,.H .box (Pw w)),(4,.H .one (dB .own L)),(5,.H .one [I ((i:Nat):Int)]),(6,.H .one [I (xI o.S k)]),(7,.H .box [I o.Id,.s .X (o.S.map (rI .X))]),(8,.H .one [I ((k:Nat):Int)])]) (λk=>k<=o.S.length) (λk=>o.S.length - k) (0) ?_ (T0 _) λk hk=>?_
  ·exact wC
  have G:=Hl F q k hk;by_cases P:k<o.S.length
  ·have l:=ao P
   have H:=q _ (am P);have h1:=wF (k:=(k:Int)+1) H ⟨ω,ω⟩;have Q:xI o.S (k+1)=xI o.S k+((k:Int)+1)*nth o.S k:=rfl;generalize nth o.S k=c at *;have w1:IntKind.i64.wrap (((k:Int)+1)*c)=((k:Int)+1)*c:=eE ω ω;obtain⟨y,J⟩ : ∃y,((k:Int)+1)*c=y:=⟨_,rfl⟩
   rw[J]at w1 h1 Q
   repeat'(first|refine gD ?_|(conv=>whnf);first|with_reducible refine CC (aa l) ?_|refine CL w1 ?_|refine CH rfl (aa l) rfl ?_)
   ((conv=>whnf);refine CD (k+1) ω ω ?_)
   rw[Q];exact wC
  obtain rfl:k=o.S.length:=ω
  have hm:=BU o.S o.S.length;have R:=eR (y:=9973) G.1;rw[hm]at R;have r:L[i]? = some ⟨o.Id,(o.S.length:Nat),ro o.S o.S.length⟩:=Z
  repeat'(first|refine gD ?_|(conv=>whnf);first|with_reducible refine CC (aa r) ?_|refine Bf.f (by simp) ?_|refine CH rfl (aa r) rfl ?_|refine CN ω ?_|refine CS R ?_)
  ((conv=>whnf);refine CD (i+1) ω ω ?_;(exact wC))
 obtain rfl:i=w.b3.O.length:=ω
 repeat'(first|refine gD ?_|(conv=>whnf);first|refine CG (X) ⟨⟨rfl,d⟩,⟨rfl,d⟩,trivial⟩ ?_|refine CG (Y) ⟨⟨rfl,d⟩,⟨rfl,p⟩,trivial⟩ ?_|refine CU (λ_=>rfl) (λ_=>rfl) ω (by decide) ?_|refine CR (λ_=>rfl) (λ_=>rfl) ω (by decide) ?_|refine Ap.sn (aQ λ_=>rfl) rfl (by simp;omega) (by decide) (show(L++[(⟨0,0,0⟩ : cn)]).map (cn.enc .own)=L.map (cn.enc .own)++[[I 0,I 0,I 0]] by simp[cn.enc]) ?_|refine CB ?_|refine Ch.pl ?_)
 rfl
open Go.RowKit Go.ChangeShapes Go.WideShapes Go.Deep
def ALL(w:World):af:=λb _=>b<w.heap.size
def QF{H:Type}(e:TypeId × Value->H)(P:Program)(w:World)(t n:Nat){α:Type}(enc:α->List C)(c:α->Prop):Prop:=
 ∀(fuel:Nat)(b:List Value)(x:DataW H × List MemPlace),DataW.trod e P w 0 (λ_=>true) true fuel t b=some x->b.length=n/\∃a,c a/\(enc a).length=n/\cU w (ALL w) NO (enc a) (λj=>b.getD j undef)
section
variable{H:Type}{e:TypeId × Value->H}{P:Program}{w:World}
theorem Ao{S F:af}{c:C}{u:Nat->Value}(h:eD w S F c (u 0)):cU w S F [c] u:=
 ⟨λ_=>F,λj e a=>by cases j with
   | zero=>simp at a;subst a;exact h
   | succ j=>simp at a,λ_ _ _ _ h=>h,λj f a b d=>by simp at a b;omega⟩
theorem pick{α β:Type}(n:Nat){Q:Nat->β->Prop}(h:∀i,i<n->∃b,Q i b):∃l:List β,l.length=n/\∀i b,l[i]? = some b->Q i b:=by
 induction n with
 | zero=>exact⟨[],rfl,λi b h=>by simp at h⟩
 | succ n c=>
  obtain⟨l,d,e⟩:=c λi a=>h i ω
  obtain⟨b,f⟩:=h n ω;refine⟨l++[b],by simp[d],λi g a=>?_⟩;by_cases j:i<n
  ·rw[O4 ω]at a;exact e i g a
  rw[R4 ω]at a;have:i - l.length=0:=by
   have:=(Z1.1 a).1;simp at this;omega
  rw[this]at a;simp at a;subst a;rw[show i=n by omega];exact f
theorem JZ{t T n:Nat}{α:Type}{enc:α->List C}{U:α->Prop}(V:QF e P w T n enc U)(ht:P.underlying t=some (.slice T))(hn:P.cellsOf T=n)(p:0<n) :
  QF e P w t 1 (λxs:List α=>[.s .X (xs.map enc)]) (λxs=>xs.length<=9223372036854775807/\∀y∈xs,U y):=by
 intro fuel cs x h;rcases open_slice ht h with⟨rfl,-⟩|⟨k,len,cap,m,n',D,Pl,rfl,-,hl,hm,K,-,u⟩
 ·exact⟨rfl,[],⟨by simp,by simp⟩,rfl,Ao (.nil _ _ _ trivial)⟩
 simp only[if_true]at K;subst K;have L:0<m->k.spot=none:=λW=>by
  obtain⟨E,M,N⟩:=u 0 W;rw[hn]at M;obtain⟨_,X,F⟩:=World.cells?_some M;have:=F 0 p;rw[W1 ω]at this;have:=World.cell?_spot this;simpa[Addr.add] using this
 have key:∀i,i<len->∃a,U a/\(enc a).length=n/\(∀d,d<n->∃z,cel w k.block (k.off+(i*n+d))=some z)/\k.spot=none/\cU w (ALL w) NO (enc a) (λd=>(cel w k.block (k.off+(i*n+d))).getD undef):=λi hil=>by
  have g:=L ω;obtain⟨E,M,N⟩:=u i ω;rw[hn]at M;obtain⟨h1,a,h3,h4,h5⟩:=V _ _ _ N;obtain⟨_,X,F⟩:=World.cells?_some M;have O:∀d,k.add d = ⟨k.block,k.off+d,none⟩:=λd=>by
   obtain⟨b,o,sp⟩:=k;simp only at g;subst g;unfold Addr.add;split<;>simp_all
  have A:∀d,d<n->cel w k.block (k.off+(i*n+d))=E[d]?:=λd J=>by
   have:=F d J;rw[Go.Deep.add_add,O]at this;exact this
  refine⟨a,h3,h4,λd J=>⟨_,by rw[A d J,W1 ω]⟩,g,h5.congr λd J=>?_⟩;show(cel w k.block (k.off+(i*n+d))).getD undef=E.getD d undef;rw[A d ω,List.getD]
 obtain⟨l,Q,B⟩:=pick (α:=α) len key;refine⟨rfl,l,⟨by simp only[maxLen]at hm;omega,λy R=>?_⟩,rfl,Ao ?_⟩
 ·obtain⟨i,G⟩:=List.mem_iff_getElem?.1 R
  exact(B i y G).1
 show eD w (ALL w) NO (.s .X (l.map enc)) (.slice (some k) len m);by_cases h0:len=0
 ·subst h0
  have:l=[]:=W6 Q;subst this;by_cases Y:m=0
  ·subst Y;exact .nil _ _ _ trivial
  have g:=L ω;obtain⟨b,o,sp⟩:=k;simp only at g;subst g;exact .X _ b o n 0 m [] (λ_=>undef) rfl (λr Z=>by simp at Z) hl (λq hq=>by simp at hq) (λi j r c u=>by simp at u)
 obtain⟨y0,hy0⟩ : ∃y,l[0]? = some y:=⟨_,W1 ω⟩
 have g:=(B 0 y0 hy0).2.2.2.1;obtain⟨b,o,sp⟩:=k;simp only at g;subst g;refine .X _ b o n len m (l.map enc) (λq=>(cel w b (o+q)).getD undef) (by simpa using Q) (λr Z=>?_) hl (λq hq=>?_) (λi j r c u hj=>?_)
 ·obtain⟨y,R,rfl⟩:=C4.1 Z
  obtain⟨i,G⟩:=List.mem_iff_getElem?.1 R;exact(B i y G).2.1
 ·have hqd:q / n<len:=(Nat.div_lt_iff_lt_mul p).2 hq
  obtain⟨y,R⟩ : ∃y,l[q / n]? = some y:=⟨_,W1 ω⟩
  obtain⟨z,S⟩:=(B _ y R).2.2.1 (q % n) (Nat.mod_lt _ p);have J:q / n*n+q % n=q:=by rw[Nat.mul_comm];exact Nat.div_add_mod q n
  rw[J]at S;exact⟨P4 S,by simp only at S |-;rw[S];rfl⟩
 rw[X2]at u;cases H:l[i]? with
 | none=>rw[H]at u;cases u
 | some y=>
  rw[H]at u;simp only[Y4,W0]at u;subst u;obtain⟨f,h1,h2,-⟩:=(B i y H).2.2.2.2;have hjl:=(Z1.1 hj).1;exact(h1 j c hj).mono (λ_ _ h=>h) (h2 j hjl)
theorem row_val{S F:af}{x:Value}{u:Nat->Value}(h:cU w S F [.v x] u):u 0=x:=by
 obtain⟨f,a,-⟩:=h;have:=a 0 _ rfl;cases this
 rfl
end
open Go.RowKit Go.ChangeShapes Go.WideShapes
section
variable{H:Type}{e:TypeId × Value->H}{P:Program}{w:World}
theorem Nw{t:Nat}(b:P.underlying t=some (.int .u8)):QF e P w t 1 rU (λz=>0<=z/\z<=255):=by
 intro fuel c x h;obtain⟨n,rfl,-,a⟩:=DataW.trod_int b h;refine⟨rfl,n,?_,rfl,Ao (.v _ _ rfl)⟩;simp only[Lit.wf,I0,C0]at a;exact a
theorem op_ByteS:QF e Tryz.prog w 22 1 (λzs:List Int=>[.s .X (zs.map rU)]) (λzs=>zs.length<=9223372036854775807/\∀y∈zs,0<=y/\y<=255):=JZ (Nw Tryz.underlying5) Tryz.underlying22 (by kernel_rfl) (by decide)
end
end Go.Proofs.YtecefhjnejfheaaGreat.Ab
