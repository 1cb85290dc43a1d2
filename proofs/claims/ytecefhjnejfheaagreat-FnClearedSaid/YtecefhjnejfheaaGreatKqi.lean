/- Kernels: what calls make of cells. Freeing keeps what cells hold. No condition. -/
import Derived.Test.YtecefhjnejfheaaGreatKqd
import Derived.Test.YtecefhjnejfheaaGreatKqh
import Derived.Test.YtecefhjnejfheaaGreatKqg
import Derived.ProofKit
import Derived.OpenShut
import Derived.Deep.Slices
import Derived.Deep.Fields
import Derived.ChangeSame
import Derived.WideShapes
set_option linter.unusedVariables false
set_option linter.unusedSimpArgs false
set_option linter.constructorNameAsVariable false
namespace Go.Proofs.YtecefhjnejfheaaGreat.Ab
theorem zh(n c:Nat):nth (List.replicate n (0:Int)) c=0:=by
 unfold nth;rw[O2,List.getElem?_replicate];split<;>rfl
structure KL(k k':ah)(lo n:Int):Prop where
 out:∀q:Int,¬(lo<=q/\q<lo+n)->ac k'.F.R q=ac k.F.R q
 ins:∀q:Int,lo<=q->q<lo+n->(ac k'.F.R q).e=0
 cel:∀f c:Nat,cl k' f c=cl k f c\/(cl k' f c=0/\∀p:Int,(ac k'.F.R p).e≠0->(ac k'.F.R p).j≠f)
theorem H3(k:ah)(F:Int)(f c:Nat):cl (gP k F) f c=cl k f c\/(cl (gP k F) f c=0/\F.toNat=f/\(pagesOn k.F.R F).length=0):=by
 unfold gP;split
 ·rename_i e
  unfold cl;simp only[bB];split
  ·rename_i a;exact .inr ⟨zh _ _,a.1,e⟩
  exact .inl rfl
 exact .inl rfl
theorem lH{t:aI}{p:Int}(h:(ac t p).e≠0):0<=p/\p<t.J.length/\ac t p=nth t.J p.toNat:=by
 unfold ac at h |-;split
 ·rename_i e;exact⟨e.1,e.2,rfl⟩
 rename_i e;rw[C8 e]at h;exact absurd rfl h
theorem Mv{t:aI}{F:Int}(h:(pagesOn t F).length=0){p:Int}(a:(ac t p).e≠0):(ac t p).j≠F:=λe=>by
 obtain⟨c,d,b⟩:=lH a;rw[b]at a e;have:0<(pagesOn t F).length:=dS.2 ⟨p.toNat,ω,a,e⟩;omega
theorem KL.refl(k:ah)(lo:Int):KL k k lo 0:=⟨λ_ _=>rfl,λq a b=>ω,λ_ _=>.inl rfl⟩
theorem KL.unmap{k:ah}(h:a8 k=true){p:Int}(j:0<=p/\p<k.F.R.J.length):KL k (dR k p) p 1:=by
 have b:=qN h j;have d:=(lz k p).1;have i:∀q:Int,ac (dR k p).F.R q=if q=p then⟨0,0⟩ else ac k.F.R q:=λq=>by
  unfold ac;rw[d];by_cases e:0<=q/\q<k.F.R.J.length
  ·rw[C9 e,C9 e,b q.toNat]
   by_cases a:q=p
   ·rw[C9 a,C9 ω]
   rw[C8 a,C8 ω]
  rw[C8 e,C8 e];by_cases a:q=p
  ·rw[C9 a]
  rw[C8 a]
 refine⟨λq g=>by rw[i,C8 ω],λq t u=>by rw[i,C9 ω],λf c=>?_⟩;unfold dR;split
 ·exact .inl rfl
 rename_i l;rcases H3 (pT k p) (ac k.F.R p).j f c with e|⟨n,a,o⟩
 ·exact .inl e
 refine .inr ⟨n,λq g=>?_⟩;rw[(mA _ _).1]at g |-;have:=Mv o g;have r:=jV h l;unfold bF at r;rw[<-a];omega
theorem KL.trans{k i j:ah}{lo n m:Int}(t:0<=n/\0<=m)(a:KL k i lo n)(b:KL i j (lo+n) m):KL k j lo (n+m):=by
 refine⟨λq u=>(b.out q ω).trans (a.out q ω),λq l w=>?_,λf c=>?_⟩
 ·by_cases e:lo+n<=q
  ·exact b.ins q e ω
  rw[b.out q ω];exact a.ins q l ω
 rcases b.cel f c with e|e
 ·rcases a.cel f c with g|⟨o,r⟩
  ·exact .inl (e.trans g)
  refine .inr ⟨e.trans o,λp d=>?_⟩;by_cases h:lo+n<=p/\p<lo+n+m
  ·exact absurd (b.ins p h.1 h.2) d
  rw[b.out p h]at d |-;exact r p d
 exact .inr e
theorem KL.unmN{k:ah}(a:a8 k=true){p:Int}(b:0<=p):∀n:Nat,p+n<=k.F.R.J.length->KL k (unmN k p n) p n
 | 0,_=>KL.refl k p
 | n+1,h=>by
  have c:=KL.unmN a b n ω;have d:=KL.unmap (iB a p n) (p:=p+n) ⟨ω,by rw[(fx k p n).1];omega⟩;have:=KL.trans ⟨ω,ω⟩ c d;rw[show((n:Nat):Int)+1=((n+1:Nat):Int) by omega]at this;exact this
theorem KL.md{k b:ah}{lo n:Int}(a:KL k b lo n)(f:b.F.R.J.length=k.F.R.J.length)(q:Nat)(h:(nth b.F.R.J q).e≠0):nth b.F.R.J q=nth k.F.R.J q:=by
 have g:=rm h;have c:ac b.F.R (q:Nat)=nth b.F.R.J q:=by unfold ac;rw[C9 ⟨ω,ω⟩];rfl
 have d:ac k.F.R (q:Nat)=nth k.F.R.J q:=by unfold ac;rw[C9 ⟨ω,ω⟩];rfl
 by_cases e:lo<=q/\(q:Int)<lo+n
 ·rw[<-c,a.ins q e.1 e.2]at h;exact absurd rfl h
 rw[<-c,<-d,a.out q e]
theorem AN{n:Int}(h:0<=aJ n):n<=csz (aJ n):=by
 have a:=ik h;have:n=1\/n=2\/n=3\/n=4\/n=5\/n=6\/n=7\/n=8:=ω
 rcases this with e|e|e|e|e|e|e|e<;>rw[e]<;>decide
theorem Lg{h:ab}{E:List Int}(k:aZ h E){o:bz}(p:o∈h.O)(g:¬aJ o.o<0){f c:Nat}(i:qe h o f c):f=cN h.G o.Addr/\(o.Addr % 16).toNat<=c/\c<(o.Addr % 16).toNat+(csz (aJ o.o)).toNat:=by
 obtain⟨⟨s,q,r,t⟩,-⟩:=(dK k p).2 g;obtain⟨A,B,l,-⟩:=r;have a:=AN (n:=o.o) ω;have b:=bE (aB (k.L.sok s q)).2.2;rw[<-t]at a |-;obtain⟨j,C,D,d⟩:=i;have u:=d.c;have w:=d.f;have y:(o.Addr+j) / 16=o.Addr / 16:=by rcases b with e|e|e|e<;>rw[e]at l a<;>omega
 rw[y]at w;refine⟨by unfold cN;omega,?_⟩;rcases b with e|e|e|e<;>rw[e]at l a |-<;>omega
theorem CI.clrS{h:ab}{E:List Int}(n:aZ h E)(p:CI h){i:Nat}{a:Int}(g:i<h.K.length)(l:ew (nth h.K i) a):CI (clrS h i a):=by
 have b:=n.L.sok _ (am g);refine p.keep rfl rfl (λq h=>h) (λ_=>⟨rfl,rfl⟩) (λf c _ _=>.inl rfl) (λo r f c _ d _=>⟨o,r,d⟩) (λ_ c _=>⟨rfl,rfl⟩) λ_ w e _=>?_
 rcases dN e with rfl|⟨j,t,-,rfl⟩
 ·refine⟨_,am g,rfl,rfl,λk u=>((Ey (eI b) (pu b ⟨l.1,l.2.1⟩) k).1 u).1⟩
 exact⟨_,am t,rfl,rfl,λ_ h=>h⟩
theorem Li{h:ab}{E:List Int}(a:aZ h E){o:bz}(p:o∈h.O){j:Int}(h1:0<=j)(J:j<o.o){s:ax}(r:s∈h.K)(T:(o.Addr+j) / 16=s.Q):ew s o.Addr:=by
 obtain⟨U,V,W⟩:=a.mapped r;have t:=(cI a p (k:=j) ⟨h1,ω⟩).1;have w:=At.mk' a.ker t;rcases iP a p ⟨j,h1,J,w⟩ with⟨u,K,G,-,-,-⟩|⟨l,b,X,-⟩
 ·rcases a.oow o p with⟨v,q,c,M⟩|⟨l,b,N,O⟩
  ·have y:=a.L.sok v q
   have A:=aB y;have B:=bE A.2.2;have C:=c;obtain⟨Y,Z,P,-⟩:=c;have D:o.o<=csz v.a:=by
    have hb:=ik (n:=o.o) ω;rw[M];have:o.o=1\/o.o=2\/o.o=3\/o.o=4\/o.o=5\/o.o=6\/o.o=7\/o.o=8:=ω
    rcases this with e|e|e|e|e|e|e|e<;>rw[e]<;>decide
   have Q:(o.Addr+j) / 16=v.Q:=by rcases B with e|e|e|e<;>rw[e]at P D<;>omega
   obtain⟨i,R,rfl⟩:=aK r;obtain⟨k,S,rfl⟩:=aK q;have:=cG (f:=(·.Q)) a.L.nd R S (by show(nth h.K i).Q=(nth h.K k).Q;omega);subst this;exact C
  exfalso;have:=aM (a.L.lok l b);exact a.L.dis u K l b 0 ω (by have:=G.1;have:=G.2.1;omega)
 exfalso;have H:=a.L.lok l b;unfold bC at H;rw[C0]at H;rcases a.oow o p with⟨v,q,c,-⟩|⟨F,d,N,O⟩
 ·exact a.L.dis v q l b 0 ω (by have:=c.1;have:=c.2.1;omega)
 have g:=a.L.lok F d;unfold bC at g;rw[C0]at g;exact a.L.dis s r F d ((o.Addr+j) / 16 - F.Q).toNat ω ω
theorem CI.giveP{h:ab}{E:List Int}(b:aZ h E)(f:CI h){i:Nat}(e:i<h.K.length)(g:(nth h.K i).b1=0)(c:fT h (nth h.K i).Q=false):CI (giveP h i)/\Kp h (giveP h i):=by
 obtain⟨k,l,A⟩:=b.mapped (am e);have kl:=KL.unmap b.ker (p:=(nth h.K i).Q) ⟨k,l⟩;refine CI.kern b f (λo a=>a) rfl rfl (λo a n=>absurd a n) (λq r=>?_) (λt=>?_) (λo a j u w=>?_) kl.cel (λ_ B d _=>?_)
 ·have:=kl.md (lz _ _).1 q (by show(nth (tbl (Ab.giveP h i)).J q).e≠0;omega)
  show(nth h.G.F.R.J q).e=1;rw[<-this];exact r
 ·obtain⟨C,D⟩:=xH c t
  exact⟨kl.out _ ω,kl.out _ ω⟩
 ·refine kl.out _ λF=>?_
  exact vt g _ (Li b a u w (am e) ω)
 obtain⟨j,y,-,rfl⟩:=cT.1 d;exact⟨_,am y,rfl,rfl,λ_ h=>h⟩
theorem CI.freeS{h:ab}{E:List Int}{a:Int}{i:Nat}(c:aZ h (a::E))(j:CI h)(b:i<h.K.length)(d:ew (nth h.K i) a):CI (freeS h i a)/\Kp h (freeS h i a):=by
 have k:=c.give b d;have f:=CI.clrS c j b d;unfold Ab.freeS;split
 ·rename_i e
  have g:nth (Ab.clrS h i a).K i=mE (nth h.K i) (d3 (nth h.K i) a):=by unfold Ab.clrS;simp only[bB,true_and];rw[C9 b]
  obtain⟨l,n⟩:=CI.giveP (h:=Ab.clrS h i a) k f (i:=i) (by unfold Ab.clrS;simp only[O1];exact b) (by rw[g];exact e.1) (by rw[g];exact e.2);exact⟨l,n⟩
 exact⟨f,CY h⟩
theorem CI.freeA{h:ab}{E:List Int}{a:Int}(b:aZ h (a::E))(c:CI h):CI (freeA h a)/\Kp h (freeA h a):=by
 obtain⟨d,e,-⟩:=b.at (b.hin a (U1 ..));exact CI.freeS b c d e
theorem CI.recyc{h:ab}{E:List Int}{a:Int}{t:Nat}(c:aZ h (a::E))(b:CI h):CI (recyc t h a)/\Kp h (recyc t h a):=by
 unfold Ab.recyc;split
 ·exact⟨⟨b.z,b.jv,b.jd,b.jc,b.jn,b.m1,b.m2⟩,CY h⟩
 exact CI.freeA c b
theorem CI.recycs{t:Nat}{E:List Int} : ∀{az:List Int}{h:ab},aZ h (az++E)->t<h.S.length->CI h->CI (recycs t h az)/\Kp h (recycs t h az)
 | [],h,_,_,b=>⟨b,CY h⟩
 | a::az,h,c,d,b=>by
  obtain⟨e,f⟩:=CI.recyc (t:=t) c b;obtain⟨g,i⟩:=CI.recycs (az:=az) (h:=Ab.recyc t h a) (c.recyc d) (by rw[(nI t h a).1];exact d) e;exact⟨g,f.trans i⟩
theorem CI.freeAs{E:List Int} : ∀{az:List Int}{h:ab},aZ h (az++E)->CI h->CI (freeAs h az)/\Kp h (freeAs h az)
 | [],h,_,b=>⟨b,CY h⟩
 | a::az,h,c,b=>by
  obtain⟨d,e⟩:=CI.freeA c b;obtain⟨f,g⟩:=CI.freeAs (az:=az) (h:=Ab.freeA h a) c.freeA d;exact⟨f,e.trans g⟩
theorem CI.flushN{t:Nat}{h:ab}(c:aZ h [])(d:t<h.S.length)(e:CI h):∀{k:Nat},k<=4->CI (flushN t h k).1/\Kp h (flushN t h k).1
 | 0,_=>⟨e,CY h⟩
 | k+1,p=>by
  obtain⟨a,g⟩:=CI.flushN c d e (k:=k) ω;obtain⟨f,q,-⟩:=je c d (k:=k) ω;have b:t<(Ab.flushN t h k).1.S.length:=ω
  have i:=pn (f.cach _ (am b));have j:=f.spilt b (k:=k) ω;have l:CI (spilt (Ab.flushN t h k).1 t k):=⟨a.z,a.jv,a.jd,a.jc,a.jn,a.m1,a.m2⟩
  obtain⟨n,o⟩:=CI.freeAs j l;exact⟨n,g.trans o⟩
theorem CI.tick{h:ab}{n:Int}(c:aZ h [])(a:CI h)(d:0<=n)(b:h.b3+n<=1000000):CI (tick h n)/\Kp h (tick h n):=by
 have e:=c.aged d b;have f:CI (aged h n):=⟨a.z,a.jv,a.jd,a.jc,a.jn,a.m1,a.m2⟩
 exact CI.freeAs e f
theorem CI.collect{h:ab}{t:Nat}(b:aZ h [])(a:CI h)(c:t<h.S.length):CI (collect h t)/\Kp h (collect h t):=by
 have g:=(dH.1 b.mail).1;have d:=b.nc;have e:=b.coll (t:=t) ω;have f:CI {h with q:=kR h.q t}:=⟨a.z,a.jv,a.jd,a.jc,a.jn,a.m1,a.m2⟩
 exact CI.recycs e c f
theorem tU(r:List Int)(o:Nat):∀(n c:Nat),nth (lf r o n) c=if o<=c/\c<o+n then 0 else nth r c
 | 0,c=>by rw[C8 ω];rfl
 | n+1,c=>by
  unfold lf;rw[bB,tU r o n c,mr];by_cases e:o+n=c
  ·rw[C9 (show o<=c/\c<o+(n+1) by omega)]
   by_cases a:c<r.length
   ·rw[C9 ⟨e,a⟩]
   rw[C8 ω,C8 ω];unfold nth;rw[O2,I2 ω];rfl
  rw[C8 ω];by_cases a:o<=c/\c<o+n
  ·rw[C9 a,C9 ω]
  rw[C8 a,C8 ω]
theorem vO(k:ah)(a:Int)(n f c:Nat):cl (eP k a n) f c=cl k f c\/(cl (eP k a n) f c=0/\f=cN k a/\(a % 16).toNat<=c/\c<(a % 16).toNat+n):=by
 unfold cl eP;simp only[bB];split
 ·rename_i e
  rw[tU];split
  ·rename_i b;exact .inr ⟨rfl,e.1.symm,b.1,b.2⟩
  rw[e.1];exact .inl rfl
 exact .inl rfl
theorem DR{k:ah}{a:Int}{n c:Nat}(h1:(a % 16).toNat<=c)(b:c<(a % 16).toNat+n):cl (eP k a n) (cN k a) c=0:=by
 unfold cl eP;simp only[bB];by_cases e:cN k a<k.F.W.T.length
 ·rw[C9 ⟨trivial,e⟩,tU,C9 ⟨h1,b⟩]
 rw[C8 (λx=>e x.2)];have:nth k.F.W.T (cN k a)=[]:=by
  unfold nth;rw[O2,I2 ω];rfl
 rw[this];rfl
theorem CI.clearO{h h':ab}{E:List Int}(b:aZ h E)(u:JI h)(O:CI h){i:Nat}(P:i<h.O.length)(w:¬aJ (nth h.O i).o<0)(hw:(ac (tbl h) ((nth h.O i).Addr / 16)).e≠1)(y:h'.G=eP h.G (nth h.O i).Addr (csz (aJ (nth h.O i).o)).toNat)(e2:h'.O=dele h.O i)(e3:h'.K=h.K)(e4:h'.Z=h.Z)(e5:h'.u=h.u):CI h'/\Kp h h':=by
 obtain⟨⟨s,H,s1,s2⟩,hc3⟩:=(dK b (am P)).2 w;have Q:=s1;obtain⟨g1,g2,g3,-⟩:=s1;have A:=b.L.sok s H;have B:=bE (aB A).2.2;obtain⟨m1,m2,m3⟩:=b.mapped H;have R:(nth h.O i).Addr / 16=s.Q:=ω
 have J:tbl h'=tbl h:=by unfold tbl;rw[y];rfl
 have S:(ac (tbl h) s.Q).j=(cN h.G (nth h.O i).Addr:Nat):=by
  unfold cN;rw[R];exact jV b.ker (by show(ac (tbl h) s.Q).e≠0;rw[b.pe H];exact m3)
 have ex:∀c:Nat,((nth h.O i).Addr % 16).toNat<=c->c<((nth h.O i).Addr % 16).toNat+(csz (aJ (nth h.O i).o)).toNat->La h (nth h.O i).Addr (cN h.G (nth h.O i).Addr) c/\c<16:=λc h1 T=>by
  rw[<-s2]at T;have r:c<16:=by rcases B with e|e|e|e<;>rw[e]at g3 T<;>omega
  refine⟨.inl ⟨s,H,Q,S,?_,r⟩,r⟩;unfold d3;rcases B with e|e|e|e<;>rw[e]at g3 T |-<;>omega
 have cv:∀o∈h.O,∀f c:Nat,qe h o f c->qe h' o f c:=λo d f c ⟨j,K,U,a⟩=>by
  have e:h'.G.F.R=h.G.F.R:=J;exact⟨j,K,U,by rw[e];exact a.m,by rw[e];exact a.f,a.c⟩
 have same:∀o∈h.O,o≠nth h.O i->∀f c:Nat,qe h o f c->cl h'.G f c=cl h.G f c:=λo d V f c l=>by
  rw[y];rcases vO h.G (nth h.O i).Addr (csz (aJ (nth h.O i).o)).toNat f c with g|⟨-,W,X,Y⟩
  ·exact g
  exfalso;have hx:=(ex c X Y).1;rw[<-W]at hx;have ea:=v6 b (iP b d l) hx;obtain⟨k,n,rfl⟩:=aK d;have:=cG (f:=(·.Addr)) (dd b.osr) n P ea;subst this;exact V rfl
 have notO:∀o∈h'.O,o≠nth h.O i/\o∈h.O:=λo d=>by
  rw[e2]at d;obtain⟨k,n,Z,rfl⟩:=cT.1 d;refine⟨λe=>Z ?_,am n⟩;exact cG (f:=(·.Addr)) (dd b.osr) n P (by rw[e])
 refine⟨O.keep e4 e5 (by rw[J];exact λq h=>h) (λ_=>by rw[J];exact⟨rfl,rfl⟩) (λf c _ M=>.inl ?_) (λo d f c r l M=>?_) (λN c C=>?_) (λ_ s' hs' _=>⟨s',by rw[<-e3];exact hs',rfl,rfl,λ_ h=>h⟩),λo d=>⟨(notO o d).2,λj K U=>?_⟩⟩
 ·rw[y]at M |-
  rcases vO h.G (nth h.O i).Addr (csz (aJ (nth h.O i).o)).toNat f c with g|g
  ·exact g.symm
  exact absurd g.1 M
 ·by_cases e:o=nth h.O i
  ·exfalso
   subst e;obtain⟨t,D,F⟩:=Lg b d w l;exact M (by rw[y,t];exact DR D F)
  refine⟨o,?_,cv o d f c l⟩;rw[e2];obtain⟨k,n,rfl⟩:=aK d;exact cT.2 ⟨k,n,λx=>e (by rw[x]),rfl⟩
 ·have hc16:c<16:=by
   have hm2:=List.mem_of_mem_take C;obtain⟨k,n,e⟩:=aK hm2;have:=fW (dw.1 (b.job N).1).1 n;omega
  have key:∀p:Int,(ac (tbl h) p).e≠0->(∀c:Nat,La h (nth h.O i).Addr (cN h.G (nth h.O i).Addr) c->c<16->(c:Int)∈h.Z.X.T.take h.Z.d.toNat->(ac (tbl h) p).j≠(cN h.G (nth h.O i).Addr:Nat))->cl h'.G (bF h.G p) c=cl h.G (bF h.G p) c:=λp hp Z=>by
   rw[y];rcases vO h.G (nth h.O i).Addr (csz (aJ (nth h.O i).o)).toNat (bF h.G p) c with g|⟨-,W,X,Y⟩
   ·exact g
   exfalso;obtain⟨t,D⟩:=ex c X Y;refine Z c t D C ?_;rw[<-W];exact jV b.ker hp
  obtain⟨jm1,jm2⟩:=b.jobM N;exact⟨key _ jm1 λc t D F=>rC b u O N t D (List.mem_of_mem_take F),key _ jm2 λc t _ F=>Dl b u O N t hw F⟩
 obtain⟨o1,o2⟩:=notO o d;have a:=At.mk' b.ker (cI b o2 (k:=j) ⟨K,ω⟩).1;have G:At h'.G (o.Addr+j) (cN h.G (o.Addr+j)) ((o.Addr+j) % 16).toNat:=by
  have e:h'.G.F.R=h.G.F.R:=J;exact⟨by rw[e];exact a.m,by rw[e];exact a.f,a.c⟩
 rw[G.cell,a.cell];exact same o o2 o1 _ _ ⟨j,K,U,a⟩
theorem oU{k:ah}(h:a8 k=true){f:Nat}(d:∀p:Int,(ac k.F.R p).e≠0->(ac k.F.R p).j≠f)(c:Nat):cl k f c=0:=by
 obtain⟨-,i,-,j,-⟩:=aE.1 h;obtain⟨-,-,w,n⟩:=aX.1 i;unfold cl;by_cases o:f<k.F.W.T.length
 ·have r:nth k.F.W.a5 f=false:=by
   rw[j f ω,I4];intro a;obtain⟨q,y,t,u⟩:=dS.1 a;have e:ac k.F.R (q:Nat)=nth k.F.R.J q:=by unfold ac;rw[C9 ⟨ω,ω⟩];rfl
   exact d (q:Nat) (by rw[e];exact t) (by rw[e];exact u)
  have b:=n f o;unfold gM at b;rw[r]at b;simp only[I0,C0,W3]at b;by_cases g:c<(nth k.F.W.T f).length
  ·have:=b.2 _ (am g)
   unfold iy at this;rw[I0,Bool.false_or,C0,C0]at this;exact this.2
  unfold nth;rw[O2 (l:=List.getD _ _ _),I2 (by unfold nth at g;omega)];rfl
 have:nth k.F.W.T f=[]:=by
  unfold nth;rw[O2,I2 ω];rfl
 rw[this];rfl
theorem CI.freeL{h:ab}{E:List Int}(d:aZ h E)(T:CI h){i k:Nat}(O:i<h.O.length)(r:k<h.M.length)(U:(nth h.O i).Addr=16*(nth h.M k).Q):CI (freeL h i k)/\Kp h (freeL h i k):=by
 obtain⟨V,W⟩:=tX d r;have t:=d.L.lok _ (am r);have X:=aM t;have kl:=KL.unmN d.ker V _ W;have ker:=iB d.ker (nth h.M k).Q (nth h.M k).a2.toNat;have u:=(fx h.G (nth h.M k).Q (nth h.M k).a2.toNat).1;have notO:∀o∈dele h.O i,o≠nth h.O i/\o∈h.O:=λo n=>by
  obtain⟨j,y,Y,rfl⟩:=cT.1 n;exact⟨λe=>Y (cG (f:=(·.Addr)) (dd d.osr) y O (by rw[e])),am y⟩
 have onL:∀b:Int,(nth h.M k).Q<=b / 16->b / 16<(nth h.M k).Q+((nth h.M k).a2.toNat:Nat)->∀f c:Nat,At h.G b f c->La h (nth h.O i).Addr f c:=λb h1 h2 f c g=>.inr ⟨_,am r,U,b,ω,ω,g⟩
 refine CI.kern d T (λo n=>(notO o n).2) rfl rfl (λo n Z f c h16 C=>?_) (λq hq=>?_) (λhm=>?_) (λo n j D P=>?_) kl.cel (λ_ s' F _=>⟨s',F,rfl,rfl,λ_ h=>h⟩)
 ·-- the object itself
  have G:o=nth h.O i:=by
   refine Classical.byContradiction λe=>Z ?_
   obtain⟨j,y,rfl⟩:=aK n;exact cT.2 ⟨j,y,λx=>e (by rw[x]),rfl⟩
  subst G;rcases kl.cel f c with e|e
  ·refine oU ker (λp A H=>?_) c
   obtain⟨j,D,P,g⟩:=C;have hsz:(nth h.O i).o<=16*(nth h.M k).a2:=by
    rcases d.oow _ n with⟨s,J,Q,-⟩|⟨l,R,e1,e2⟩
    ·exact absurd (show s.Q=(nth h.M k).Q+((0:Nat):Int) by have:=Q.1;have:=Q.2.1;omega) (d.L.dis s J _ (am r) 0 ω)
    obtain⟨m,K,rfl⟩:=aK R;have:=d.L.one m k K r 0 0 (by have:=aM (d.L.lok _ R);omega) ω ω;subst this;unfold bC at t;rw[C0]at t;omega
   by_cases B:(nth h.M k).Q<=p/\p<(nth h.M k).Q+((nth h.M k).a2.toNat:Nat)
   ·exact A (kl.ins p B.1 B.2)
   have w:=kl.out p B;change ac (unmN h.G (nth h.M k).Q (nth h.M k).a2.toNat).F.R p=_ at w;change (ac (unmN h.G (nth h.M k).Q (nth h.M k).a2.toNat).F.R p).e≠0 at A;change (ac (unmN h.G (nth h.M k).Q (nth h.M k).a2.toNat).F.R p).j=_ at H;rw[w]at A H;have:=kq d (am r) (b:=(nth h.O i).Addr+j) ω ω g A H;omega
  exact e.1
 ·have:=kl.md u q (by show(nth (tbl (Ab.freeL h i k)).J q).e≠0;omega)
  show(nth h.G.F.R.J q).e=1;rw[<-this];exact hq
 ·obtain⟨-,⟨a,ha,M⟩,b,hb,eb⟩:=d.job hm
  have no:∀s∈h.K,¬((nth h.M k).Q<=s.Q/\s.Q<(nth h.M k).Q+((nth h.M k).a2.toNat:Nat)):=λs J B=>d.L.dis s J _ (am r) (s.Q - (nth h.M k).Q).toNat ω ω
  exact⟨by rw[<-M];exact kl.out _ (no a ha),by rw[<-eb];exact kl.out _ (no b hb)⟩
 obtain⟨o1,N⟩:=notO o n;refine kl.out _ λS=>o1 ?_
 have g:=At.mk' d.ker (cI d N (k:=j) ⟨D,ω⟩).1;have e:=v6 d (iP d N ⟨j,D,P,g⟩) (onL _ S.1 S.2 _ _ g);obtain⟨m,K,rfl⟩:=aK N;rw[cG (f:=(·.Addr)) (dd d.osr) K O e]
theorem CI.freeT{h:ab}{t i:Nat}(b:aZ h [])(c:JI h)(d:CI h)(e:i<h.O.length)(n:t<h.S.length):CI (freeT h t i).1/\Kp h (freeT h t i).1:=by
 unfold Ab.freeT;split
 ·rename_i a
  obtain⟨l,o,f,-⟩:=(dK b (am e)).1 a;obtain⟨g,j,-⟩:=v8 o f;exact CI.freeL b d e g j
 rename_i a;split
 ·exact⟨d,CY h⟩
 rename_i k;split
 ·obtain⟨p,g⟩:=CI.clearO (h':=inQuar h i) b c d e a k rfl rfl rfl rfl rfl
  have f:=b.inQuar e a;obtain⟨q,j⟩:=CI.recycs (t:=t) (E:=[]) (az:=(yb h.a9 (lh h (nth h.O i))).map (·.Addr)) (h:=inQuar h i) (by rw[List.append_nil];exact f) n p;exact⟨q,g.trans j⟩
 split
 ·exact CI.clearO (h':=L9 h t i) b c d e a k rfl rfl rfl rfl rfl
 exact⟨d,CY h⟩
structure KA(k k':ah)(lo n:Int):Prop where
 out:∀q:Int,¬(lo<=q/\q<lo+n)->ac k'.F.R q=ac k.F.R q
 md:∀q:Nat,(nth k'.F.R.J q).e=1->(nth k.F.R.J q).e=1
 cel:∀f c:Nat,cl k' f c=cl k f c
theorem M6{k a:ah}{lo n:Int}(b:a.F.R.J.length=k.F.R.J.length)(h:∀q:Nat,¬(lo<=q/\(q:Int)<lo+n)->nth a.F.R.J q=nth k.F.R.J q)(q:Int)(c:¬(lo<=q/\q<lo+n)):ac a.F.R q=ac k.F.R q:=by
 unfold ac;rw[b];by_cases e:0<=q/\q<k.F.R.J.length
 ·rw[C9 e,C9 e];exact h q.toNat ω
 rw[C8 e,C8 e]
theorem KA.newK{k:ah}{p:Int}{r:ah × Bool}(s:uT k p r):KA k r.1 p 1:=by
 cases e:r.2 with
 | false=>rw[s.no e];exact⟨λ_ _=>rfl,λ_ h=>h,λ_ _=>rfl⟩
 | true=>
  obtain⟨f,-,-,b,-⟩:=s.yes e;refine⟨M6 s.len λq a=>by rw[b,C8 ω],λq a=>?_,λf c=>by unfold cl;rw[s.cells]⟩;rw[b]at a;split at a
  ·exact absurd a (by show ¬(2:Int)=1;decide)
  exact a
theorem KA.newsK{k:ah}{p:Int}{n:Nat}{r:ah × Nat}(s:lR k p n r):KA k r.1 p r.2:=by
 refine⟨M6 s.len s.out,λq a=>?_,λf c=>by unfold cl;rw[s.cells]⟩;by_cases e:p<=q/\(q:Int)<p+r.2
 ·rw[(s.new q e.1 e.2).1]at a;exact absurd a (by decide)
 rw[s.out q e]at a;exact a
theorem nH{h:ab}{E:List Int}(d:aZ h E){lo n:Int}(b:∀q:Nat,lo<=q->(q:Int)<lo+n->(nth (tbl h).J q).e=0){p:Int}(a:(ac (tbl h) p).e≠0):¬(lo<=p/\p<lo+n):=λe=>by
 obtain⟨f,-,c⟩:=lH a;rw[c]at a;exact a (b p.toNat ω ω)
theorem CI.mapped{h h':ab}{E:List Int}(b:aZ h E)(t:CI h){lo n:Int}(e:KA h.G h'.G lo n)(g:∀q:Nat,lo<=q->(q:Int)<lo+n->(nth (tbl h).J q).e=0)(i:h'.O=h.O)(u:h'.Z=h.Z)(l:h'.u=h.u)(p:h.u=true->∀d∈h'.K,d.Q=h.Z.X.a3\/d.Q=h.Z.X.a1->d∈h.K):CI h'/\Kp h h':=by
 refine CI.kern b t (λo a=>by rw[<-i];exact a) u l (λo a r=>absurd (by rw[i];exact a) r) e.md (λa=>?_) (λo a j w C=>?_) (λf c=>.inl (e.cel f c)) (λa d r y=>⟨d,p a d r y,rfl,rfl,λ_ h=>h⟩)
 ·obtain⟨A,B⟩:=b.jobM a
  exact⟨e.out _ (nH b g A),e.out _ (nH b g B)⟩
 rw[i]at a;exact e.out _ (nH b g (cI b a (k:=j) ⟨w,ω⟩).1)
structure CA(h:ab)(r:ab):Prop where
 ci:CI r
 kp:Kp h r
 ob:r.O=h.O
theorem CI.slotT{h:ab}(e:CI h){i:Nat}(t:i<h.K.length)(a:fT h (nth h.K i).Q=false):CI (slotT h i):=by
 refine e.keep rfl rfl (λq h=>h) (λ_=>⟨rfl,rfl⟩) (λf c _ _=>.inl rfl) (λo g f c _ b _=>⟨o,g,b⟩) (λ_ c _=>⟨rfl,rfl⟩) λk u d l=>?_
 rcases dN d with rfl|⟨j,n,-,rfl⟩
 ·obtain⟨p,r⟩:=xH a k
  exact(l.elim p r).elim
 exact⟨_,am n,rfl,rfl,λ_ h=>h⟩
theorem CI.smallA{h:ab}{t c:Nat}(d:aZ h [])(a:CI h)(V:t<h.S.length)(G:c<=3)(H:h.G.Calls<=90000):CA h (smallA h t c).1:=by
 unfold Ab.smallA;split
 ·exact⟨⟨a.z,a.jv,a.jd,a.jc,a.jn,a.m1,a.m2⟩,CY h,rfl⟩
 split
 ·rename_i i D
  have o:=List.find?_some D;have b:=List.mem_range.1 (List.mem_of_find?_eq_some D);unfold so at o;simp only[I0,C0,Bool.not_eq_true']at o;exact⟨CI.slotT a b o.2.1,CY h,rfl⟩
 split
 ·exact⟨a,CY h,rfl⟩
 rename_i J;have f:(au h.w 1).2.2=true:=by simpa using J
 obtain⟨K,L,r,E⟩:=jr d (T4 1) f;have s:=uT.of (p:=(au h.w 1).2.1) d.ker ω ⟨K,by have:(au h.w 1).2.1+1<=(h.G.F.R.J.length:Nat):=L;omega⟩ (r _ ω ω);have F:=KA.newK s;split
 ·obtain⟨g,j⟩:=CI.mapped (h':={h with G:=(newK h.G (au h.w 1).2.1).1}) d a F (λq u w=>r q u w) rfl rfl rfl (λ_ k b _=>b)
  exact⟨g,j,rfl⟩
 rename_i M;have A:(newK h.G (au h.w 1).2.1).2=true:=by simpa using M
 have k:uT h.G (au h.w 1).2.1 ((newK h.G (au h.w 1).2.1).1,true):=by rw[<-A];exact s
 have W:=d.addS (c:=c) ⟨ω,ω⟩ f k;have N:JK h (q8 h c):=JK.addS k;have jno:∀l:h.u=true,(au h.w 1).2.1≠h.Z.X.a3/\(au h.w 1).2.1≠h.Z.X.a1:=λl=>by
  obtain⟨-,⟨y,O,P⟩,⟨z,Q,R⟩⟩:=d.job l;exact⟨λe=>E _ (T4 _) ω (by rw[e,<-P];exact d7 O),λe=>E _ (T4 _) ω (by rw[e,<-R];exact d7 Q)⟩
 obtain⟨g,j⟩:=CI.mapped (h':=q8 h c) d a F (λq u w=>r q u w) rfl rfl rfl (λl k b S=>by
   rcases cB.1 b with rfl|b
   · obtain⟨B,C⟩:=jno l
     exact(S.elim B C).elim
   exact b)
 obtain⟨T,U⟩:=Au (Gw (au h.w 1).2.1) h.K ⟨(au h.w 1).2.1,c,0⟩;unfold qk;split
 ·exact⟨g,j,rfl⟩
 refine⟨CI.slotT (h:=q8 h c) g (i:=rc h) T ?_,j,rfl⟩;show fT (q8 h c) (nth (jf (Gw (au h.w 1).2.1) h.K ⟨(au h.w 1).2.1,c,0⟩) (rc h)).Q=false;unfold rc;rw[U,N.pg,<-X4];intro n;unfold fT at n;simp only[I0,O5,C0]at n;obtain⟨B,C⟩:=jno n.1;exact n.2.elim B C
structure Qr(h h':ab)(x:bz):Prop where
 mem:∀o,o∈h'.O↔o=x\/o∈h.O
 ze:∀j:Int,0<=j->j<x.o->f7 h'.G (x.Addr+j)=0
 ke:∀o∈h.O,∀j:Int,0<=j->j<o.o->f7 h'.G (o.Addr+j)=f7 h.G (o.Addr+j)
theorem Qr.of{h g h':ab}{E L:List Int}{x:bz}(A:aZ g E)(M:CI g)(b:aZ h' L)(r:JI h')(B:CI h')(C:∀p:Int,(ac (tbl g) p).e≠0->ac (tbl h') p=ac (tbl g) p)(d:∀f c,cl h'.G f c=cl g.G f c)(l:∀o,o∈h'.O↔o=x\/o∈g.O)(N:x∉g.O)(G:h'.Z=g.Z)(O:h'.u=g.u)(D:g.O=h.O)(P:Kp h g):Qr h h' x:=by
 have Q:∀o∈g.O,∀f c:Nat,qe g o f c->qe h' o f c:=λo D f c ⟨j,n,t,a⟩=>by
  have e:=C _ a.m;unfold tbl at e;exact⟨j,n,t,by rw[e];exact a.m,by rw[e];exact a.f,a.c⟩
 refine⟨λo=>by rw[l,D],λj n t=>?_,λo u j n t=>?_⟩
 ·have q:=(l x).2 (.inl rfl)
  have a:=At.mk' b.ker (cI b q (k:=j) ⟨n,ω⟩).1;rw[a.cell];refine Classical.byContradiction λH=>?_
  have w:((x.Addr+j) % 16).toNat<16:=ω
  rw[d]at H;have i:qe h' x _ _:=⟨j,n,t,a⟩
  rcases M.z _ _ w H with⟨o,u,F⟩|⟨J,R,S⟩
  ·have:=GJ b ((l o).2 (.inr u)) q (Q o u _ _ F) i
   subst this;exact N u
  refine rC b r B (by rw[O];exact J) (iP b q i) w (by rw[G];exact List.mem_of_mem_take S) ?_;rw[G,C _ (A.jobM J).1];exact R
 have K:o∈g.O:=by rw[D];exact u
 refine Eq.trans ?_ ((P o K).2 j n t);have a:=At.mk' A.ker (cI A K (k:=j) ⟨n,ω⟩).1;have e:=C _ a.m;have y:At h'.G (o.Addr+j) (cN g.G (o.Addr+j)) ((o.Addr+j) % 16).toNat:=by
  unfold tbl at e;exact⟨by rw[e];exact a.m,by rw[e];exact a.f,a.c⟩
 rw[y.cell,a.cell,d]
theorem CI.addO{h:ab}(e:CI h)(a size t:Int):CI (addO h a size t):=
 e.keep rfl rfl (λq h=>h) (λ_=>⟨rfl,rfl⟩) (λf c _ _=>.inl rfl) (λo g f c _ b _=>⟨o,cB.2 (.inr g),b⟩) (λ_ c _=>⟨rfl,rfl⟩) λ_ i d _=>⟨i,d,rfl,rfl,λ_ h=>h⟩
structure AL(h:ab)(t size:Int)(r:ab × Int × Int):Prop where
 ci:CI r.1
 no:r.2.2≠0->r.1.O=h.O/\Kp h r.1/\r.1.d=h.d/\r.2.1 = -1
 yes:r.2.2=0->Qr h r.1 ⟨h.d,r.2.1,size,t⟩/\r.1.d=h.d+1/\1<=size/\size<=1000/\0<=r.2.1
theorem MD{h:ab}{E:List Int}(b:aZ h E){a size t:Int} : (⟨h.d,a,size,t⟩ : bz)∉h.O:=λc=>by
 have:=(b.onu _ c).2.1;simp only at this;omega
theorem CI.largeA{h:ab}{t size:Int}(b:aZ h [])(C:JI h)(y:CI h)(L:9<=size/\size<=1000)(D:h.d<1000000)(E:h.G.Calls<=90000)(U:0<=t/\t<=h.S.length - 1):AL h t size (largeA h t size):=by
 have hl:(gT size:Int)=(size+15) / 16:=by unfold gT;omega
 have a:=zj b L D E U;unfold Ab.largeA at a |-;by_cases F:(au h.w (gT size:Nat)).2.2=false
 ·rw[C9 F]
  exact⟨y,λ_=>⟨rfl,CY h,rfl,rfl⟩,λe=>by cases e⟩
 rw[C8 F]at a |-;have G:(au h.w (gT size:Nat)).2.2=true:=by simpa using F
 obtain⟨M,N,O,u4⟩:=jr b (show(1:Int)<=(gT size:Nat) by omega) G;have s:lR h.G (au h.w (gT size:Nat)).2.1 (gT size) (dG h size):=lR.of (p:=(au h.w (gT size:Nat)).2.1) (n:=gT size) b.ker ω ⟨M,N⟩ O (gT size) (X2 _);have d:=KA.newsK s;have V:=s.le;have i:∀q:Nat,(au h.w (gT size:Nat)).2.1<=q->(q:Int)<(au h.w (gT size:Nat)).2.1+(dG h size).2->(nth (tbl h).J q).e=0:=λq W q2=>O q W ω
 by_cases P:(dG h size).2=gT size
 ·rw[C9 P]at a |-
  obtain⟨Q,H⟩:=a;have ji1:=C.keep Q H;have w:∀o,o∈(addL h (dG h size).1 (au h.w (gT size:Nat)).1 (au h.w (gT size:Nat)).2.1 (gT size:Nat) size t).O↔o = ⟨h.d,16*(au h.w (gT size:Nat)).2.1,size,t⟩\/o∈h.O:=λo=>cB
  have X:=CI.mapped (h':={h with G:=(dG h size).1}) b y d i rfl rfl rfl (λ_ A Y _=>Y);have B:CI (addL h (dG h size).1 (au h.w (gT size:Nat)).1 (au h.w (gT size:Nat)).2.1 (gT size:Nat) size t):=
   X.1.keep rfl rfl (λq h=>h) (λ_=>⟨rfl,rfl⟩) (λf c _ _=>.inl rfl) (λo l f c _ J _=>⟨o,cB.2 (.inr l),J⟩) (λ_ c _=>⟨rfl,rfl⟩) λ_ A r _=>⟨A,r,rfl,rfl,λ_ h=>h⟩
  refine⟨B,λe=>absurd rfl e,λ_=>⟨?_,rfl,ω,L.2,by show 0<=16*_;omega⟩⟩;exact Qr.of (g:=h) b y Q ji1 B (λp Z=>d.out p (nH b i Z)) d.cel w (MD b) rfl rfl rfl (CY h)
 rw[C8 P]at a |-;have K:=s.len;have kl:=KL.unmN s.ker M (dG h size).2 (by rw[K];have:(au h.w (gT size:Nat)).2.1+((gT size:Nat):Int)<=(h.G.F.R.J.length:Nat):=N;omega);have u:=((fx (dG h size).1 (au h.w (gT size:Nat)).2.1 (dG h size).2).1)
 obtain⟨B,k1⟩:=CI.kern (h':={h with G:=unmN (dG h size).1 (au h.w (gT size:Nat)).2.1 (dG h size).2}) b y (λo l=>l) rfl rfl (λo l D=>absurd l D) (λq R=>d.md q (by rw[<-kl.md u q (by show(nth (unmN (dG h size).1 _ _).F.R.J q).e≠0;have:(nth (unmN (dG h size).1 (au h.w (gT size:Nat)).2.1 (dG h size).2).F.R.J q).e=1:=R;omega)];exact R)) (λhm=>by
     obtain⟨S,T⟩:=b.jobM hm;exact⟨(kl.out _ (nH b i S)).trans (d.out _ (nH b i S)),(kl.out _ (nH b i T)).trans (d.out _ (nH b i T))⟩) (λo l j H j2=>by
     have:=nH b i (cI b l (k:=j) ⟨H,ω⟩).1;exact(kl.out _ this).trans (d.out _ this)) (λf c=>by
     rcases kl.cel f c with e|e
     · exact .inl (e.trans (d.cel f c))
     exact .inr e) (λ_ A r _=>⟨A,r,rfl,rfl,λ_ h=>h⟩)
 exact⟨B,λ_=>⟨rfl,k1,rfl,rfl⟩,λe=>by cases e⟩
theorem CI.allocH{h:ab}{t size:Int}(i:aZ h [])(f:JI h)(j:CI h):AL h t size (allocH h t size):=by
 have a:=Aa (t:=t) (size:=size) i;have no:∀n:Int,n≠0->AL h t size (h,-1,n):=λn B=>⟨j,λ_=>⟨rfl,CY h,rfl,rfl⟩,λe=>absurd e B⟩
 unfold Ab.allocH at a |-;by_cases k:1000000<=h.d\/90000<h.G.Calls
 ·rw[C9 k];exact no 5 (by decide)
 rw[C8 k]at a |-;by_cases l:¬(0<=t/\t<=h.S.length - 1)
 ·rw[C9 l];exact no 1 (by decide)
 rw[C8 l]at a |-;by_cases q:¬(1<=size/\size<=1000)
 ·rw[C9 q];exact no 2 (by decide)
 rw[C8 q]at a |-;by_cases u:h.c3<tE h+size
 ·rw[C9 u];exact no 3 (by decide)
 rw[C8 u]at a |-;by_cases b:0<=aJ size
 ·rw[C9 b]at a |-
  have C:aJ size<=3:=by unfold aJ;repeat' split<;>omega
  have s:=uj (t:=t.toNat) (c:=(aJ size).toNat) i ω ω ω;have d:=CI.smallA (t:=t.toNat) (c:=(aJ size).toNat) i j ω ω ω;generalize Ab.smallA h t.toNat (aJ size).toNat=r at s d a |-;by_cases e:r.2<0
  ·rw[C9 e]at a |-
   exact⟨d.ci,λ_=>⟨d.ob,d.kp,s.nx,rfl⟩,λe=>by cases e⟩
  rw[C8 e]at a |-;obtain⟨w,D⟩:=a;obtain⟨y,-⟩:=s.yes ω;have A:=CI.addO d.ci r.2 size t;refine⟨A,λe=>absurd rfl e,λ_=>⟨?_,by show r.1.d+1=h.d+1;rw[s.nx],ω,ω,by show 0<=r.2;omega⟩⟩;have:=Qr.of (h:=h) (g:=r.1) (x:=⟨r.1.d,r.2,size,t⟩) y d.ci w (f.keep w D) A (λp _=>rfl) (λ_ _=>rfl) (λo=>cB) (MD y) rfl rfl d.ob d.kp;rw[s.nx]at this;exact this
 rw[C8 b];have E:9<=size:=by
  unfold aJ at b
  repeat' split at b<;>omega
 exact CI.largeA i f j ⟨E,ω⟩ ω ω ω
theorem qX(k:ah)(a v:Int)(f c:Nat):cl (dD k a v) f c=cl k f c\/(cl (dD k a v) f c=v/\f=cN k a/\c=(a % 16).toNat):=by
 unfold cl dD setCell;simp only[bB];by_cases e:cN k a=f/\f<k.F.W.T.length
 ·rw[C9 e,bB]
  by_cases b:(a % 16).toNat=c/\c<(nth k.F.W.T (cN k a)).length
  ·rw[C9 b];exact .inr ⟨rfl,e.1.symm,b.1.symm⟩
  rw[C8 b,e.1];exact .inl rfl
 rw[C8 e];exact .inl rfl
theorem zY{k:ah}(c:a8 k=true){a v:Int}(e:(ac k.F.R (a / 16)).e≠0):cl (dD k a v) (cN k a) (a % 16).toNat=v:=by
 have d:=(gn c e).1;have b:=(sZ c (f:=cN k a) d).1;unfold cl dD setCell;show nth (nth (List.set _ _ _) _) _=v;rw[bB,C9 ⟨rfl,d⟩,bB,C9 ⟨rfl,by rw[b];omega⟩]
theorem He{h:ab}{a v:Int}{o:bz}{f c:Nat}(d:qe h o f c):qe {h with G:=dD h.G a v} o f c:=by
 obtain⟨j,e,g,b⟩:=d;exact⟨j,e,g,⟨b.m,b.f,b.c⟩⟩
theorem N5{h:ab}{E:List Int}(d:aZ h E){o:bz}(q:o∈h.O){x j:Int}(y:0<=x/\x<o.o)(A:0<=j/\j<o.o){f c:Nat}(h1:At h.G (o.Addr+x) f c)(g:At h.G (o.Addr+j) f c):x=j:=by
 have B:=h1.c;have C:=g.c;rcases d.oow o q with⟨s,r,t,u⟩|⟨l,k,D,F⟩
 ·have i:=aB (d.L.sok s r)
  have a:=AN (n:=o.o) ω;rw[<-u]at a;obtain⟨G,H,w,-⟩:=t;rcases bE i.2.2 with e|e|e|e<;>rw[e]at w a<;>omega
 have p:=d.L.lok l k;unfold bC at p;rw[C0]at p;have:=kq d k (b:=o.Addr+x) ω ω h1 g.m g.f;omega
theorem CI.store{h:ab}{E:List Int}(b:aZ h E)(A:JI h)(N:CI h){i:Nat}(O:i<h.O.length){j v:Int}(P:0<=j/\j<=(nth h.O i).o - 1)(Y:(ac (tbl h) (((nth h.O i).Addr+j) / 16)).e≠1):CI {h with G:=dD h.G ((nth h.O i).Addr+j) v}/\
  ∀o∈h.O,∀x:Int,0<=x->x<o.o->f7 (dD h.G ((nth h.O i).Addr+j) v) (o.Addr+x)=if o=nth h.O i/\x=j then v else f7 h.G (o.Addr+x):=by
 have g:=am O;have F:=(cI b g P).1;have G:=At.mk' b.ker F;have d:qe h (nth h.O i) _ _:=⟨j,P.1,ω,G⟩
 have r:=iP b g d;have Z:(((nth h.O i).Addr+j) % 16).toNat<16:=ω
 have key:∀p:Int,(ac (tbl h) p).e≠0->(ac (tbl h) p).j≠(cN h.G ((nth h.O i).Addr+j):Nat)->∀c,cl (dD h.G ((nth h.O i).Addr+j) v) (bF h.G p) c=cl h.G (bF h.G p) c:=λp Q B c=>by
  rcases qX h.G ((nth h.O i).Addr+j) v (bF h.G p) c with e|⟨-,e,-⟩
  ·exact e
  refine absurd ?_ B;rw[<-e];exact jV b.ker Q
 refine⟨N.keep rfl rfl (λq h=>h) (λ_=>⟨rfl,rfl⟩) (λf c _ _=>?_) (λo g f c _ d _=>⟨o,g,He d⟩) (λH c C=>?_) (λ_ s' R _=>⟨s',R,rfl,rfl,λ_ h=>h⟩),λo g x S W=>?_⟩
 ·rcases qX h.G ((nth h.O i).Addr+j) v f c with e|⟨-,u,w⟩
  ·exact .inl e.symm
  refine .inr ⟨_,g,?_⟩;rw[u,w];exact He d
 ·obtain⟨jm1,jm2⟩:=b.jobM H
  have J:c<16:=by
   obtain⟨k,lk,e⟩:=aK (List.mem_of_mem_take C);have:=fW (dw.1 (b.job H).1).1 lk;omega
  constructor
  ·rcases qX h.G ((nth h.O i).Addr+j) v (bF h.G h.Z.X.a3) c with e|⟨-,u,w⟩
   ·exact e
   exfalso;rw[<-u,<-w]at r;exact rC b A N H r J (List.mem_of_mem_take C) (jV b.ker jm1)
  rcases qX h.G ((nth h.O i).Addr+j) v (bF h.G h.Z.X.a1) c with e|⟨-,u,w⟩
  ·exact e
  exfalso;rw[<-u,<-w]at r;refine Dl b A N H r ?_ C (jV b.ker jm2);rcases b.oow _ g with⟨s,hs,s1,s2⟩|⟨l,X,l1,-⟩
  ·have T:=aB (b.L.sok s hs)
   have K:=AN (n:=(nth h.O i).o) ω;rw[<-s2]at K;obtain⟨g1,g2,g3,-⟩:=s1;have Q:((nth h.O i).Addr+j) / 16=(nth h.O i).Addr / 16:=by rcases bE T.2.2 with e|e|e|e<;>rw[e]at g3 K<;>omega
   rw[<-Q];exact Y
  intro M;obtain⟨a1,a2,a3⟩:=lH (t:=tbl h) (p:=(nth h.O i).Addr / 16) ω;rw[a3]at M;have h3:=(N.m1 _ M).2.1;obtain⟨-,-,y,hy,-,ey,-⟩:=A.sp H;have hpl:=aM (b.L.lok l X);exact b.L.dis y hy l X 0 ω ω
 have U:=(cI b g (k:=x) ⟨S,ω⟩).1;have a:=At.mk' b.ker U;have D:At (dD h.G ((nth h.O i).Addr+j) v) (o.Addr+x) (cN h.G (o.Addr+x)) ((o.Addr+x) % 16).toNat:=⟨a.m,a.f,a.c⟩
 rw[D.cell,a.cell];split
 ·rename_i e
  obtain⟨u,w⟩:=e;subst u w;exact zY b.ker F
 rename_i B;rcases qX h.G ((nth h.O i).Addr+j) v (cN h.G (o.Addr+x)) ((o.Addr+x) % 16).toNat with e|⟨-,u,w⟩
 ·exact e
 exfalso;rw[u,w]at a;have V:qe h o _ _:=⟨x,S,W,a⟩
 have eo:=GJ b g (am O) V d;subst eo;refine B ⟨rfl,?_⟩;exact N5 b (am O) ⟨S,W⟩ ⟨P.1,ω⟩ a G
structure JP(h:ab):Prop where
 km:(ac (tbl h) h.Z.X.a3).e≠0
 mm:(ac (tbl h) h.Z.X.a1).e≠0
 kf:(ac (tbl h) h.Z.X.a3).j=(bF h.G h.Z.X.a3:Nat)
 mf:(ac (tbl h) h.Z.X.a1).j=(bF h.G h.Z.X.a1:Nat)
 ne:bF h.G h.Z.X.a3≠bF h.G h.Z.X.a1
 pe:h.Z.X.a3≠h.Z.X.a1
 k2:CI h->(ac (tbl h) h.Z.X.a3).e≠1
theorem JP.of{h:ab}{E:List Int}(g:aZ h E)(i:JI h)(j:h.u=true):JP h:=by
 obtain⟨k,b⟩:=g.jobM j;have a:=(dw.1 (g.job j).1).1;unfold eH at a;simp only[I0,C0]at a;have c:=a.2.2.2.2.2;have l:=jV g.ker k;have n:=jV g.ker b;obtain⟨t,u,o⟩:=lH k;obtain⟨w,y,q⟩:=lH b;refine⟨k,b,l,n,λe=>c ?_,c,λr p=>?_⟩
 ·have d:(ac (tbl h) h.Z.X.a3).j=(bF h.G h.Z.X.a3:Nat):=l
  have f:(ac (tbl h) h.Z.X.a1).j=(bF h.G h.Z.X.a1:Nat):=n;rw[o]at d;rw[q]at f b;have:=i.sk j h.Z.X.a1.toNat b (by rw[d,f,e]);omega
 rw[o]at p;have:=(r.m1 _ p).2.1;omega
def hJ(h:ab)(k:ah)(j:cM):ab:={h with G:=k,u:=true,Z:=j}
def hE(h:ab)(k:ah):ab:={h with G:=k,u:=false,Z:=⟨⟨0,0,[]⟩,0,0⟩}
theorem LB{h:ab}(a:h.u=true):mStep h=if over (gK h.G h.Z).2=true then hE h (gK h.G h.Z).1 else hJ h (gK h.G h.Z).1 (gK h.G h.Z).2:=by
 unfold mStep hE hJ;split
 ·rfl
 rw[a]
theorem v7{h h':ab}{E:List Int}(g:aZ h E)(l:h'.O=h.O)(n:∀p,(ac (tbl h) p).e≠0->(ac (tbl h') p).e≠0/\(ac (tbl h') p).j=(ac (tbl h) p).j)(q:∀o∈h.O,∀f c,qe h o f c->cl h'.G f c=cl h.G f c):Kp h h':=λo e=>by
 rw[l]at e;refine⟨e,λj i r=>?_⟩;have b:=(cI g e (k:=j) ⟨i,ω⟩).1;have a:=At.mk' g.ker b;obtain⟨t,u⟩:=n _ b;have d:At h'.G (o.Addr+j) (cN h.G (o.Addr+j)) ((o.Addr+j) % 16).toNat:=⟨t,u.trans a.f,a.c⟩
 rw[d.cell,a.cell];exact q o e _ _ ⟨j,i,r,a⟩
theorem xc{h h':ab}(b:∀p,(ac (tbl h) p).e≠0->(ac (tbl h') p).e≠0/\(ac (tbl h') p).j=(ac (tbl h) p).j){o:bz}{f c:Nat}(d:qe h o f c):qe h' o f c:=by
 obtain⟨j,e,g,a⟩:=d;obtain⟨i,k⟩:=b _ a.m;exact⟨j,e,g,i,k.trans a.f,a.c⟩
theorem sJ{k:ah}{p m:Int}(b:(ac k.F.R p).e≠0)(q:Int):ac (ja k p m).F.R q=if q=p then {ac k.F.R p with e:=m} else ac k.F.R q:=by
 obtain⟨c,d,g⟩:=lH b;have f:(ja k p m).F.R.J.length=k.F.R.J.length:=by unfold ja;simp
 unfold ac;rw[f];by_cases e:0<=q/\q<k.F.R.J.length
 ·rw[C9 e,C9 e]
  unfold ja;simp only[bB];by_cases a:q=p
  ·rw[C9 a,C9 ⟨ω,ω⟩,C9 ⟨c,d⟩]
  rw[C8 a,C8 ω]
 rw[C8 e,C8 e,C8 ω]
theorem FG{t:aI}{q:Nat}(h:(nth t.J q).e≠0):ac t (q:Int)=nth t.J q:=by
 have:=rm h;unfold ac;rw[C9 ⟨ω,ω⟩];rfl
theorem CI.ended{h:ab}{k:ah}{E:List Int}(l:aZ h E)(n:CI h)(u:h.u=true)(r:h.Z.d=0)(g:∀f c,cl k f c=cl h.G f c)(i:∀p,(ac (tbl h) p).e≠0->(ac k.F.R p).e≠0/\(ac k.F.R p).j=(ac (tbl h) p).j)(h1:∀q:Nat,(nth k.F.R.J q).e≠1):CI (hE h k)/\Kp h (hE h k):=by
 refine⟨⟨λf c a b=>?_,λe=>(by cases e),λe=>(by cases e),λe=>(by cases e),λe=>(by cases e),λq t=>absurd t (h1 q),λe=>(by cases e)⟩,v7 l rfl i λo j f c _=>g f c⟩;change cl k f c≠0 at b;rw[g]at b;rcases n.z f c a b with⟨o,j,d⟩|⟨-,-,e⟩
 ·exact .inl ⟨o,j,xc i d⟩
 rw[r]at e;cases e
theorem H5{p:cP}(h:eH p=true){i:Nat} : ∀{j:Nat},i<j->j<p.T.length->nth p.T i<nth p.T j
 | 0,a,_=>absurd a (Nat.not_lt_zero i)
 | j+1,a,d=>by
  have b:=h;unfold eH at b;simp only[I0]at b;have c:=dL b.1 d;unfold lY at c;rw[C0]at c;have f:nth p.T j<nth p.T (j+1):=c.2.2.resolve_left ω;by_cases e:i=j
  ·rw[e];exact f
  have:=H5 h (i:=i) (j:=j) ω ω;omega
theorem qL(k:ah)(a:Nat)(b v:Int)(f c:Nat):cl (setCell k a b v) f c=cl k f c\/(cl (setCell k a b v) f c=v/\f=a/\c=b.toNat):=by
 unfold cl setCell;simp only[bB];by_cases e:a=f/\f<k.F.W.T.length
 ·rw[C9 e,bB]
  by_cases d:b.toNat=c/\c<(nth k.F.W.T a).length
  ·rw[C9 d];exact .inr ⟨rfl,e.1.symm,d.1.symm⟩
  rw[C8 d,e.1];exact .inl rfl
 rw[C8 e];exact .inl rfl
theorem pU{k:ah}(c:a8 k=true){p a v:Int}(e:(ac k.F.R p).e≠0)(g:0<=a/\a<=15):cl (setCell k (bF k p) a v) (bF k p) a.toNat=v:=by
 have d:=(gn c e).1;have b:=(sZ c (f:=bF k p) d).1;unfold cl setCell;show nth (nth (List.set _ _ _) _) _=v;rw[bB];rw[C9 ⟨rfl,d⟩,bB,C9 ⟨rfl,by rw[b];omega⟩]
theorem E3{h:ab}{p b v:Int}{j:cM}{o:bz}{f c:Nat}(d:qe h o f c):qe (hJ h (setCell h.G (bF h.G p) b v) j) o f c:=by
 obtain⟨x,e,g,a⟩:=d;exact⟨x,e,g,⟨a.m,a.f,a.c⟩⟩
theorem H7{h:ab}{j:cM}(a:aZ h [])(b:JI h)(q:CI h)(l:h.u=true)(r:JP h){d:Int}(n:d∈h.Z.X.T)(v:Int):Kp h (hJ h (setCell h.G (bF h.G h.Z.X.a3) d v) j):=by
 obtain⟨k,t,e⟩:=aK n;have u:=fW (dw.1 (a.job l).1).1 t;refine v7 a rfl (λp w=>⟨w,rfl⟩) λo y f c i=>?_
 rcases qL h.G (bF h.G h.Z.X.a3) d v f c with g|⟨-,A,B⟩
 ·exact g
 exfalso;refine rC a b q l (iP a y i) ω ?_ (by rw[A];exact r.kf);rw[B,Int.toNat_of_nonneg ω];exact n
theorem CI.copied{h:ab}(r:aZ h [])(t:JI h)(b:CI h)(k:h.u=true)(n:JP h)(N:h.Z.b2=1)(O:0<=h.Z.d/\h.Z.d<h.Z.X.T.length):CI (hJ h (ri h.G h.Z.X.a1 h.Z.X.a3 (nth h.Z.X.T h.Z.d.toNat)) {h.Z with d:=h.Z.d+1})/\Kp h (hJ h (ri h.G h.Z.X.a1 h.Z.X.a3 (nth h.Z.X.T h.Z.d.toNat)) {h.Z with d:=h.Z.d+1}):=by
 have d:h.Z.d.toNat<h.Z.X.T.length:=ω
 have l:=am d;have u:=fW (dw.1 (r.job k).1).1 d;have i:h.Z.X.T.take (h.Z.d+1).toNat=h.Z.X.T.take h.Z.d.toNat++[nth h.Z.X.T h.Z.d.toNat]:=by
  rw[show(h.Z.d+1).toNat=h.Z.d.toNat+1 by omega,Y4,ao d];rfl
 unfold ri;have w:=pU r.ker (p:=h.Z.X.a3) (v:=nth (nth h.G.F.W.T (bF h.G h.Z.X.a1)) (nth h.Z.X.T h.Z.d.toNat).toNat) n.km u;have j:=qL h.G (bF h.G h.Z.X.a3) (nth h.Z.X.T h.Z.d.toNat) (nth (nth h.G.F.W.T (bF h.G h.Z.X.a1)) (nth h.Z.X.T h.Z.d.toNat).toNat);refine⟨⟨λf c y H=>?_,λ_ c a=>?_,λ_=>b.jd k,λ_=>b.jc k,λ_=>⟨λe=>absurd e (by show ¬h.Z.b2=0;omega),λe=>absurd e (by show ¬h.Z.b2=2;omega)⟩,λq J=>?_,λ_ _=>b.m2 k ω⟩,H7 r t b k n l _⟩
 ·rcases j f c with g|⟨-,A,B⟩
  ·have C:cl h.G f c≠0:=by rw[<-g];exact H
   rcases b.z f c y C with⟨o,K,L⟩|⟨M,D,E⟩
   ·exact .inl ⟨o,K,E3 L⟩
   refine .inr ⟨rfl,D,?_⟩;show(c:Int)∈h.Z.X.T.take (h.Z.d+1).toNat;rw[i];exact W2.2 (.inl E)
  refine .inr ⟨rfl,?_,?_⟩
  ·show(ac (tbl h) h.Z.X.a3).j=f;rw[A];exact n.kf
  show(c:Int)∈h.Z.X.T.take (h.Z.d+1).toNat;rw[i,B,Int.toNat_of_nonneg ω];exact W2.2 (.inr (I1.2 rfl))
 ·change (c:Int)∈h.Z.X.T.take (h.Z.d+1).toNat at a
  show cl (setCell h.G (bF h.G h.Z.X.a3) _ _) (bF h.G h.Z.X.a3) c=cl (setCell h.G (bF h.G h.Z.X.a3) _ _) (bF h.G h.Z.X.a1) c;have F:cl (setCell h.G (bF h.G h.Z.X.a3) (nth h.Z.X.T h.Z.d.toNat) (nth (nth h.G.F.W.T (bF h.G h.Z.X.a1)) (nth h.Z.X.T h.Z.d.toNat).toNat)) (bF h.G h.Z.X.a1) c=cl h.G (bF h.G h.Z.X.a1) c:=by
   rcases j (bF h.G h.Z.X.a1) c with g|⟨-,A,-⟩
   ·exact g
   exact absurd A.symm n.ne
  rw[F];by_cases G:(c:Int)=nth h.Z.X.T h.Z.d.toNat
  ·have:c=(nth h.Z.X.T h.Z.d.toNat).toNat:=ω
   rw[this,w];rfl
  rw[i]at a;rcases W2.1 a with a|a
  ·rcases j (bF h.G h.Z.X.a3) c with g|⟨-,-,B⟩
   ·rw[g];exact b.jv k c a
   exact absurd (by rw[B,Int.toNat_of_nonneg ω]) G
  exact absurd (I1.1 a) G
 obtain⟨M,D,E⟩:=b.m1 q J;exact⟨rfl,D,E⟩
theorem CI.undone{h:ab}(y:aZ h [])(A:JI h)(b:CI h)(r:h.u=true)(l:JP h)(p3:h.Z.b2=3)(hp:0<h.Z.d):CI (hJ h {h.G with F:=(iV h.G.F (h.Z.X.a3*16+nth h.Z.X.T (h.Z.d - 1).toNat) 0).1} {h.Z with d:=h.Z.d - 1})/\Kp h (hJ h {h.G with F:=(iV h.G.F (h.Z.X.a3*16+nth h.Z.X.T (h.Z.d - 1).toNat) 0).1} {h.Z with d:=h.Z.d - 1}):=by
 obtain⟨t,-,-,n0,n1⟩:=dw.1 (y.job r).1;have a:(h.Z.d - 1).toNat<h.Z.X.T.length:=ω
 have u:=am a;have B:=fW t a;have O:=(lH l.km).1;have P:(h.Z.X.a3*16+nth h.Z.X.T (h.Z.d - 1).toNat) / 16=h.Z.X.a3:=ω
 have Q:(h.Z.X.a3*16+nth h.Z.X.T (h.Z.d - 1).toNat) % 16=nth h.Z.X.T (h.Z.d - 1).toNat:=ω
 have C:(ac h.G.F.R h.Z.X.a3).e≠0:=l.km;have D:(ac h.G.F.R h.Z.X.a3).e≠1:=l.k2 b;have R:({h.G with F:=(iV h.G.F (h.Z.X.a3*16+nth h.Z.X.T (h.Z.d - 1).toNat) 0).1} : ah)=setCell h.G (bF h.G h.Z.X.a3) (nth h.Z.X.T (h.Z.d - 1).toNat) 0:=by
  unfold iV;rw[P,Q,C8 C,C8 D]
  rfl
 rw[R];have n:=qL h.G (bF h.G h.Z.X.a3) (nth h.Z.X.T (h.Z.d - 1).toNat) 0;have w:h.Z.X.T.take h.Z.d.toNat=h.Z.X.T.take (h.Z.d - 1).toNat++[nth h.Z.X.T (h.Z.d - 1).toNat]:=by
  rw[show h.Z.d.toNat=(h.Z.d - 1).toNat+1 by omega,Y4,ao a];rfl
 have E:nth h.Z.X.T (h.Z.d - 1).toNat∉h.Z.X.T.take (h.Z.d - 1).toNat:=λF=>by
  obtain⟨k,S,T⟩:=aK F;rw[R1]at S;have G:nth (h.Z.X.T.take (h.Z.d - 1).toNat) k=nth h.Z.X.T k:=by
   refine bj ?_;rw[List.getElem?_take,C9 ω];exact ao ω
  rw[G]at T;have:=H5 t (i:=k) (j:=(h.Z.d - 1).toNat) ω a;omega
 refine⟨⟨λf c H J=>?_,λ_ c p=>?_,λ_=>b.jd r,λ_=>b.jc r,λ_=>⟨λe=>absurd e (by show ¬h.Z.b2=0;omega),λe=>absurd e (by show ¬h.Z.b2=2;omega)⟩,λq U=>?_,λ_ _=>b.m2 r ω⟩,H7 y A b r l u _⟩
 ·rcases n f c with g|⟨V,-,-⟩
  ·have K:cl h.G f c≠0:=by rw[<-g];exact J
   rcases b.z f c H K with⟨o,W,X⟩|⟨Y,L,d⟩
   ·exact .inl ⟨o,W,E3 X⟩
   rw[w]at d;rcases W2.1 d with d|d
   ·exact .inr ⟨rfl,L,d⟩
   exfalso;have ec:=I1.1 d;have M:f=bF h.G h.Z.X.a3:=by have:=l.kf;omega
   refine J ?_;show cl (setCell h.G (bF h.G h.Z.X.a3) _ 0) f c=0;rw[M,show c=(nth h.Z.X.T (h.Z.d - 1).toNat).toNat by omega];exact pU y.ker l.km B
  exact absurd V J
 ·change (c:Int)∈h.Z.X.T.take (h.Z.d - 1).toNat at p
  show cl (setCell h.G (bF h.G h.Z.X.a3) _ 0) (bF h.G h.Z.X.a3) c=cl (setCell h.G (bF h.G h.Z.X.a3) _ 0) (bF h.G h.Z.X.a1) c;have N:cl (setCell h.G (bF h.G h.Z.X.a3) (nth h.Z.X.T (h.Z.d - 1).toNat) 0) (bF h.G h.Z.X.a1) c=cl h.G (bF h.G h.Z.X.a1) c:=by
   rcases n (bF h.G h.Z.X.a1) c with g|⟨-,Z,-⟩
   ·exact g
   exact absurd Z.symm l.ne
  rw[N];rcases n (bF h.G h.Z.X.a3) c with g|⟨-,-,g2⟩
  ·rw[g]
   exact b.jv r c (by rw[w];exact W2.2 (.inl p))
  exact absurd (by rw[show nth h.Z.X.T (h.Z.d - 1).toNat=(c:Int) by omega];exact p) E
 obtain⟨Y,L,d⟩:=b.m1 q U;exact⟨rfl,L,d⟩
theorem CI.meshed{h:ab}(F:aZ h [])(D:JI h)(G:CI h)(H:h.u=true)(d:JP h)(hn:h.Z.d=h.Z.X.T.length)(L:h.G.Calls≠100000)(R:(vc h.G h.Z.X.a1 h.Z.X.a3).2=true):CI (hE h (vc h.G h.Z.X.a1 h.Z.X.a3).1)/\Kp h (hE h (vc h.G h.Z.X.a1 h.Z.X.a3).1):=by
 have A:=Hn F.ker (p:=h.Z.X.a1) (o:=h.Z.X.a3) d.mm R;obtain⟨m1,m2,m3⟩:=lH d.mm;obtain⟨k1,k2,k3⟩:=lH d.km;have M:=(A 0).1;generalize N:(vc h.G h.Z.X.a1 h.Z.X.a3).1=K at *;have J:∀q:Int,ac K.F.R q=if q=h.Z.X.a1 then⟨2,(ac (tbl h) h.Z.X.a3).j⟩ else ac (tbl h) q:=λq=>by
  unfold ac;rw[M];by_cases e:0<=q/\q<h.G.F.R.J.length
  ·rw[C9 e,(A q.toNat).2]
   by_cases B:q=h.Z.X.a1
   ·rw[C9 B,C9 ω,C9 ⟨k1,k2⟩];rfl
   rw[C8 B,C8 ω,C9 (show 0<=q/\q<(tbl h).J.length from e)];rfl
  rw[C8 e,C8 (show ¬q=h.Z.X.a1 by unfold tbl at m2;omega),C8 (show ¬(0<=q/\q<(tbl h).J.length) from e)]
 have l:∀f c,cl K f c=cl h.G f c\/(cl K f c=0/\f=bF h.G h.Z.X.a1):=λf c=>by
  unfold vc at N R;by_cases e:refd h.G=true
  ·rw[C9 e]at R;cases R
  rw[C8 e]at N;simp only at N;rw[<-N];rcases H3 (vh (bZ h.G) h.Z.X.a1.toNat ⟨2,(nth (bZ h.G).F.R.J h.Z.X.a3.toNat).j⟩) (nth (bZ h.G).F.R.J h.Z.X.a1.toNat).j f c with g|⟨S,T,-⟩
  ·exact .inl g
  refine .inr ⟨S,?_⟩;rw[<-T];have h3:nth (bZ h.G).F.R.J h.Z.X.a1.toNat=ac h.G.F.R h.Z.X.a1:=m3.symm;rw[h3];rfl
 have n:h.Z.X.T.take h.Z.d.toNat=h.Z.X.T:=Z5 ω;have O:∀p:Int,(ac (tbl h) p).e≠0->(ac (tbl h) p).j=(bF h.G h.Z.X.a1:Nat)->p=h.Z.X.a1:=λp j C=>by
  obtain⟨p1,p2,p3⟩:=lH j;have P:=d.mf;rw[p3]at j C;rw[m3]at P;have:=D.sm H p.toNat j (by rw[C,P]);omega
 have U:∀c,cl K (bF h.G h.Z.X.a3) c=cl h.G (bF h.G h.Z.X.a3) c:=λc=>by
  rcases l (bF h.G h.Z.X.a3) c with g|⟨-,g⟩
  ·exact g
  exact absurd g d.ne
 have place:∀o∈h.O,∀x:Int,0<=x->x<o.o->∀f c:Nat,At h.G (o.Addr+x) f c->(f≠bF h.G h.Z.X.a1->At K (o.Addr+x) f c)/\(f=bF h.G h.Z.X.a1->At K (o.Addr+x) (bF h.G h.Z.X.a3) c/\(c:Int)∈h.Z.X.T):=λo r x u w f c a=>by
  constructor
  ·intro hne
   have j:(o.Addr+x) / 16≠h.Z.X.a1:=λe=>by
    have:=a.f;rw[e]at this;have h3:(ac h.G.F.R h.Z.X.a1).j=_:=d.mf;omega
   exact⟨by rw[J,C8 j];exact a.m,by rw[J,C8 j];exact a.f,a.c⟩
  intro he;have j:=O _ a.m (by rw[<-he];exact a.f);refine⟨⟨by rw[J,C9 j];show(2:Int)≠0;decide,by rw[J,C9 j];exact d.kf,a.c⟩,?_⟩;obtain⟨-,-,b,hb,-,V,-⟩:=D.sp H;have y:c<16:=by have:=a.c;omega
  obtain⟨e1,B,-⟩:=xA F (iP F r ⟨x,u,w,a⟩) hb (by rw[V];exact D.sm H) (by rw[V,he];exact d.mf);refine G.jc H b hb V c y ?_;rw[B];exact e1.2.2.2
 refine⟨⟨λf c y E=>?_,λe=>(by cases e),λe=>(by cases e),λe=>(by cases e),λe=>(by cases e),λq hq=>?_,λe=>(by cases e)⟩,λo r=>⟨r,λx u w=>?_⟩⟩
 ·change cl K f c≠0 at E
  rcases l f c with g|⟨g,-⟩
  rotate_left
  ·exact absurd g E
  rw[g]at E;have W:f≠bF h.G h.Z.X.a1:=λe=>by
   refine E ?_;rw[<-g,e];have X:a8 K=true:=by
    rw[<-N];exact Lw F.ker L d.mm d.km (Ne.symm d.pe)
   refine oU X (λp j C=>?_) c;rw[J]at j C;by_cases B:p=h.Z.X.a1
   ·rw[C9 B]at C
    have h1:(ac (tbl h) h.Z.X.a3).j=(bF h.G h.Z.X.a1:Nat):=C;have h2:=d.kf;exact d.ne ω
   rw[C8 B]at j C;exact B (O p j C)
  rcases G.z f c y E with⟨o,r,x,u,w,a⟩|⟨-,q2,q3⟩
  ·exact .inl ⟨o,r,x,u,w,(place o r x u w f c a).1 W⟩
  rw[n]at q3;have Q:f=bF h.G h.Z.X.a3:=by have:=d.kf;omega
  rw[Q,G.jv H c (by rw[n];exact q3)]at E;rcases G.z _ c y E with⟨o,r,x,u,w,a⟩|⟨-,r2,-⟩
  ·exact .inl ⟨o,r,x,u,w,by rw[Q];exact((place o r x u w _ c a).2 rfl).1⟩
  exact absurd (by have:=d.kf;omega) d.ne
 ·have i:(nth K.F.R.J q).e=1:=hq
  have:=FG (t:=K.F.R) (q:=q) (by rw[i];decide);rw[J]at this;by_cases e:(q:Int)=h.Z.X.a1
  ·rw[C9 e]at this
   rw[<-this]at i;exact absurd i (by show ¬(2:Int)=1;decide)
  rw[C8 e]at this;rw[<-this]at i;obtain⟨a1,a2,a3⟩:=lH (t:=tbl h) (p:=(q:Int)) (by rw[i];decide);rw[a3]at i;exact absurd (by have:=(G.m1 _ i).2.1;omega) e
 have Y:=(cI F r (k:=x) ⟨u,ω⟩).1;have a:=At.mk' F.ker Y;obtain⟨S,T⟩:=place o r x u w _ _ a;show f7 K (o.Addr+x)=f7 h.G (o.Addr+x);by_cases e:cN h.G (o.Addr+x)=bF h.G h.Z.X.a1
 ·obtain⟨Z,g4⟩:=T e
  rw[Z.cell,a.cell,U,e];exact G.jv H _ (by rw[n];exact g4)
 have Z:=S e;rw[Z.cell,a.cell];rcases l (cN h.G (o.Addr+x)) ((o.Addr+x) % 16).toNat with g|⟨-,g⟩
 ·exact g
 exact absurd g e
theorem CI.mStep{h:ab}(w:aZ h [])(l:JI h)(a:CI h)(d:h.u=true):CI (mStep h)/\Kp h (mStep h):=by
 have C:=JP.of w l d;have Z:=l.ph d;obtain⟨jn0,jn2⟩:=a.jn d;obtain⟨-,-,-,n0,n1⟩:=dw.1 (w.job d).1;rw[LB d];have stay:∀(k:ah)(j:cM),k.F=h.G.F->j.X=h.Z.X->j.d=h.Z.d->(j.b2=0↔h.Z.b2=0)->(j.b2=2->j.d=j.X.T.length)->CI (hJ h k j)/\Kp h (hJ h k j):=λk j M u N O e5=>by
  have J:tbl (hJ h k j)=tbl h:=by unfold tbl hJ;rw[M]
  have L:∀f c,cl k f c=cl h.G f c:=λf c=>by unfold cl;rw[M]
  have D:∀o f c,qe h o f c->qe (hJ h k j) o f c:=λo f c=>xc (λp E=>by rw[J];exact⟨E,rfl⟩)
  refine⟨⟨λf c F K=>?_,λ_ c g=>?_,λ_=>?_,λ_=>?_,λ_=>⟨λe=>?_,e5⟩,λq i=>?_,λ_ e=>?_⟩,v7 w rfl (λp E=>by rw[J];exact⟨E,rfl⟩) λo _ f c _=>L f c⟩
  ·change cl k f c≠0 at K
   rw[L]at K;rcases a.z f c F K with⟨o,P,Q⟩|⟨q1,R,G⟩
   ·exact .inl ⟨o,P,D o f c Q⟩
   refine .inr ⟨rfl,?_,?_⟩
   ·rw[J];show(ac (tbl h) j.X.a3).j=f;rw[u];exact R
   show(c:Int)∈j.X.T.take j.d.toNat;rw[u,N];exact G
  ·change (c:Int)∈j.X.T.take j.d.toNat at g
   show cl k (bF k j.X.a3) c=cl k (bF k j.X.a1) c;rw[u,N]at g;rw[u,L,L];unfold bF;rw[M];exact a.jv d c g
  ·show ∀s∈h.K,s.Q=j.X.a3->_
   rw[show(hJ h k j).Z.X=h.Z.X from u,u];exact a.jd d
  ·show ∀s∈h.K,s.Q=j.X.a1->_
   rw[show(hJ h k j).Z.X=h.Z.X from u,u];exact a.jc d
  ·exact(show j.d=h.Z.d from N).trans (jn0 (O.1 e))
  ·rw[J]at i
   obtain⟨q1,R,G⟩:=a.m1 q i;exact⟨rfl,by show(q:Int)=j.X.a1;rw[u];exact R,λe=>G (O.1 e)⟩
  rw[J];show(ac (tbl h) j.X.a1).e=1;rw[u];exact a.m2 d λx=>e (O.2 x)
 have prot:∀H:Int,H=1\/H=2->∀p,(ac (tbl h) p).e≠0->(ac (ja (bZ h.G) h.Z.X.a1 H).F.R p).e≠0/\(ac (ja (bZ h.G) h.Z.X.a1 H).F.R p).j=(ac (tbl h) p).j:=λH hmo p E=>by
  rw[sJ (k:=bZ h.G) C.mm];by_cases e:p=h.Z.X.a1
  ·rw[C9 e,e]
   exact⟨by show H≠0;omega,rfl⟩
  rw[C8 e];exact⟨E,rfl⟩
 unfold gK;by_cases b:jmay h.G h.Z=true;rotate_left
 ·rw[C8 b]
  rw[C8 (by rw[show over (h.G,h.Z).2=over h.Z from rfl,show over h.Z=false from T0 ω];decide)];exact stay h.G h.Z rfl rfl rfl Iff.rfl jn2
 rw[C9 b];unfold jstep;by_cases A:h.Z.b2=0
 ·rw[C9 A]
  have n:=jn0 A;simp only;unfold jA;by_cases B:refd h.G=true
  ·rw[C9 B]
   simp only[Bool.false_eq_true,if_false];rw[C9 (show over {h.Z with b2:=5} = true from O0 (.inr rfl))];refine CI.ended w a d n (λ_ _=>rfl) (λp E=>⟨E,rfl⟩) λq i=>(a.m1 q i).2.2 A
  rw[C8 B];simp only[if_true];rw[C8 (by rw[show over {h.Z with b2:=1} = false from T0 (by show ¬((1:Int)=4\/(1:Int)=5);decide)];decide)];have D:∀o f c,qe h o f c->qe (hJ h (ja (bZ h.G) h.Z.X.a1 1) {h.Z with b2:=1}) o f c:=λo f c=>xc (prot 1 (.inl rfl))
  refine⟨⟨λf c F K=>?_,λ_ c g=>?_,λ_=>a.jd d,λ_=>a.jc d,λ_=>⟨λe=>absurd e (by show ¬(1:Int)=0;decide),λe=>absurd e (by show ¬(1:Int)=2;decide)⟩,λq i=>?_,λ_ _=>?_⟩,v7 w rfl (prot 1 (.inl rfl)) λ_ _ _ _ _=>rfl⟩
  ·rcases a.z f c F K with⟨o,P,Q⟩|⟨-,-,G⟩
   ·exact .inl ⟨o,P,D o f c Q⟩
   rw[n]at G;cases G
  ·change (c:Int)∈h.Z.X.T.take h.Z.d.toNat at g
   rw[n]at g;cases g
  ·refine⟨rfl,?_,by show ¬(1:Int)=0;decide⟩
   show(q:Int)=h.Z.X.a1;refine Classical.byContradiction λS=>?_
   have y:(nth (ja (bZ h.G) h.Z.X.a1 1).F.R.J q).e=1:=i;have:=FG (t:=(ja (bZ h.G) h.Z.X.a1 1).F.R) (q:=q) (by rw[y];decide);rw[sJ (k:=bZ h.G) C.mm,C8 S]at this;rw[<-this]at y;obtain⟨a1,a2,T⟩:=lH (t:=tbl h) (p:=(q:Int)) (by show(ac h.G.F.R q).e≠0;have:(ac h.G.F.R q).e=1:=y;rw[this];decide);have r:(ac (tbl h) q).e=1:=y;rw[T]at r;exact(a.m1 _ r).2.2 A
  show(ac (ja (bZ h.G) h.Z.X.a1 1).F.R h.Z.X.a1).e=1;rw[sJ (k:=bZ h.G) C.mm,C9 rfl]
 rw[C8 A];by_cases U:h.Z.b2=1
 ·rw[C9 U]
  by_cases V:h.Z.d=h.Z.X.T.length
  ·rw[C9 V]
   simp only;rw[C8 (by rw[show over {h.Z with b2:=2} = false from T0 (by show ¬((2:Int)=4\/(2:Int)=5);decide)];decide)];exact stay h.G {h.Z with b2:=2} rfl rfl rfl ⟨λe=>absurd e (by show ¬(2:Int)=0;decide),λe=>absurd e A⟩ λ_=>V
  rw[C8 V];simp only;rw[C8 (by rw[show over {h.Z with d:=h.Z.d+1} = false from T0 (by show ¬(h.Z.b2=4\/h.Z.b2=5);omega)];decide)];exact CI.copied w l a d C U ω
 rw[C8 U];by_cases W:h.Z.b2=2
 ·rw[C9 W]
  simp only;cases B:(vc h.G h.Z.X.a1 h.Z.X.a3).2 with
  | false=>
   simp only[Bool.false_eq_true,if_false];rw[C8 (by rw[show over {h.Z with b2:=3} = false from T0 (by show ¬((3:Int)=4\/(3:Int)=5);decide)];decide)];rw[Lk B];exact stay (bZ h.G) {h.Z with b2:=3} rfl rfl rfl ⟨λe=>absurd e (by show ¬(3:Int)=0;decide),λe=>absurd e A⟩ λe=>absurd e (by show ¬(3:Int)=2;decide)
  | true=>
   rw[C9 rfl];rw[C9 (show over {h.Z with b2:=4} = true from O0 (.inl rfl))];exact CI.meshed w l a d C (jn2 W) (by unfold jmay at b;simp only[I0,C0]at b;exact b.1.2) B
 rw[C8 W];have Y:h.Z.b2=3:=ω
 rw[C9 Y];by_cases X:0<h.Z.d
 ·rw[C9 X]
  simp only;rw[C8 (by rw[show over {h.Z with d:=h.Z.d - 1} = false from T0 (by show ¬(h.Z.b2=4\/h.Z.b2=5);omega)];decide)];exact CI.undone w l a d C Y X
 rw[C8 X];have n:h.Z.d=0:=ω
 simp only;unfold jA;by_cases B:refd h.G=true
 ·rw[C9 B]
  simp only[Bool.false_eq_true,if_false];rw[C8 (by rw[show over {h.Z with b2:=3} = false from T0 (by show ¬((3:Int)=4\/(3:Int)=5);decide)];decide)];exact stay (bZ h.G) {h.Z with b2:=3} rfl rfl rfl ⟨λe=>absurd e (by show ¬(3:Int)=0;decide),λe=>absurd e A⟩ λe=>absurd e (by show ¬(3:Int)=2;decide)
 rw[C8 B];simp only[if_true];rw[C9 (show over {h.Z with b2:=5} = true from O0 (.inr rfl))];refine CI.ended w a d n (λ_ _=>rfl) (prot 2 (.inr rfl)) λq i=>?_
 have:=FG (t:=(ja (bZ h.G) h.Z.X.a1 2).F.R) (q:=q) (by rw[i];decide);rw[sJ (k:=bZ h.G) C.mm]at this;by_cases e:(q:Int)=h.Z.X.a1
 ·rw[C9 e]at this
  rw[<-this]at i;exact absurd i (by show ¬(2:Int)=1;decide)
 rw[C8 e]at this;rw[<-this]at i;obtain⟨a1,a2,T⟩:=lH (t:=tbl h) (p:=(q:Int)) (by have:(ac (tbl h) q).e=1:=i;rw[this];decide);have r:(ac (tbl h) q).e=1:=i;rw[T]at r;exact e (by have:=(a.m1 _ r).2.1;omega)
theorem zP{s:ax}{n c:Nat} : (c:Int)∈sY s n↔c<n/\tN s c=true:=by
 unfold sY;simp only[t4,v4,List.mem_range];constructor
 ·rintro⟨a,⟨b,d⟩,e⟩
  have:a=c:=ω
  subst this;exact⟨b,d⟩
 rintro⟨b,d⟩;exact⟨c,⟨b,d⟩,rfl⟩
theorem NL{a b:ax}(c:meshable a b=true){i:Int}(h:aQ a.b1 i=true):aQ b.b1 i=false:=by
 unfold meshable at c;simp only[I0,C0]at c;obtain⟨-,-,-,d⟩:=c;rw[<-X4];intro e;have f:=(dO _ _).1 h;have g:=(dO _ _).1 e;have:=W0 (λn=>Nat.testBit n i.toNat) d;simp only[Nat.testBit_and,Nat.zero_testBit]at this;rw[f.2.2.2,g.2.2.2]at this;cases this
theorem GG{h:ab}{E:List Int}(a:aZ h E){s u:ax}(b:s∈h.K)(c:u∈h.K)(e:s.Q=u.Q):s=u:=by
 obtain⟨i,d,rfl⟩:=aK b;obtain⟨j,g,rfl⟩:=aK c;rw[cG (f:=(·.Q)) a.L.nd d g e]
theorem CI.begun{h:ab}{E:List Int}(B:aZ h E)(C:CI h)(D:h.u=false){a b:ax}(F:a∈h.K)(G:b∈h.K)(l:meshable a b=true)(sd:Int):CI {h with c0:=sd,u:=true,Z:=t8 (df a b)}:=by
 have n:∃x∈h.K,∃y∈h.K,(df a b).a3=x.Q/\(df a b).a1=y.Q/\(df a b).T=sY y 16/\meshable x y=true:=by
  unfold df;split
  ·exact⟨b,G,a,F,rfl,rfl,rfl,by rw[gE];exact l⟩
  exact⟨a,F,b,G,rfl,rfl,rfl,l⟩
 obtain⟨x,M,y,N,H,J,r,d⟩:=n;generalize df a b=p at H J r;have ecl:x.a=y.a:=by
  unfold meshable at d;simp only[I0,C0]at d;exact d.2.1
 refine⟨λf c g O=>?_,λ_ c j=>absurd j (by show ¬(c:Int)∈p.T.take (0:Int).toNat;simp),λ_ s t n c g j=>?_,λ_ s t n c g u=>?_,λ_=>⟨λ_=>rfl,λe=>absurd e (by show ¬(0:Int)=2;decide)⟩,λq P=>?_,λ_ e=>absurd rfl e⟩
 ·rcases C.z f c g O with⟨o,Q,w⟩|⟨K,-⟩
  ·exact .inl ⟨o,Q,w⟩
  rw[D]at K;cases K
 ·have k:=GG B t M (n.trans H)
  subst k;have i:(c:Int)∈p.T:=j;rw[r]at i;have A:=(zP.1 i).2;unfold tN at A;rw[<-ecl]at A;rw[gE]at d;exact NL d A
 ·have k:=GG B t N (n.trans J)
  subst k;show(c:Int)∈p.T;rw[r];exact zP.2 ⟨g,u⟩
 have L:=(C.m1 q P).1;rw[D]at L;cases L
theorem CI.started{h:ab}(f:aZ h [])(a:CI h)(j:h.u=false):CI (started h).1/\Kp h (started h).1:=by
 have g:=f.nums;unfold cn at g;rw[C0]at g;have d:=nt (bA h) (show 0<=h.c0/\h.c0<=1073741823 by omega);cases e:lI (bA h) h.c0 with
 | nil=>
  have c:Ab.started h=({h with c0:=(shuf (bA h).length h.c0).2},false):=by unfold Ab.started;rw[e]
  rw[c];exact⟨⟨a.z,a.jv,a.jd,a.jc,a.jn,a.m1,a.m2⟩,CY h⟩
 | cons q n=>
  obtain⟨o,p,k⟩:=d q (by rw[e];exact U1 ..);have c:Ab.started h=({h with c0:=(shuf (bA h).length h.c0).2,u:=true,Z:=t8 (df (nth (bA h) q.A.toNat) (nth (bA h) q.B.toNat))},true):=by unfold Ab.started;rw[e]
  rw[c];have b:∀s∈bA h,s∈h.K:=λs l=>m6 h (X2 _) s (List.mem_of_mem_take l)
  exact⟨CI.begun f a j (b _ (am (xs:=bA h) (i:=q.A.toNat) ω)) (b _ (am (xs:=bA h) (i:=q.B.toNat) ω)) k _,CY h⟩
theorem P2(k:ah)(a:Int)(f c:Nat):∀m,cl (zK k a m) f c=cl k f c\/(cl (zK k a m) f c=0/\∃j:Nat,j<m/\f=cN k (a+j)/\c=((a+j) % 16).toNat)
 | 0=>.inl rfl
 | m+1=>by
  have e:cN (zK k a m) (a+m)=cN k (a+m):=by unfold cN;rw[(ov k a m).1]
  rcases qX (zK k a m) (a+m) 0 f c with g|⟨b,h,d⟩
  ·rcases P2 k a f c m with i|⟨b,j,h,d⟩
   ·exact .inl (g.trans i)
   exact .inr ⟨g.trans b,j,ω,d⟩
  exact .inr ⟨b,m,ω,by rw[<-e];exact h,d⟩
theorem E1{k:ah}(h:a8 k=true){a:Int} : ∀{m:Nat},(∀j:Nat,j<m->(ac k.F.R ((a+j) / 16)).e≠0)->∀j:Nat,j<m->cl (zK k a m) (cN k (a+j)) ((a+j) % 16).toNat=0
 | 0,_,_,c=>absurd c (Nat.not_lt_zero _)
 | m+1,d,j,c=>by
  have f:=KZ h (a:=a) (m:=m) λj c=>d j ω
  have i:=(ov k a m).1;have e:∀b,cN (zK k a m) b=cN k b:=λb=>by unfold cN;rw[i]
  rcases qX (zK k a m) (a+m) 0 (cN k (a+j)) ((a+j) % 16).toNat with g|⟨l,-⟩
  ·by_cases n:j=m
   ·subst n
    have:=zY f (a:=a+j) (v:=0) (by rw[i];exact d j ω);rw[e]at this;exact this
   exact g.trans (E1 h (λj c=>d j ω) j ω)
  exact l
theorem zV{h:ab}{E:List Int}(a:aZ h E){o:bz}(e:o∈h.O){k:Nat}(b:k<h.M.length)(n:o.Addr=16*(nth h.M k).Q):o.o=(nth h.M k).o:=by
 have f:=aM (a.L.lok _ (am b));rcases a.oow _ e with⟨s,g,c,-⟩|⟨l,d,p,i⟩
 ·exact absurd (show s.Q=(nth h.M k).Q+((0:Nat):Int) by have:=c.1;have:=c.2.1;omega) (a.L.dis s g _ (am b) 0 ω)
 obtain⟨m,j,rfl⟩:=aK d;have:=a.L.one m k j b 0 0 (by have:=aM (a.L.lok _ d);omega) ω ω;subst this;exact i.symm
theorem rQ{α:Type}[Inhabited α]{xs:List α}{i:Nat}{y z:α}(c:i<xs.length):z∈xs.set i y↔z=y\/∃j,j<xs.length/\j≠i/\nth xs j=z:=by
 refine⟨dN,?_⟩
 rintro(rfl|⟨j,d,b,rfl⟩)
 ·have a:=am (xs:=xs.set i z) (i:=i) (by rw[O1];exact c)
  rw[bB,C9 ⟨rfl,c⟩]at a;exact a
 have a:=am (xs:=xs.set i y) (i:=j) (by rw[O1];exact d);rw[bB,C8 (λx=>b x.1.symm)]at a;exact a
theorem CI.trimH{h:ab}{i k:Nat}{size:Int}(l:aZ h [])(hc:CI h)(V:i<h.O.length)(r:k<h.M.length)(W:(nth h.O i).Addr=16*(nth h.M k).Q)(hz:9<=size/\size<=(nth h.M k).o):CI (trimH h i k size)/\∀o∈h.O,∀j:Int,0<=j->j<o.o->(o=nth h.O i->j<size)->f7 (trimH h i k size).G (o.Addr+j)=f7 h.G (o.Addr+j):=by
 obtain⟨b1,b2⟩:=tX l r;have M:=l.L.lok _ (am r);have hlp:=aM M;have hsz:=zV l (am V) r W;have h8:=M;unfold bC at h8;rw[C0]at h8;have N:a8 (kn h k size)=true:=x9 l r hz (X2 _);have D:(kn h k size).F.R=h.G.F.R:=(ov h.G _ _).1;have hN:((d4 (nth h.M k) size:Nat):Int)=(nth h.M k).a2 - (size+15) / 16:=by unfold d4;omega
 have hte:((tbl h).J.length:Int)=(h.G.F.R.J.length:Int):=rfl;have kl:=KL.unmN N (p:=(nth h.M k).Q+(size+15) / 16) ω (d4 (nth h.M k) size) (by rw[D];omega);have ker:=iB N ((nth h.M k).Q+(size+15) / 16) (d4 (nth h.M k) size);have A:=(fx (kn h k size) ((nth h.M k).Q+(size+15) / 16) (d4 (nth h.M k) size)).1;have hcz:=P2 h.G (16*(nth h.M k).Q+size);have hca:=E1 l.ker (a:=16*(nth h.M k).Q+size) (m:=(16*((size+15) / 16) - size).toNat) λj O=>j8 l r ⟨ω,ω⟩
 have E:(Ab.trimH h i k size).G=unmN (kn h k size) ((nth h.M k).Q+(size+15) / 16) (d4 (nth h.M k) size):=rfl;have F:(Ab.trimH h i k size).O=h.O.set i {nth h.O i with o:=size}:=rfl;have P:(Ab.trimH h i k size).K=h.K:=rfl;have Q:(Ab.trimH h i k size).Z=h.Z:=rfl;have R:(Ab.trimH h i k size).u=h.u:=rfl;generalize Ab.trimH h i k size=h' at E F P Q R |-;have G:∀f c,cl (kn h k size) f c=cl h.G f c\/(cl (kn h k size) f c=0/\∃b:Int,16*(nth h.M k).Q+size<=b/\b<16*((nth h.M k).Q+(size+15) / 16)/\At h.G b f c):=λf c=>by
  rcases hcz f c (16*((size+15) / 16) - size).toNat with g|⟨g,j,w,B,j3⟩
  ·exact .inl g
  refine .inr ⟨g,16*(nth h.M k).Q+size+j,ω,ω,?_⟩;have:=At.mk' l.ker (j8 l r (a:=16*(nth h.M k).Q+size+j) ⟨ω,ω⟩);rw[B,j3];exact this
 have hzv:∀(f c:Nat)(b:Int),16*(nth h.M k).Q+size<=b->b<16*((nth h.M k).Q+(size+15) / 16)->At h.G b f c->cl (kn h k size) f c=0:=λf c b H X d=>by
  have:=hca (b - (16*(nth h.M k).Q+size)).toNat ω;rw[show 16*(nth h.M k).Q+size+((b - (16*(nth h.M k).Q+size)).toNat:Nat)=b by omega]at this;have e:=At.mk' l.ker d.m;obtain⟨u1,u2⟩:=e.uniq d;rw[u1,u2]at this;exact this
 have pout:∀q:Int,¬((nth h.M k).Q+(size+15) / 16<=q/\q<(nth h.M k).Q+(nth h.M k).a2)->ac h'.G.F.R q=ac h.G.F.R q:=λq Y=>by
  rw[E,kl.out q ω,D]
 rw[<-E]at kl ker A;generalize kn h k size=kz at *;have onL:∀b:Int,16*(nth h.M k).Q<=b->b<16*((nth h.M k).Q+(nth h.M k).a2)->∀f c:Nat,At h.G b f c->La h (nth h.O i).Addr f c:=λb H X f c d=>.inr ⟨_,am r,W,b,H,X,d⟩
 have only:∀o∈h.O,∀f c:Nat,qe h o f c->La h (nth h.O i).Addr f c->o=nth h.O i:=λo t f c H X=>by
  have e:=v6 l (iP l t H) X;obtain⟨m,lm,rfl⟩:=aK t;rw[cG (f:=(·.Addr)) (dd l.osr) lm V e]
 have noS:∀s∈h.K,¬((nth h.M k).Q<=s.Q/\s.Q<(nth h.M k).Q+(nth h.M k).a2):=λs J hr=>l.L.dis s J _ (am r) (s.Q - (nth h.M k).Q).toNat ω ω
 have same:∀f c:Nat,cl h'.G f c≠0->cl h.G f c=cl h'.G f c:=λf c C=>by
  rcases kl.cel f c with e|e
  ·rcases G f c with g|⟨g,-⟩
   ·rw[e,g]
   exact absurd (e.trans g) C
  exact absurd e.1 C
 have stay:∀o∈h.O,∀j:Int,0<=j->j<o.o->(o=nth h.O i->j<size)->∀f c:Nat,At h.G (o.Addr+j) f c->At h'.G (o.Addr+j) f c/\cl h'.G f c=cl h.G f c:=λo t j w B O f c d=>by
  have y:qe h o f c:=⟨j,w,B,d⟩
  have n:ac h'.G.F.R ((o.Addr+j) / 16)=ac h.G.F.R ((o.Addr+j) / 16):=by
   refine pout _ λZ=>?_
   have e:=only o t f c y (onL _ ω ω f c d);have:=O e;rw[e,W]at Z;omega
  have u:At h'.G (o.Addr+j) f c:=⟨by rw[n];exact d.m,by rw[n];exact d.f,d.c⟩
  refine⟨u,?_⟩;rcases kl.cel f c with e|⟨-,e⟩
  ·rcases G f c with g|⟨-,b,g1,g2,S⟩
   ·rw[e,g]
   exfalso;have eo:=only o t f c y (onL b ω ω f c S);have hjs:=O eo;have Y:=kq l (am r) (b:=b) ω ω S d.m d.f;have c1:=d.c;have c2:=S.c;rw[eo,W]at Y c1;omega
  exact absurd u.f (e _ u.m)
 refine⟨hc.keep Q R (λq Y=>?_) (λhm=>?_) (λf c _ C=>.inl (same f c C)) (λo t f c h16 y C=>?_) (λhm c _=>?_) (λ_ s' hs' _=>⟨s',by rw[<-P];exact hs',rfl,rfl,λ_ h=>h⟩),λo t j w B O=>?_⟩
 ·have hq':(nth h'.G.F.R.J q).e=1:=Y
  have:=kl.md A q ω;rw[D]at this;show(nth h.G.F.R.J q).e=1;rw[<-this];exact hq'
 ·obtain⟨-,⟨a,ha,T⟩,b,hb,eb⟩:=l.job hm
  exact⟨pout _ λZ=>noS a ha ω,pout _ λZ=>noS b hb ω⟩
 ·obtain⟨j,w,B,d⟩:=y
  by_cases e:o=nth h.O i/\size<=j
  ·exfalso
   obtain⟨e,ej⟩:=e;subst e;by_cases ej2:j<16*((size+15) / 16)
   ·have:=hzv f c ((nth h.O i).Addr+j) ω ω d
    rcases kl.cel f c with g|g
    ·exact C (g.trans this)
    exact C g.1
   refine C (oU ker (λp K hf=>?_) c);by_cases er:(nth h.M k).Q+(size+15) / 16<=p/\p<(nth h.M k).Q+(nth h.M k).a2
   ·exact K (kl.ins p er.1 ω)
   rw[pout p er]at K hf;have:=kq l (am r) (b:=(nth h.O i).Addr+j) ω ω d K hf;omega
  have st:=stay o t j w B (λU=>by have:¬size<=j:=λx=>e ⟨U,x⟩;omega) f c d;by_cases U:o=nth h.O i
  ·refine⟨{nth h.O i with o:=size},by rw[F];exact(rQ V).2 (.inl rfl),j,w,?_,?_⟩
   ·have:¬size<=j:=λx=>e ⟨U,x⟩
    show j<size;omega
   have H:=st.1;rw[U]at H;exact H
  refine⟨o,?_,j,w,B,st.1⟩;rw[F];obtain⟨m,lm,rfl⟩:=aK t;exact(rQ V).2 (.inr ⟨m,lm,λx=>U (by rw[x]),rfl⟩)
 ·have key:∀s∈h.K,cl h'.G (bF h.G s.Q) c=cl h.G (bF h.G s.Q) c:=λs J=>by
   have n:(ac (tbl h) s.Q).e≠0:=by rw[l.pe J];exact(l.mapped J).2.2
   rcases kl.cel (bF h.G s.Q) c with e|⟨-,e⟩
   ·rcases G (bF h.G s.Q) c with g|⟨-,b,g1,g2,S⟩
    ·rw[e,g]
    have:=kq l (am r) (b:=b) ω ω S (q:=s.Q) n (jV l.ker n);exact absurd (show(nth h.M k).Q<=s.Q/\s.Q<(nth h.M k).Q+(nth h.M k).a2 by omega) (noS s J)
   have K:=pout s.Q λZ=>noS s J ω
   refine absurd ?_ (e s.Q (by rw[K];exact n));rw[K];exact jV l.ker n
  obtain⟨-,⟨a,ha,T⟩,b,hb,eb⟩:=l.job hm;rw[<-T,<-eb];exact⟨key a ha,key b hb⟩
 have d:=At.mk' l.ker (cI l t (k:=j) ⟨w,ω⟩).1;obtain⟨s1,s2⟩:=stay o t j w B O _ _ d;rw[s1.cell,d.cell,s2]
theorem DP{α:Type}[Inhabited α](n j:Nat)(y:α):nth (List.replicate n y) j=y\/nth (List.replicate n y) j=default:=by
 by_cases h:j<n
 ·exact .inl (cL h)
 right
 unfold nth;rw[O2,I2 (by rw[R3];omega)];rfl
theorem CI.newHeap(p f t:Nat)(lim:Int)(a:List Int):CI (newHeap p f t lim a):=by
 refine⟨λg c b d=>absurd ?_ d,λe=>(by cases e),λe=>(by cases e),λe=>(by cases e),λe=>(by cases e),λq h=>absurd h ?_,λe=>(by cases e)⟩
 ·show nth (nth (List.replicate f (List.replicate 16 (0:Int))) g) c=0
  rcases DP f g (List.replicate 16 (0:Int)) with e|e<;>rw[e]
  ·exact zh _ _
  rfl
 show ¬(nth (List.replicate p (⟨0,0⟩ : bi)) q).e=1;rcases DP p q (⟨0,0⟩ : bi) with e|e<;>rw[e]
 ·decide
 decide
def ib(k:ah)(o:bz):b9:=⟨o.Id,cellsOf k o.Addr o.o.toNat⟩
structure RS(w:bo):Prop where
 nx:w.b5.d=w.Y.d
 asc:w.b5.O.Pairwise λa b=>a.Id<b.Id
 mem:∀y,y∈w.b5.O↔∃o∈w.Y.O,y=ib w.Y.G o
theorem qi{k b:ah}{a:Int}{n:Nat}(h:∀j:Int,0<=j->j<n->f7 b (a+j)=f7 k (a+j)):cellsOf b a n=cellsOf k a n:=by
 unfold cellsOf;refine List.map_congr_left λj c=>?_
 have:=List.mem_range.1 c;exact h j ω ω
theorem f9{k a:ah}{o:bz}(h:∀j:Int,0<=j->j<o.o->f7 a (o.Addr+j)=f7 k (o.Addr+j)):ib a o=ib k o:=by
 unfold ib;rw[qi λj b c=>h j b ω]
theorem PV{α:Type}[Inhabited α]{R:α->α->Prop}{xs:List α}(h:xs.Pairwise R){i j:Nat}(a:i<j)(b:j<xs.length):R (nth xs i) (nth xs j):=by
 have:=List.pairwise_iff_getElem.1 h i j ω b a;rw[show nth xs i=xs[i] from bj (Z1 ω),show nth xs j=xs[j] from bj (Z1 b)];exact this
theorem RS.at{w:bo}(b:RS w){o:bz}(c:o∈w.Y.O):∃j:Nat,j<w.b5.O.length/\oo w.b5 o.Id=(j:Nat)/\nth w.b5.O j=ib w.Y.G o:=by
 obtain⟨j,a,e⟩:=aK ((b.mem _).2 ⟨o,c,rfl⟩);refine⟨j,a,dX (ao a) (O0 (by rw[e];rfl)) λm z d f=>T0 ?_,e⟩;have g:=PV b.asc d a;rw[bj f,e]at g;have h:(ib w.Y.G o).Id=o.Id:=rfl;omega
theorem RS.lt{w:bo}(a:RS w)(b:aZ w.Y []):∀y∈w.b5.O,1<=y.Id/\y.Id<w.b5.d:=λy c=>by
 obtain⟨o,d,rfl⟩:=(a.mem y).1 c;have:=b.onu o d;rw[a.nx];show 1<=o.Id/\o.Id<w.Y.d;omega
theorem RS.keep{w:bo}(b:RS w){h':ab}(d:h'.O=w.Y.O)(c:Kp w.Y h')(e:h'.d=w.Y.d):RS ⟨h',w.b5⟩:=by
 refine⟨b.nx.trans e.symm,b.asc,λy=>(b.mem y).trans ?_⟩;show _↔∃o∈h'.O,y=ib h'.G o
 constructor
 ·rintro⟨o,f,rfl⟩
  have a:o∈h'.O:=by rw[d];exact f
  exact⟨o,a,(f9 (c o a).2).symm⟩
 rintro⟨o,a,rfl⟩
 exact⟨o,(c o a).1,f9 (c o a).2⟩
theorem RS.alloc{w:bo}(e:RS w)(i:aZ w.Y []){h':ab}{x:bz}(d:Qr w.Y h' x)(k:x.Id=w.Y.d)(g:h'.d=w.Y.d+1)(l:1<=x.o/\x.o<=1000):RS ⟨h',iD w.b5 x.o⟩:=by
 unfold iD;rw[C9 l];have h:ib h'.G x = ⟨w.b5.d,List.replicate x.o.toNat 0⟩:=by
  unfold ib;rw[k,e.nx]
  congr 1
  refine List.eq_replicate_iff.2 ⟨lJ ..,λb f=>?_⟩;unfold cellsOf at f;obtain⟨j,n,rfl⟩:=t4.1 f;have:=List.mem_range.1 n;exact d.ze j ω ω
 refine⟨by show w.b5.d+1=h'.d;rw[g,e.nx],?_,λy=>?_⟩
 ·refine List.pairwise_append.2 ⟨e.asc,List.pairwise_singleton _ _,λa p b f=>?_⟩
  rw[I1.1 f];exact(e.lt i a p).2
 show y∈w.b5.O++[_]↔∃o∈h'.O,y=ib h'.G o
 rw[W2,I1,e.mem];constructor
 ·rintro(⟨o,c,rfl⟩|rfl)
  ·exact⟨o,(d.mem o).2 (.inr c),(f9 (d.ke o c)).symm⟩
  exact⟨x,(d.mem x).2 (.inl rfl),h.symm⟩
 rintro⟨o,c,rfl⟩
 rcases(d.mem o).1 c with rfl|c
 ·exact .inr h
 exact .inl ⟨o,c,f9 (d.ke o c)⟩
theorem RS.free{w:bo}(a:RS w)(p:aZ w.Y []){i:Nat}(h:i<w.Y.O.length){h':ab}(k:h'.O=dele w.Y.O i)(l:Kp w.Y h')(r:h'.d=w.Y.d):RS ⟨h',js w.b5 (nth w.Y.O i).Id⟩:=by
 obtain⟨j,t,u,n⟩:=a.at (am h);unfold js;rw[u,C8 ω];simp only[R2];refine⟨a.nx.trans r.symm,a.asc.sublist (f6 _ _),λy=>?_⟩;show y∈dele w.b5.O j↔∃o∈h'.O,y=ib h'.G o
 rw[cT];constructor
 ·rintro⟨m,c,A,rfl⟩
  obtain⟨o,d,e⟩:=(a.mem _).1 (am c);have b:o∈h'.O:=by
   rw[k];obtain⟨q,g,rfl⟩:=aK d;refine cT.2 ⟨q,g,λx=>A ?_,rfl⟩;subst x;exact cG (f:=(·.Id)) (dd a.asc) c t (by rw[e,n])
  exact⟨o,b,e.trans (f9 (l o b).2).symm⟩
 rintro⟨o,b,rfl⟩
 obtain⟨d,B⟩:=l o b;rw[f9 B];obtain⟨m,c,e⟩:=aK ((a.mem _).2 ⟨o,d,rfl⟩);refine⟨m,c,λx=>?_,e⟩;subst x;rw[k]at b;obtain⟨q,g,C,rfl⟩:=cT.1 b;exact C (cG (f:=(·.Id)) p.oid g h (W0 b9.Id (e.symm.trans n)))
theorem RS.upd{w:bo}(d:RS w)(A:aZ w.Y []){i:Nat}(B:i<w.Y.O.length){h':ab}{x':bz}(C:x'.Id=(nth w.Y.O i).Id)(k:∀o,o∈h'.O↔o=x'\/∃m,m<w.Y.O.length/\m≠i/\nth w.Y.O m=o)(t:∀m,m<w.Y.O.length->m≠i->ib h'.G (nth w.Y.O m)=ib w.Y.G (nth w.Y.O m))(D:h'.d=w.Y.d){j:Nat}(l:j<w.b5.O.length)(n:nth w.b5.O j=ib w.Y.G (nth w.Y.O i)):RS ⟨h',{w.b5 with O:=w.b5.O.set j (ib h'.G x')}⟩:=by
 refine⟨d.nx.trans D.symm,?_,λy=>?_⟩
 ·have u:(w.b5.O.map (·.Id)).Pairwise (λa b=>a<b):=List.pairwise_map.2 d.asc
  rw[<-kE (f:=(·.Id)) (y:=ib h'.G x') l (by rw[n];exact C)]at u;exact List.pairwise_map.1 u
 show y∈w.b5.O.set j _↔∃o∈h'.O,y=ib h'.G o
 rw[rQ l];constructor
 ·rintro(rfl|⟨m,h,p,rfl⟩)
  ·exact⟨x',(k x').2 (.inl rfl),rfl⟩
  obtain⟨o,r,e⟩:=(d.mem _).1 (am h);obtain⟨q,c,rfl⟩:=aK r;have g:q≠i:=λx=>p (by subst x;exact cG (f:=(·.Id)) (dd d.asc) h l (by rw[e,n]))
  exact⟨_,(k _).2 (.inr ⟨q,c,g,rfl⟩),e.trans (t q c g).symm⟩
 rintro⟨o,r,rfl⟩
 rcases(k o).1 r with rfl|⟨q,c,g,rfl⟩
 ·exact .inl rfl
 rw[t q c g];obtain⟨m,h,e⟩:=aK ((d.mem _).2 ⟨_,am c,rfl⟩);refine .inr ⟨m,h,λx=>g ?_,e⟩;subst x;exact cG (f:=(·.Id)) A.oid c B (W0 b9.Id (e.symm.trans n))
theorem RS.store{w:bo}(l:RS w)(g:aZ w.Y [])(h:JI w.Y)(n:CI w.Y){i:Nat}(a:i<w.Y.O.length){j v:Int}(p:0<=j/\j<=(nth w.Y.O i).o - 1)(r:0<=v/\v<=999)(t:(ac (tbl w.Y) (((nth w.Y.O i).Addr+j) / 16)).e≠1):RS ⟨{w.Y with G:=dD w.Y.G ((nth w.Y.O i).Addr+j) v},ee w.b5 (nth w.Y.O i).Id j v⟩:=by
 obtain⟨-,d⟩:=CI.store (v:=v) g h n a p t;obtain⟨b,u,A,k⟩:=l.at (am a);have B:(nth w.b5.O b).T.length=(nth w.Y.O i).o.toNat:=by rw[k];exact lJ ..
 have C:ee w.b5 (nth w.Y.O i).Id j v = {w.b5 with O:=w.b5.O.set b ⟨(nth w.b5.O b).Id,(nth w.b5.O b).T.set j.toNat v⟩}:=by
  unfold ee;rw[A];simp only[R2];rw[C9 ⟨ω,ω,r⟩]
 have D:(⟨(nth w.b5.O b).Id,(nth w.b5.O b).T.set j.toNat v⟩ : b9)=ib (dD w.Y.G ((nth w.Y.O i).Addr+j) v) (nth w.Y.O i):=by
  rw[k];unfold ib;simp only
  congr 1
  refine List.ext_getElem (by simp[cellsOf]) λq K E=>?_
  rw[lJ]at E;rw[List.getElem_set];simp only[cellsOf,List.getElem_map,List.getElem_range];have:=d _ (am a) q ω ω;rw[this];by_cases e:j.toNat=q
  ·rw[C9 e,C9 ⟨rfl,ω⟩]
  rw[C8 e,C8 (λx=>e ω)]
 rw[C,D];refine RS.upd l g a (h':={w.Y with G:=dD w.Y.G ((nth w.Y.O i).Addr+j) v}) rfl (λo=>?_) (λm c F=>?_) rfl u k
 ·show o∈w.Y.O↔_
  constructor
  ·intro G
   obtain⟨m,c,rfl⟩:=aK G;by_cases e:m=i
   ·subst e;exact .inl rfl
   exact .inr ⟨m,c,e,rfl⟩
  rintro(rfl|⟨m,c,-,rfl⟩)
  ·exact am a
  exact am c
 refine f9 λx H J=>?_
 show f7 (dD w.Y.G _ v) _=_;rw[d _ (am c) x H J,C8 (λy=>F (cG (f:=(·.Addr)) (dd g.osr) c a (by rw[y.1])))]
theorem AQ(k:ah)(a:Int){n m:Nat}(h:m<=n):(cellsOf k a n).take m=cellsOf k a m:=by
 unfold cellsOf;rw[<-Y3,List.take_range,Nat.min_eq_left h]
theorem RS.trim{w:bo}(g:RS w)(d:aZ w.Y [])(p:CI w.Y){i k:Nat}{size:Int}(a:i<w.Y.O.length)(h:k<w.Y.M.length)(l:(nth w.Y.O i).Addr=16*(nth w.Y.M k).Q)(q:9<=size/\size<=(nth w.Y.M k).o):RS ⟨trimH w.Y i k size,fm w.b5 (nth w.Y.O i).Id size⟩:=by
 obtain⟨-,c⟩:=CI.trimH d p a h l q;have r:=zV d (am a) h l;obtain⟨b,t,u,e⟩:=g.at (am a);have A:(nth w.b5.O b).T.length=(nth w.Y.O i).o.toNat:=by rw[e];exact lJ ..
 have B:fm w.b5 (nth w.Y.O i).Id size = {w.b5 with O:=w.b5.O.set b ⟨(nth w.b5.O b).Id,(nth w.b5.O b).T.take size.toNat⟩}:=by
  unfold fm;rw[u];simp only[R2];rw[C9 ⟨ω,ω,ω⟩]
 have C:(⟨(nth w.b5.O b).Id,(nth w.b5.O b).T.take size.toNat⟩ : b9)=ib (trimH w.Y i k size).G {nth w.Y.O i with o:=size}:=by
  rw[e];unfold ib;simp only;rw[AQ _ _ ω]
  congr 1
  refine(qi λj D H=>?_).symm;exact c _ (am a) j D ω λ_=>ω
 rw[B,C];refine RS.upd g d a (h':=trimH w.Y i k size) (x':={nth w.Y.O i with o:=size}) rfl (λo=>rQ a) (λm n E=>?_) rfl t e;refine f9 λx F G=>c _ (am n) x F G λy=>absurd (cG (f:=(·.Addr)) (dd d.osr) n a (by rw[y])) E
theorem DS(h:ab)(i:Nat)(a:Int):(freeS h i a).d=h.d:=by unfold freeS;split<;>rfl
theorem Kb(t:Nat)(h:ab)(a:Int):(recyc t h a).d=h.d:=by
 unfold recyc;split
 ·rfl
 exact DS h (tO h a) a
theorem td(t:Nat):∀(az:List Int)(h:ab),(recycs t h az).d=h.d
 | [],_=>rfl
 | a::az,h=>(td t az (recyc t h a)).trans (Kb t h a)
theorem te:∀(az:List Int)(h:ab),(freeAs h az).d=h.d
 | [],_=>rfl
 | a::az,h=>(te az (freeA h a)).trans (DS h (tO h a) a)
theorem zv(t:Nat)(h:ab):∀k,(flushN t h k).1.d=h.d/\(flushN t h k).1.O=h.O
 | 0=>⟨rfl,rfl⟩
 | k+1=>by
  obtain⟨a,b⟩:=zv t h k;exact⟨(te _ _).trans a,(iv _ _).2.1.trans b⟩
theorem D9(h:ab)(t i:Nat):(EH h t i).d=h.d/\(EH h t i).O=dele h.O i:=⟨td _ _ _,(gm _ _ _).2.1⟩
theorem EY(h:ab)(t i:Nat):(freeT h t i).1.d=h.d/\(((freeT h t i).2=0/\(freeT h t i).1.O=dele h.O i)\/((freeT h t i).2=5/\(freeT h t i).1=h)):=by
 unfold freeT
 repeat' split
 ·exact⟨rfl,.inl ⟨rfl,rfl⟩⟩
 ·exact⟨rfl,.inr ⟨rfl,rfl⟩⟩
 ·exact⟨(D9 h t i).1,.inl ⟨rfl,(D9 h t i).2⟩⟩
 ·exact⟨rfl,.inl ⟨rfl,rfl⟩⟩
 exact⟨rfl,.inr ⟨rfl,rfl⟩⟩
theorem F5(h:ab):∀n,(stN h n).1.d=h.d/\(stN h n).1.O=h.O
 | 0=>⟨rfl,rfl⟩
 | n+1=>by
  obtain⟨a,b⟩:=F5 h n;unfold stN;split
  ·exact⟨a,b⟩
  exact⟨a,b⟩
theorem CI.stN{h:ab}(a:aZ h [])(b:JI h)(c:CI h):∀n,CI (stN h n).1/\Kp h (stN h n).1
 | 0=>⟨c,CY h⟩
 | n+1=>by
  obtain⟨g,i⟩:=wm a b n;obtain⟨d,f⟩:=CI.stN a b c n;unfold Ab.stN;split
  ·rename_i e
   unfold tF at e;rw[I0]at e;obtain⟨j,k⟩:=CI.mStep g i d e.1;exact⟨j,f.trans k⟩
  exact⟨d,f⟩
theorem xM(h:ab):(started h).1.d=h.d/\(started h).1.O=h.O:=by
 unfold started;split<;>exact⟨rfl,rfl⟩
structure CW(w:bo):Prop where
 ci:CI w.Y
 rs:RS w
theorem CW.keep{w:bo}(h:CW w){g:ab}(a:CI g/\Kp w.Y g)(b:g.O=w.Y.O)(c:g.d=w.Y.d):CW ⟨g,w.b5⟩:=⟨a.1,h.rs.keep b a.2 c⟩
theorem CW.obj{w:bo}{m:Nat}(h:rz w m)(c:CW w)(a:eE){i:Nat}(b:i<w.Y.O.length):CW (mY w a i).1:=by
 unfold mY;split
 ·unfold ro
  split
  ·exact c
  split
  ·rename_i q
   unfold mZ at q;have l:=CI.freeT (t:=a.a4.toNat) h.inv h.ji c.ci b ω;obtain⟨r,u⟩:=EY w.Y a.a4.toNat i;refine⟨l.1,?_⟩;show RS ⟨(freeT w.Y a.a4.toNat i).1,if _ then _ else _⟩;rcases u with⟨f,d⟩|⟨f,d⟩
   ·rw[C9 f];exact c.rs.free h.inv b d l.2 r
   rw[C8 (by rw[f];decide),d];exact c.rs
  exact c
 split
 ·unfold oP
  split
  ·exact c
  rename_i g;split
  ·exact c
  rename_i n;split
  ·exact c
  rename_i j;have g:=Classical.not_not.1 g;have j:=Classical.not_not.1 j;exact⟨(CI.store h.inv h.ji c.ci b g n).1,RS.store c.rs h.inv h.ji c.ci b g j n⟩
 unfold rL;split
 ·rename_i e
  obtain⟨-,f,d⟩:=e;obtain⟨o,y,A⟩:=fp _ _ f;have k:=of_decide_eq_true y;have p:=k.symm.trans (Int.mul_comm _ _);exact⟨(CI.trimH h.inv c.ci b o p d).1,RS.trim c.rs h.inv c.ci b o p d⟩
 exact c
theorem CW.thread{w:bo}{m:Nat}(h:rz w m)(c:CW w)(a:eE):CW ⟨(fU w.Y a).1,w.b5⟩:=by
 have b:=c.ci;unfold fU;split
 ·split
  ·exact CW.keep (g:={w.Y with q:=fJ w.Y.q a.a4.toNat}) c ⟨⟨b.z,b.jv,b.jd,b.jc,b.jn,b.m1,b.m2⟩,CY w.Y⟩ rfl rfl
  exact c
 split
 ·exact c
 rename_i e;have e:=Classical.not_not.1 e;obtain⟨-,i⟩:=e;unfold mZ at i;split
 ·exact c.keep (CI.collect (t:=a.a4.toNat) h.inv b ω) (gm _ _ _).2.1 (td _ _ _)
 have j:a.a4.toNat<w.Y.S.length:=ω
 have f:=CI.flushN h.inv j b (X2 4);have d:=zv a.a4.toNat w.Y 4;generalize flushN a.a4.toNat w.Y 4=r at f d |-;exact CW.keep (g:=r.1) c f d.2 d.1
theorem CW.act{w:bo}{m:Nat}(h:rz w m)(c:CW w)(a:eE):CW (o9 w a).1:=by
 unfold o9;split
 ·have b:=CI.allocH (t:=a.a4) (size:=a.N) h.inv h.ji c.ci
  refine⟨b.ci,?_⟩;show RS ⟨(allocH w.Y a.a4 a.N).1,if _ then _ else _⟩;split
  ·rename_i e
   obtain⟨d,f,g,i,-⟩:=b.yes e;exact RS.alloc (x:=⟨w.Y.d,(allocH w.Y a.a4 a.N).2.1,a.N,a.a4⟩) c.rs h.inv d rfl f ⟨g,i⟩
  rename_i e;obtain⟨j,k,l,-⟩:=b.no e;exact c.rs.keep j k l
 split
 ·split
  ·exact c
  rename_i e;exact c.obj h a (fp _ _ (by unfold qr at e;omega)).1
 split
 ·exact c.thread h a
 split
 ·unfold pL
  split
  ·rename_i e
   exact c.keep (CI.tick h.inv c.ci e.2.1.1 e.2.2) (iv _ _).2.1 (te _ _)
  exact c
 split
 ·unfold pF
  split
  ·exact c
  rename_i e;exact c.keep (CI.started h.inv c.ci (by simpa using e)) (xM _).2 (xM _).1
 split
 ·exact c.keep (CI.stN h.inv h.ji c.ci _) (F5 _ _).2 (F5 _ _).1
 exact c
theorem HZ(c:cE):CW (world0 c):=⟨CI.newHeap ..,rfl,List.Pairwise.nil,λy=>⟨λh=>(by cases h),λ⟨_,h,_⟩=>(by cases h)⟩⟩
theorem LM{c:cE}(h:Fw c)(acts:List eE):∀n,CW (AX c acts n).1
 | 0=>HZ c
 | n+1=>(LM h acts n).act (vS h acts n) _
theorem Mx(zs:List Int):CW (drawn zs):=LM (rG (U0 _)).1 _ _
def sm{α:Type}(f:α->Int):List α->Int
 | []=>0
 | a::l=>f a+sm f l
open Go.RowKit
set_option maxRecDepth 20000
set_option maxHeartbeats 4000000
theorem DY{α:Type}[Inhabited α](xs:List α)(j:Nat)(b:α)(a:j<xs.length)(c:Nat):nth (xs.set j b) c=if c=j then b else nth xs c:=by
 unfold nth;rw[O2,O2];by_cases h:c=j
 ·subst h;rw[C9 rfl,O3 a];rfl
 rw[C8 h,List.getElem?_set_ne (λe=>h e.symm)]
theorem Pw{c:Nat}(a:c<16):nth (List.replicate 16 false) c=false:=bj (by rw[List.getElem?_replicate,C9 a])
theorem wP{α:Type}[Inhabited α]{xs:List α}{f:α->Bool}{i:Nat}(a:i<xs.length):(xs.take (i+1)).any f=((xs.take i).any f || f (nth xs i)):=by
 rw[Y4,ao a,List.any_append];simp
theorem yo(h:ab)(p:Nat)(e:ab.sml h)(o:dM h=true)(q:p<dC h)(r:(nth (tbl h).J p).e≠0):ar Tryz.prog 88 false [.val (some 3) (aU.enc .V h.G.F),.val none [I (p:Nat)]] .one (aG .own (nM h p)):=by
 obtain⟨a,-⟩:=m7 o;have c:vo h:=e.1.1.2;have g:=gt h.G.F.R (p:Nat) c;obtain⟨k,t⟩:=En a ((p:Nat):Int);rw[eZ q]at g k t;have l:=ao (xs:=h.G.F.W.T) (i:=(nth h.G.F.R.J p).j.toNat) ω;have d:=(M8 a (j:=(nth h.G.F.R.J p).j.toNat) ω).1;have b:nM h p=nth h.G.F.W.T (nth h.G.F.R.J p).j.toNat:=rfl;rw[<-b]at l d;have u:(nth h.G.F.R.J p).e≠0:=r;have n:=oB h.G.F e.1.1;rw[show dz h.G.F=true by unfold a8 at a;simp only[I0]at a;exact a.1.2]at n;refine fO 26 [] Tryz.func88 rfl ?_ (.inr (bM _))
 repeat'(first|refine gA ?_|(conv=>whnf);first|with_reducible refine CN k (aa l) ?_|refine C7 (g) ?_|refine C7 (n) ?_|refine C7 (yP (nM h p) ω) ?_)
 rfl
def K4(h:ab)(p c:Nat)(s:ax):Bool:=decide (s.Q∈aN h (p:Nat))&&ku s c
def kr(h:ab)(p:Nat):List Bool:=(List.range 16).map (tc h p)
theorem uL(h:ab)(p:Nat){c:Nat}(a:c<16):nth (kr h p) c=tc h p c:=bj (by unfold kr;simp[a])
theorem yn(h:ab)(p:Nat)(O:ab.sml h)(W:dM h=true)(hp:p<dC h):ar Tryz.prog 89 false [.val (some 24) (ab.enc .V h),.val none [I (p:Nat)]] .one (jY .own (kr h p)):=by
 obtain⟨k1,X,-⟩:=m7 W;have Y:=qx.of X;have E:vo h:=O.1.1.2;have Z:dC h<=1048576:=E.1;have hl1:=O.2.2.1.1;have hl2:=O.2.2.2.1.1;have P:=nP h (p:Nat) E;have hpl:=fX h (p:Nat);refine fO 71 [] Tryz.func89 rfl ?_ (.inr (JF _))
 repeat'(first|refine gO ?_|(conv=>whnf);first|refine Mk.mk 16 rfl rfl (by decide) (by decide) rfl ?_|refine C7 (P) ?_)
 (conv=>whnf)
 refine CF (ι:=Nat × List Bool) (λq=>[(1,.H .one [I ((p:Nat))]),(2,.H .box (ab.enc .V h)),(5,.H .one (jY .own q.2)),(6,.H .one (aG .own (aN h (p:Nat)))),(19,.H .one (bY .V h.K)),(20,.H .one [I (h.K.length)]),(21,.H .one [I ((q.1:Nat):Int)])]) (λq=>q.1<=h.K.length/\q.2.length=16/\∀c,c<16->nth q.2 c=(h.K.take q.1).any (K4 h p c)) (λq=>h.K.length - q.1) ((0,List.replicate 16 false)) ?_ (⟨U0 _,by simp,λc j=>Pw j⟩) λq Q=>?_
 ·exact wB
 obtain⟨i,L⟩:=q;obtain⟨hi,y,t⟩:=Q;simp only at hi y t |-;by_cases B:i<h.K.length
 ·have J:=ao B
  have K:=wG (aN h (p:Nat)) (nth h.K i).Q ω;by_cases e:(nth h.K i).Q∈aN h (p:Nat)
  ·rw[O0 e]at K
   have c3:=nZ (nth h.K i) (Y.sok _ (am B));have hcl:=oK (nth h.K i) 16
   repeat'(first|refine gD ?_|(conv=>whnf);first|with_reducible refine CD (aa J) ?_|refine CH (K) ⟨⟨rfl,dZ _⟩,⟨rfl,rfl⟩,trivial⟩ ?_|refine C7 (c3) ?_)
   (conv=>whnf)
   refine CF (ι:=Nat × List Bool) (λk=>[(1,.H .one [I ((p:Nat))]),(2,.H .box (ab.enc .V h)),(5,.H .one (jY .own k.2)),(6,.H .one (aG .own (aN h (p:Nat)))),(19,.H .one (bY .V h.K)),(20,.H .one [I (h.K.length)]),(21,.H .one [I ((i:Nat):Int)]),(30,.H .one (aG .own (iX (nth h.K i) 16))),(31,.H .one [I ((iX (nth h.K i) 16).length)]),(32,.H .one [I ((k.1:Nat):Int)])]) (λk=>k.1<=(iX (nth h.K i) 16).length/\k.2.length=16/\∀c,c<16->nth k.2 c=(nth L c || decide (((c:Nat):Int)∈(iX (nth h.K i) 16).take k.1))) (λk=>(iX (nth h.K i) 16).length - k.1) ((0,L)) ?_ (⟨U0 _,y,λc j=>by simp⟩) λk D=>?_
   ·exact wB
   obtain⟨k,u⟩:=k;obtain⟨D,d,g⟩:=D;simp only at D d g |-;by_cases M:k<(iX (nth h.K i) 16).length
   ·have R:=ao M
    obtain⟨c0,hc0,-,hce⟩:=G1.1 (am M);have a:=ao (xs:=u) (i:=(nth (iX (nth h.K i) 16) k).toNat) ω
    repeat'(first|refine gD ?_|(conv=>whnf);first|with_reducible (first|refine CD (aa R) ?_|refine CN ω (aa a) ?_)|refine CJ rfl (aa R) rfl ?_|refine CP rfl rfl (aa a) rfl (C1 rfl) rfl ?_)
    ((conv=>whnf)
     refine CE (k+1,u.set (nth (iX (nth h.K i) 16) k).toNat true) ⟨(by simp only;omega),(by simp only;rw[O1];exact d),λc j=>?_⟩ (by simp only;omega) ?_)
    ·simp only
     rw[DY _ _ _ ω,g c j,Y4,R];by_cases F:c=(nth (iX (nth h.K i) 16) k).toNat
     ·rw[C9 F]
      have:((c:Nat):Int)=nth (iX (nth h.K i) 16) k:=ω
      simp[this]
     rw[C8 F];have:((c:Nat):Int)≠nth (iX (nth h.K i) 16) k:=ω
     simp[this]
    (repeat'(first|exact trivial|rfl|exact CL rfl (CL (W0 (C.s dI.own) (by simp only[I5];rfl)) trivial)|refine CL ?_ ?_))
   obtain rfl:k=(iX (nth h.K i) 16).length:=ω
   rw[U4]at g
   repeat'(first|refine gD ?_|fail)
   ((conv=>whnf);refine CE (i+1,u) ⟨(by simp only;omega),d,λc j=>by simp only;rw[g c j,wP B,t c j];congr 1;unfold K4;rw[O0 e,Bool.true_and,O4,C0,G1];exact Iff.intro (λ⟨P,_,S,h3⟩=>(show c=P by omega) ▸ S) (λS=>⟨c,j,S,rfl⟩)⟩ (by simp only;omega) ?_;(exact wB))
  rw[T0 e]at K
  repeat'(first|refine gD ?_|(conv=>whnf);first|with_reducible refine CD (aa J) ?_|refine CH (K) ⟨⟨rfl,dZ _⟩,⟨rfl,rfl⟩,trivial⟩ ?_)
  ((conv=>whnf);refine CE (i+1,L) ⟨(by simp only;omega),y,λc j=>by simp only;rw[wP B,t c j];unfold K4;rw[T0 e];simp⟩ (by simp only;omega) ?_;(exact wB))
 obtain rfl:i=h.K.length:=ω
 rw[U4]at t
 repeat'(first|refine gD ?_|fail)
 (conv=>whnf)
 refine CF (ι:=Nat × List Bool) (λq=>[(1,.H .one [I ((p:Nat))]),(5,.H .one (jY .own q.2)),(42,.H .one (bS .V h.M)),(43,.H .one [I (h.M.length)]),(44,.H .one [I ((q.1:Nat):Int)])]) (λq=>q.1<=h.M.length/\q.2.length=16/\∀c,c<16->nth q.2 c=(nth L c || (h.M.take q.1).any λl=>aY l (16*(p:Nat)+(c:Nat)))) (λq=>h.M.length - q.1) ((0,L)) ?_ (⟨U0 _,y,λc j=>by simp⟩) λq Q=>?_
 ·exact wB
 obtain⟨i,G⟩:=q;obtain⟨T,o,r⟩:=Q;simp only at T o r |-;by_cases B:i<h.M.length
 ·have J:=ao B
  repeat'(first|refine gD ?_|(conv=>whnf);first|with_reducible refine CD (aa J) ?_)
  (conv=>whnf)
  refine CF (ι:=Nat × List Bool) (λk=>[(1,.H .one [I ((p:Nat))]),(5,.H .one (jY .own k.2)),(12,.H .box (a7.enc .V (nth h.M i))),(42,.H .one (bS .V h.M)),(43,.H .one [I (h.M.length)]),(44,.H .one [I ((i:Nat):Int)]),(49,.H .one [I (16)]),(50,.H .one [I ((k.1:Nat):Int)])]) (λk=>k.1<=16/\k.2.length=16/\∀c,c<16->nth k.2 c=(nth G c || (decide (c<k.1)&&aY (nth h.M i) (16*(p:Nat)+(c:Nat))))) (λk=>16 - k.1) ((0,G)) ?_ (⟨U0 _,o,λc j=>by simp⟩) λk D=>?_
  ·exact wB
  obtain⟨k,u⟩:=k;obtain⟨D,d,g⟩:=D;simp only at D d g |-;by_cases M:k<16
  ·have a:=ao (xs:=u) (i:=k) ω
   have w:=g k M;rw[T0 (Nat.lt_irrefl k),Bool.false_and,Bool.or_false]at w;have U:=mj (nth h.M i) ((p:Nat)*16+(k:Nat));have V:((p:Nat):Int)*16+(k:Nat)=16*(p:Nat)+(k:Nat):=ω
   have n:∀b,b=(nth G k || aY (nth h.M i) (16*(p:Nat)+(k:Nat)))->∀c,c<16->nth (u.set k b) c=(nth G c || (decide (c<k+1)&&aY (nth h.M i) (16*(p:Nat)+(c:Nat)))):=λb hb c j=>by
    rw[DY _ _ _ ω];by_cases F:c=k
    ·subst F;rw[C9 rfl,hb,O0 ω,Bool.true_and]
    rw[C8 F,g c j]
    congr 2
    exact decide_eq_decide.2 ω
   cases eb:nth u k<;>rw[eb]at a w
   ·cases N:aY (nth h.M i) ((p:Nat)*16+(k:Nat))<;>rw[N]at U<;>rw[V]at N
    ·repeat'(first|refine gD ?_|(conv=>whnf);first|with_reducible refine CD (aa a) ?_|refine CJ rfl (aa a) rfl ?_|refine CP rfl rfl (aa a) rfl (C1 rfl) rfl ?_|refine C7 (U) ?_)
     ((conv=>whnf)
      refine CE (k+1,u.set k false) ⟨(by simp only;omega),(by simp only;rw[O1];exact d),n false (by rw[<-w,N];rfl)⟩ (by simp only;omega) ?_)
     (repeat'(first|exact trivial|rfl|exact CL rfl (CL (W0 (C.s dI.own) (by simp only[I5];rfl)) trivial)|refine CL ?_ ?_))
    repeat'(first|refine gD ?_|(conv=>whnf);first|with_reducible refine CD (aa a) ?_|refine CJ rfl (aa a) rfl ?_|refine CP rfl rfl (aa a) rfl (C1 rfl) rfl ?_|refine C7 (U) ?_)
    ((conv=>whnf)
     refine CE (k+1,u.set k true) ⟨(by simp only;omega),(by simp only;rw[O1];exact d),n true (by rw[<-w,N];rfl)⟩ (by simp only;omega) ?_)
    (repeat'(first|exact trivial|rfl|exact CL rfl (CL (W0 (C.s dI.own) (by simp only[I5];rfl)) trivial)|refine CL ?_ ?_))
   repeat'(first|refine gD ?_|(conv=>whnf);first|with_reducible refine CD (aa a) ?_|refine CJ rfl (aa a) rfl ?_|refine CP rfl rfl (aa a) rfl (C1 rfl) rfl ?_)
   ((conv=>whnf)
    refine CE (k+1,u.set k true) ⟨(by simp only;omega),(by simp only;rw[O1];exact d),n true (by rw[<-w];rfl)⟩ (by simp only;omega) ?_)
   (repeat'(first|exact trivial|rfl|exact CL rfl (CL (W0 (C.s dI.own) (by simp only[I5];rfl)) trivial)|refine CL ?_ ?_))
  obtain rfl:k=16:=ω
  repeat'(first|refine gD ?_|fail)
  ((conv=>whnf);refine CE (i+1,u) ⟨(by simp only;omega),d,λc j=>by simp only;rw[g c j,wP B,r c j,O0 j,Bool.true_and,Bool.or_assoc]⟩ (by simp only;omega) ?_;(exact wB))
 obtain rfl:i=h.M.length:=ω
 rw[U4]at r;have H:G=kr h p:=Px (by rw[o];simp[kr]) λc j=>by
  rw[o]at j;rw[uL h p j,r c j,t c j]
  rfl
 rw[H]
 repeat'(first|refine gD ?_|fail)
 rfl
theorem vH(h:ab)(p:Nat)(g:ab.sml h)(d:dM h=true)(l:p<dC h)(C:(nth (tbl h).J p).e≠0):ar Tryz.prog 30 false [.val (some 24) (ab.enc .V h),.val none [I (p:Nat)]] .one [B (kO h p)]:=by
 have cH:=oH h g;rw[tG,d]at cH;obtain⟨t,-⟩:=m7 d;obtain⟨D,E⟩:=En t ((p:Nat):Int);rw[eZ l]at D E;have n:(nM h p).length=16:=(M8 t (j:=(nth h.G.F.R.J p).j.toNat) ω).1;have F:(kr h p).length=16:=by simp[kr]
 have o:(nM h p).map (rI .own)≠[]:=λe=>by have:=W0 List.length e;rw[Z0,n]at this;cases this
 refine fO 39 [] Tryz.func30 rfl ?_
 repeat'(first|refine gO ?_|(conv=>whnf);first|refine C7 (cH) ?_|refine C7 (yo h p g d l C) ?_|refine Nn.mk o ?_|refine C7 (yn h p g d l) ?_)
 (conv=>whnf)
 refine CF (ι:=Nat) (λk=>[(5,.H .one (aG .own (nM h p))),(6,.H .one (jY .own (kr h p))),(22,.c2 5 0 [] none),(23,.H .one [I (16)]),(24,.H .one [I ((k:Nat):Int)])]) (λk=>k<=16/\cQ k (λc=>decide (nth (nM h p) c=0) || tc h p c)=true) (λk=>16 - k) 0 ?_ ⟨U0 _,rfl⟩ λk u=>?_
 ·exact wB
 obtain⟨u,q⟩:=u;by_cases w:k<16
 ·have a:=ao (xs:=nM h p) (i:=k) ω
  have b:=ao (xs:=kr h p) (i:=k) ω;rw[uL h p w]at b;by_cases y:nth (nM h p) k=0
  ·repeat'(first|refine gA ?_|(conv=>whnf);first|with_reducible refine CD (aa a) ?_|refine CJ rfl (aa a) rfl ?_)
   ((conv=>whnf);refine CE (k+1) ⟨ω,bJ q (by rw[O0 y];rfl)⟩ ω ?_;(exact wB))
  cases r:tc h p k<;>rw[r]at b
  ·repeat'(first|refine gA ?_|(conv=>whnf);first|with_reducible (first|refine CD (aa a) ?_|refine CD (aa b) ?_)|refine CJ rfl (aa a) rfl ?_|refine CJ rfl (aa b) rfl ?_)
   exact W0 (λz=>[B z]) ((cj w (by rw[T0 y,r];rfl)).symm)
  repeat'(first|refine gA ?_|(conv=>whnf);first|with_reducible (first|refine CD (aa a) ?_|refine CD (aa b) ?_)|refine CJ rfl (aa a) rfl ?_|refine CJ rfl (aa b) rfl ?_)
  ((conv=>whnf);refine CE (k+1) ⟨ω,bJ q (by rw[r,Bool.or_true])⟩ ω ?_;(exact wB))
 obtain rfl:k=16:=ω
 repeat'(first|refine gD ?_|fail)
 exact W0 (λz=>[B z]) (q.symm)
set_option maxHeartbeats 2000000
theorem Kq{h:ab}(a:aZ h [])(r:JI h)(J:CI h){p:Nat}(D:p<dC h)(t:(nth (tbl h).J p).e≠0)(K:h.u=true->(p:Int)≠h.Z.X.a3):kO h p=true:=by
 have e:ac (tbl h) (p:Int)=nth (tbl h).J p:=eZ D;have f:(ac (tbl h) (p:Int)).e≠0:=by rw[e];exact t
 have g:=jV a.ker (p:=(p:Int)) f;have i:(nth (tbl h).J p).j=(bF h.G p:Nat):=by rw[<-e];exact g
 unfold kO;refine cz.2 λc w=>?_
 have k:nth (nM h p) c=cl h.G (bF h.G p) c:=by
  unfold nM cl;rw[show(nth (tbl h).J p).j.toNat=bF h.G p by omega]
 rw[k];by_cases y:cl h.G (bF h.G p) c=0
 ·rw[O0 y];rfl
 rw[T0 y,Bool.false_or];unfold tc;rcases J.z _ c w y with⟨o,E,n⟩|⟨A,M,W⟩
 ·rcases a.oow o E with⟨s,N,F,X⟩|⟨l,d,O,Y⟩
  ·rcases iP a E n with⟨u,B,P,Q,R,Z⟩|⟨l,d,O,-⟩
   ·rw[O5]
    refine .inl (V3.2 ⟨u,B,?_⟩);obtain⟨m1,m2,S⟩:=a.mapped B;rw[I0];refine⟨O0 ?_,?_⟩
    ·rw[eC D t,i]
     have T:u.Q=((u.Q.toNat:Nat):Int):=ω
     rw[T];refine dA.2 ⟨ω,S,?_⟩;rw[<-a.pe B];exact Q
    unfold ku;rw[R];exact P.2.2.2
   exfalso;have:=aM (a.L.lok l d);exact a.L.dis s N l d 0 ω (by have:=F.1;have:=F.2.1;omega)
  rw[O5];refine .inr (V3.2 ⟨l,d,?_⟩);obtain⟨j,j1,j2,q⟩:=n;have G:=a.L.lok l d;have H:=G;unfold bC at H;rw[C0]at H;have hq:=kq a d (b:=o.Addr+j) ω ω q f g;have U:=q.c;unfold aY;rw[G,Bool.true_and];exact O0 ω
 exfalso;have:=r.sk A p t;have C:=(a.jobM A).1;obtain⟨a1,a2,V⟩:=lH C;refine K A (this ?_);rw[i,<-V,M]
def kF(h:ab):Nat->Nat
 | 0=>0
 | n+1=>if(nth (tbl h).J n).e≠0/\kO h n=true then kF h n+1 else kF h n
theorem G8(h:ab):∀n,kF h n<=n
 | 0=>X2 _
 | n+1=>by have:=G8 h n;unfold kF;split<;>omega
theorem Mz{h:ab}(o:aZ h [])(g:JI h)(q:CI h):(kF h (dC h):Int)<=dv (tbl h)/\((kF h (dC h):Int)=dv (tbl h)\/h.u=true/\(kF h (dC h):Int)=dv (tbl h) - 1):=by
 have key:∀n,n<=dC h->∃d:Nat,d<=1/\fh bN (tbl h).J n=(kF h n:Int)+d/\(d=1->h.u=true/\h.Z.X.a3<n):=by
  intro n
  induction n with
  | zero=>intro _;exact⟨0,ω,rfl,λe=>ω⟩
  | succ n r=>
   intro C;obtain⟨d,l,D,b⟩:=r ω;have t:fh bN (tbl h).J (n+1)=fh bN (tbl h).J n+bN (nth (tbl h).J n):=rfl;rw[t];by_cases c:(nth (tbl h).J n).e=0
   ·have i:bN (nth (tbl h).J n)=0:=by unfold bN;rw[c];rfl
    have f:kF h (n+1)=kF h n:=by show(if _ then _ else _)=_;rw[C8 (λx=>x.1 c)]
    rw[i,f];exact⟨d,l,ω,λe=>⟨(b e).1,by have:=(b e).2;omega⟩⟩
   have i:bN (nth (tbl h).J n)=1:=by
    unfold bN;rw[C9 c]
   rw[i];cases a:kO h n with
   | true=>
    have f:kF h (n+1)=kF h n+1:=by show(if _ then _ else _)=_;rw[C9 ⟨c,a⟩]
    rw[f];exact⟨d,l,ω,λe=>⟨(b e).1,by have:=(b e).2;omega⟩⟩
   | false=>
    have f:kF h (n+1)=kF h n:=by show(if _ then _ else _)=_;rw[C8 (λx=>by rw[a]at x;cases x.2)]
    rw[f];have j:h.u=true/\(n:Int)=h.Z.X.a3:=by
     refine Classical.byContradiction λk=>?_
     have:=Kq o g q (p:=n) ω c λu w=>k ⟨u,w⟩
     rw[a]at this;cases this
    have y:d=0:=by
     by_cases e:d=1
     ·have:=(b e).2;omega
     omega
    subst y;exact⟨1,ω,ω,λ_=>⟨j.1,ω⟩⟩
 obtain⟨d,E,A,B⟩:=key (dC h) (X2 _);have e:dv (tbl h)=fh bN (tbl h).J (dC h):=rfl;rw[e,A];refine⟨ω,?_⟩;by_cases e:d=1
 ·exact .inr ⟨(B e).1,ω⟩
 exact .inl ω
theorem yq(h:ab)(p:Nat)(b:ab.sml h)(c:p<dC h)(d:(nth (tbl h).J p).e=0):ar Tryz.prog 88 false [.val (some 3) (aU.enc .V h.G.F),.val none [I (p:Nat)]] .one [.v (.slice none 0 0)]:=by
 have a:=gt h.G.F.R (p:Nat) b.1.1.2;rw[eZ c]at a;have e:(nth h.G.F.R.J p).e=0:=d;refine fP 26 [(6000004,[])] [] Tryz.func88 rfl ?_
 repeat'(first|refine gA ?_|(conv=>whnf);first|refine C7 (a) ?_)
 rfl
theorem vN(h:ab)(p:Nat)(a:ab.sml h)(b:dM h=true)(c:p<dC h)(d:(nth (tbl h).J p).e=0):ar Tryz.prog 30 false [.val (some 24) (ab.enc .V h),.val none [I (p:Nat)]] .one [B false]:=by
 have cH:=oH h a;rw[tG,b]at cH;have e:=yq h p a c d;refine fO 39 [] Tryz.func30 rfl ?_
 repeat'(first|refine gO ?_|(conv=>whnf);first|refine C7 (cH) ?_|refine C7 (e) ?_)
 rfl
theorem Cleared_law(zs:List Int)(u:zs.length<=9223372036854775807/\∀y∈zs,0<=y/\y<=255):ar Tryz.prog 7 false [.val none (QL zs)] .one [B true]:=by
 have d:=Qi zs u.1;by_cases C:(zs.length:Int) > 1048576
 ·rw[O0 C]at d
  refine fO 59 [] Tryz.func7 rfl ?_
  repeat'(first|refine gO ?_|(conv=>whnf);first|refine C7 (d) ?_)
  rfl
 rw[T0 C]at d;have F:jR zs:=⟨ω,u.2⟩
 have cD:=xC zs F;have b:=Dj zs;have j:=Mx zs;obtain⟨e,G⟩:=HC zs;generalize drawn zs=w at *;have l:=b.inv;have o:=l.to;have H:dC w.Y<=32:=l.lens.ents;have J:w.Y.G.F.R.J.length=dC w.Y:=rfl;have D:=tQ w.Y.G.F.R e.1.1.2;have p:=wI w.Y e o;obtain⟨K,g⟩:=Mz l b.ji j.ci;change (kF w.Y (dC w.Y):Int)<=dv w.Y.G.F.R at K;change (kF w.Y (dC w.Y):Int)=dv w.Y.G.F.R\/_/\(kF w.Y (dC w.Y):Int)=dv w.Y.G.F.R - 1 at g;have q:=λn=>G8 w.Y n
 refine fO 59 [] Tryz.func7 rfl ?_
 repeat'(first|refine gO ?_|(conv=>whnf);first|refine C7 (d) ?_|refine C7 (cD) ?_)
 (conv=>whnf)
 refine CF (ι:=Nat) (λk=>[(4,.H .box (ab.enc .own w.Y)),(5,.H .one [I ((kF w.Y k:Nat):Int)]),(6,.H .one [I ((k:Nat):Int)])]) (λk=>k<=dC w.Y) (λk=>dC w.Y - k) (0) ?_ (U0 _) λk O=>?_
 ·exact wC
 have L:=q k;by_cases E:k<dC w.Y
 ·by_cases h:(nth (tbl w.Y).J k).e=0
  ·have a:=vN w.Y k e o E h
   have c:kF w.Y (k+1)=kF w.Y k:=by show(if _ then _ else _)=_;rw[C8 (λx=>x.1 h)]
   repeat'(first|refine gD ?_|(conv=>whnf);first|refine CH (a) ⟨⟨rfl,ab.enc_fz _⟩,⟨rfl,rfl⟩,trivial⟩ ?_)
   ((conv=>whnf);refine CE (k+1) ω ω ?_)
   rw[c];exact wC
  have a:=vH w.Y k e o E h;cases i:kO w.Y k with
  | true=>
   rw[i]at a;have c:kF w.Y (k+1)=kF w.Y k+1:=by show(if _ then _ else _)=_;rw[C9 ⟨h,i⟩]
   repeat'(first|refine gD ?_|(conv=>whnf);first|refine CH (a) ⟨⟨rfl,ab.enc_fz _⟩,⟨rfl,rfl⟩,trivial⟩ ?_)
   ((conv=>whnf);refine CE (k+1) ω ω ?_)
   rw[c];exact wC
  | false=>
   rw[i]at a;have c:kF w.Y (k+1)=kF w.Y k:=by show(if _ then _ else _)=_;rw[C8 (λx=>by rw[i]at x;cases x.2)]
   repeat'(first|refine gD ?_|(conv=>whnf);first|refine CH (a) ⟨⟨rfl,ab.enc_fz _⟩,⟨rfl,rfl⟩,trivial⟩ ?_)
   ((conv=>whnf);refine CE (k+1) ω ω ?_)
   rw[c];exact wC
 obtain rfl:k=dC w.Y:=ω
 have M:(pN w.Y).c8=dv w.Y.G.F.R:=rfl;generalize pN w.Y=A at p M;obtain⟨m,r⟩ : ∃m,dv w.Y.G.F.R=m:=⟨_,rfl⟩
 rw[r]at *;rcases g with g|⟨N,g⟩
 ·repeat'(first|refine gA ?_|(conv=>whnf);first|refine CH (D) ⟨⟨rfl,CZ _⟩,trivial⟩ ?_|refine CH (p) ⟨⟨rfl,ab.enc_fz _⟩,trivial⟩ ?_)
  exact W0 (λz=>[B z]) (O0 ω)
 repeat'(first|refine gA ?_|(conv=>whnf);first|refine Bf.t N ?_|refine CH (D) ⟨⟨rfl,CZ _⟩,trivial⟩ ?_|refine CH (p) ⟨⟨rfl,ab.enc_fz _⟩,trivial⟩ ?_)
 exact W0 (λz=>[B z]) (O0 ω)
open Go.RowKit Go.ChangeShapes Go.WideShapes Go.Deep
def ALL(w:World):af:=λb _=>b<w.heap.size
def QT{H:Type}(e:TypeId × Value->H)(P:Program)(w:World)(t n:Nat){α:Type}(enc:α->List C)(c:α->Prop):Prop:=
 ∀(fuel:Nat)(b:List Value)(x:DataW H × List MemPlace),DataW.trod e P w 0 (λ_=>true) true fuel t b=some x->b.length=n/\∃a,c a/\(enc a).length=n/\dc w (ALL w) NO (enc a) (λj=>b.getD j undef)
section
variable{H:Type}{e:TypeId × Value->H}{P:Program}{w:World}
theorem B6{S F:af}{c:C}{u:Nat->Value}(h:eL w S F c (u 0)):dc w S F [c] u:=
 ⟨λ_=>F,λj e a=>by cases j with
   | zero=>simp at a;subst a;exact h
   | succ j=>simp at a,λ_ _ _ _ h=>h,λj f a b d=>by simp at a b;omega⟩
theorem pick{α β:Type}(n:Nat){Q:Nat->β->Prop}(h:∀i,i<n->∃b,Q i b):∃l:List β,l.length=n/\∀i b,l[i]? = some b->Q i b:=by
 induction n with
 | zero=>exact⟨[],rfl,λi b h=>by simp at h⟩
 | succ n c=>
  obtain⟨l,d,e⟩:=c λi a=>h i ω
  obtain⟨b,f⟩:=h n ω;refine⟨l++[b],by simp[d],λi g a=>?_⟩;by_cases j:i<n
  ·rw[z4 ω]at a;exact e i g a
  rw[C4 ω]at a;have:i - l.length=0:=by
   have:=(C2.1 a).1;simp at this;omega
  rw[this]at a;simp at a;subst a;rw[show i=n by omega];exact f
theorem LE{t T n:Nat}{α:Type}{enc:α->List C}{U:α->Prop}(V:QT e P w T n enc U)(ht:P.underlying t=some (.slice T))(hn:P.cellsOf T=n)(p:0<n) :
  QT e P w t 1 (λxs:List α=>[.s .V (xs.map enc)]) (λxs=>xs.length<=9223372036854775807/\∀y∈xs,U y):=by
 intro fuel cs x h;rcases open_slice ht h with⟨rfl,-⟩|⟨k,len,cap,m,n',D,Pl,rfl,-,hl,hm,K,-,u⟩
 ·exact⟨rfl,[],⟨by simp,by simp⟩,rfl,B6 (.nil _ _ _ trivial)⟩
 simp only[if_true]at K;subst K;have L:0<m->k.spot=none:=λW=>by
  obtain⟨E,M,N⟩:=u 0 W;rw[hn]at M;obtain⟨_,X,F⟩:=World.cells?_some M;have:=F 0 p;rw[Z1 ω]at this;have:=World.cell?_spot this;simpa[Addr.add] using this
 have key:∀i,i<len->∃a,U a/\(enc a).length=n/\(∀d,d<n->∃z,cel w k.block (k.off+(i*n+d))=some z)/\k.spot=none/\dc w (ALL w) NO (enc a) (λd=>(cel w k.block (k.off+(i*n+d))).getD undef):=λi hil=>by
  have g:=L ω;obtain⟨E,M,N⟩:=u i ω;rw[hn]at M;obtain⟨h1,a,h3,h4,h5⟩:=V _ _ _ N;obtain⟨_,X,F⟩:=World.cells?_some M;have O:∀d,k.add d = ⟨k.block,k.off+d,none⟩:=λd=>by
   obtain⟨b,o,sp⟩:=k;simp only at g;subst g;unfold Addr.add;split<;>simp_all
  have A:∀d,d<n->cel w k.block (k.off+(i*n+d))=E[d]?:=λd J=>by
   have:=F d J;rw[Go.Deep.add_add,O]at this;exact this
  refine⟨a,h3,h4,λd J=>⟨_,by rw[A d J,Z1 ω]⟩,g,h5.congr λd J=>?_⟩;show(cel w k.block (k.off+(i*n+d))).getD undef=E.getD d undef;rw[A d ω,List.getD]
 obtain⟨l,Q,B⟩:=pick (α:=α) len key;refine⟨rfl,l,⟨by simp only[maxLen]at hm;omega,λy R=>?_⟩,rfl,B6 ?_⟩
 ·obtain⟨i,G⟩:=List.mem_iff_getElem?.1 R
  exact(B i y G).1
 show eL w (ALL w) NO (.s .V (l.map enc)) (.slice (some k) len m);by_cases h0:len=0
 ·subst h0
  have:l=[]:=I6 Q;subst this;by_cases Y:m=0
  ·subst Y;exact .nil _ _ _ trivial
  have g:=L ω;obtain⟨b,o,sp⟩:=k;simp only at g;subst g;exact .V _ b o n 0 m [] (λ_=>undef) rfl (λr Z=>by simp at Z) hl (λq hq=>by simp at hq) (λi j r c u=>by simp at u)
 obtain⟨y0,hy0⟩ : ∃y,l[0]? = some y:=⟨_,Z1 ω⟩
 have g:=(B 0 y0 hy0).2.2.2.1;obtain⟨b,o,sp⟩:=k;simp only at g;subst g;refine .V _ b o n len m (l.map enc) (λq=>(cel w b (o+q)).getD undef) (by simpa using Q) (λr Z=>?_) hl (λq hq=>?_) (λi j r c u hj=>?_)
 ·obtain⟨y,R,rfl⟩:=t4.1 Z
  obtain⟨i,G⟩:=List.mem_iff_getElem?.1 R;exact(B i y G).2.1
 ·have hqd:q / n<len:=(Nat.div_lt_iff_lt_mul p).2 hq
  obtain⟨y,R⟩ : ∃y,l[q / n]? = some y:=⟨_,Z1 ω⟩
  obtain⟨z,S⟩:=(B _ y R).2.2.1 (q % n) (Nat.mod_lt _ p);have J:q / n*n+q % n=q:=by rw[Nat.mul_comm];exact Nat.div_add_mod q n
  rw[J]at S;exact⟨PH S,by simp only at S |-;rw[S];rfl⟩
 rw[Z2]at u;cases H:l[i]? with
 | none=>rw[H]at u;cases u
 | some y=>
  rw[H]at u;simp only[V4,X0]at u;subst u;obtain⟨f,h1,h2,-⟩:=(B i y H).2.2.2.2;have hjl:=(C2.1 hj).1;exact(h1 j c hj).mono (λ_ _ h=>h) (h2 j hjl)
theorem row_val{S F:af}{x:Value}{u:Nat->Value}(h:dc w S F [.v x] u):u 0=x:=by
 obtain⟨f,a,-⟩:=h;have:=a 0 _ rfl;cases this
 rfl
end
open Go.RowKit Go.ChangeShapes Go.WideShapes
section
variable{H:Type}{e:TypeId × Value->H}{P:Program}{w:World}
theorem Nr{t:Nat}(b:P.underlying t=some (.int .u8)):QT e P w t 1 rU (λz=>0<=z/\z<=255):=by
 intro fuel c x h;obtain⟨n,rfl,-,a⟩:=DataW.trod_int b h;refine⟨rfl,n,?_,rfl,B6 (.v _ _ rfl)⟩;simp only[Lit.wf,I0,C0]at a;exact a
theorem op_ByteS:QT e Tryz.prog w 22 1 (λzs:List Int=>[.s .V (zs.map rU)]) (λzs=>zs.length<=9223372036854775807/\∀y∈zs,0<=y/\y<=255):=LE (Nr Tryz.underlying5) Tryz.underlying22 (by kernel_rfl) (by decide)
end
end Go.Proofs.YtecefhjnejfheaaGreat.Ab
