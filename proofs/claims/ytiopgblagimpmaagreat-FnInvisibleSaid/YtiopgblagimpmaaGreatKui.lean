/- Jobs: what objects hold is kept at every step. No condition. -/
import Derived.Test.YtiopgblagimpmaaGreatKuc
import Derived.Test.YtiopgblagimpmaaGreatKuh
import Derived.Test.YtiopgblagimpmaaGreatKug
import Derived.Test.YtiopgblagimpmaaGreatKuf
import Derived.Test.YtiopgblagimpmaaGreatProg
import Derived.WalkKit
import Derived.Handy
import Derived.Deep.Draws
import Derived.Lib.Hide
import Derived.Lib.SliceRun
import Derived.StillTailTactics
import Derived.Shelf.SlGeneric
import Derived.Shelf.SlSortCmp.NoneTotal
import Derived.Ground.SlsfProg
import Derived.Test.YtiopgblagimpmaaGreatKud
import Derived.ProofKit
import Derived.OpenShut
import Derived.Deep.Slices
import Derived.Deep.Fields
import Derived.ChangeSame
import Derived.WideShapes
set_option linter.unusedVariables false
set_option linter.defProp false
set_option linter.unusedSimpArgs false
set_option linter.constructorNameAsVariable false
namespace Go.Proofs.YtiopgblagimpmaaGreat.Ab
structure JP(h:ac):Prop where
 km:(af (tbl h) h.Y.W.a3).e≠0
 mm:(af (tbl h) h.Y.W.a0).e≠0
 kf:(af (tbl h) h.Y.W.a3).j=(bN h.G h.Y.W.a3:Nat)
 mf:(af (tbl h) h.Y.W.a0).j=(bN h.G h.Y.W.a0:Nat)
 ne:bN h.G h.Y.W.a3≠bN h.G h.Y.W.a0
 pe:h.Y.W.a3≠h.Y.W.a0
 k2:CI h->(af (tbl h) h.Y.W.a3).e≠1
variable{h:ac}
def JP.of{E:List Int}(g:aX h E)(i:JI h)(j:h.k=true):JP h:=by
 obtain⟨k,b⟩:=g.jobM j;have a:=(dM.1 (g.job j).1).1;unfold fj at a;simp only[I0,C0]at a;have c:=a.2.2.2.2.2;have l:=mr g.ker k;have n:=mr g.ker b;obtain⟨t,u,o⟩:=nz k;obtain⟨w,y,q⟩:=nz b;refine⟨k,b,l,n,λe=>c ?_,c,λr p=>?_⟩
 ·have d:(af (tbl h) h.Y.W.a3).j=(bN h.G h.Y.W.a3:Nat):=l
  have f:(af (tbl h) h.Y.W.a0).j=(bN h.G h.Y.W.a0:Nat):=n;rw[o]at d;rw[q]at f b;have:=i.sk j h.Y.W.a0.toNat b (by rw[d,f,e]);omega
 rw[o]at p;have:=(r.m1 _ p).2.1;omega
def hJ(h:ac)(k:am)(j:dE):ac:={h with G:=k,k:=true,Y:=j}
def hE(h:ac)(k:am):ac:={h with G:=k,k:=false,Y:=⟨⟨0,0,[]⟩,0,0⟩}
def Rm(a:h.k=true):mStep h=if over (gm h.G h.Y).2=true then hE h (gm h.G h.Y).1 else hJ h (gm h.G h.Y).1 (gm h.G h.Y).2:=by
 unfold mStep hE hJ;split
 ·rfl
 rw[a]
variable{h':ac}
def xg{E:List Int}(g:aX h E)(l:h'.O=h.O)(n:∀p,(af (tbl h) p).e≠0->(af (tbl h') p).e≠0/\(af (tbl h') p).j=(af (tbl h) p).j)(q:∀o∈h.O,∀f c,qW h o f c->cl h'.G f c=cl h.G f c):Kp h h':=λo e=>by
 rw[l]at e;refine⟨e,λj i r=>?_⟩;have b:=(cX g e (k:=j) ⟨i,ω⟩).1;have a:=At.mk' g.ker b;obtain⟨t,u⟩:=n _ b;have d:At h'.G (o.Addr+j) (dG h.G (o.Addr+j)) ((o.Addr+j) % 16).toNat:=⟨t,u.trans a.f,a.c⟩
 rw[d.cell,a.cell];exact q o e _ _ ⟨j,i,r,a⟩
variable{f c:Nat}{o:aU}
def zn(b:∀p,(af (tbl h) p).e≠0->(af (tbl h') p).e≠0/\(af (tbl h') p).j=(af (tbl h) p).j)(d:qW h o f c):qW h' o f c:=by
 obtain⟨j,e,g,a⟩:=d;obtain⟨i,k⟩:=b _ a.m;exact⟨j,e,g,i,k.trans a.f,a.c⟩
variable{p:Int}{k:am}
def tM{m:Int}(b:(af k.F.Q p).e≠0)(q:Int):af (jI k p m).F.Q q=if q=p then {af k.F.Q p with e:=m} else af k.F.Q q:=by
 obtain⟨c,d,g⟩:=nz b;have f:(jI k p m).F.Q.J.length=k.F.Q.J.length:=by unfold jI;simp
 unfold af;rw[f];by_cases e:0<=q/\q<k.F.Q.J.length
 ·rw[CD e,CD e]
  unfold jI;simp only[bz];by_cases a:q=p
  ·rw[CD a,CD ⟨ω,ω⟩,CD ⟨c,d⟩]
  rw[CC a,CC ω]
 rw[CC e,CC e,CC ω]
def JC{t:aL}{q:Nat}(h:(nth t.J q).e≠0):af t (q:Int)=nth t.J q:=by
 have:=th h;unfold af;rw[CD ⟨ω,ω⟩];rfl
def CI.ended{E:List Int}(l:aX h E)(n:CI h)(u:h.k=true)(r:h.Y.b=0)(g:∀f c,cl k f c=cl h.G f c)(i:∀p,(af (tbl h) p).e≠0->(af k.F.Q p).e≠0/\(af k.F.Q p).j=(af (tbl h) p).j)(h1:∀q:Nat,(nth k.F.Q.J q).e≠1):CI (hE h k)/\Kp h (hE h k):=by
 refine⟨⟨λf c a b=>?_,λe=>(by cases e),λe=>(by cases e),λe=>(by cases e),λe=>(by cases e),λq t=>absurd t (h1 q),λe=>(by cases e)⟩,xg l rfl i λo j f c _=>g f c⟩;change cl k f c≠0 at b;rw[g]at b;rcases n.z f c a b with⟨o,j,d⟩|⟨-,-,e⟩
 ·exact .inl ⟨o,j,zn i d⟩
 rw[r]at e;cases e
def Ms{p:cH}(h:fj p=true){i:Nat} : ∀{j:Nat},i<j->j<p.V.length->nth p.V i<nth p.V j
 | 0,a,_=>absurd a (Nat.not_lt_zero i)
 | j+1,a,d=>by
  have b:=h;unfold fj at b;simp only[I0]at b;have c:=fw b.1 d;unfold mX at c;rw[C0]at c;have f:nth p.V j<nth p.V (j+1):=c.2.2.resolve_left ω;by_cases e:i=j
  ·rw[e];exact f
  have:=Ms h (i:=i) (j:=j) ω ω;omega
def rT(k:am)(a:Nat)(b v:Int)(f c:Nat):cl (setCell k a b v) f c=cl k f c\/(cl (setCell k a b v) f c=v/\f=a/\c=b.toNat):=by
 unfold cl setCell;simp only[bz];by_cases e:a=f/\f<k.F.X.V.length
 ·rw[CD e,bz]
  by_cases d:b.toNat=c/\c<(nth k.F.X.V a).length
  ·rw[CD d];exact .inr ⟨rfl,e.1.symm,d.1.symm⟩
  rw[CC d,e.1];exact .inl rfl
 rw[CC e];exact .inl rfl
def ry(c:aF k=true){a v:Int}(e:(af k.F.Q p).e≠0)(g:0<=a/\a<=15):cl (setCell k (bN k p) a v) (bN k p) a.toNat=v:=by
 have d:=(gW c e).1;have b:=(xN c (f:=bN k p) d).1;unfold cl setCell;show nth (nth (List.set _ _ _) _) _=v;rw[bz];rw[CD ⟨rfl,d⟩,bz,CD ⟨rfl,by rw[b];omega⟩]
def HG{b v:Int}{j:dE}(d:qW h o f c):qW (hJ h (setCell h.G (bN h.G p) b v) j) o f c:=by
 obtain⟨x,e,g,a⟩:=d;exact⟨x,e,g,⟨a.m,a.f,a.c⟩⟩
def Mr{j:dE}(a:aX h [])(b:JI h)(q:CI h)(l:h.k=true)(r:JP h){d:Int}(n:d∈h.Y.W.V)(v:Int):Kp h (hJ h (setCell h.G (bN h.G h.Y.W.a3) d v) j):=by
 obtain⟨k,t,e⟩:=aN n;have u:=gu (dM.1 (a.job l).1).1 t;refine xg a rfl (λp w=>⟨w,rfl⟩) λo y f c i=>?_
 rcases rT h.G (bN h.G h.Y.W.a3) d v f c with g|⟨-,A,B⟩
 ·exact g
 exfalso;refine tH a b q l (kq a y i) ω ?_ (by rw[A];exact r.kf);rw[B,Int.toNat_of_nonneg ω];exact n
def CI.copied(r:aX h [])(t:JI h)(b:CI h)(k:h.k=true)(n:JP h)(N:h.Y.a9=1)(O:0<=h.Y.b/\h.Y.b<h.Y.W.V.length):CI (hJ h (tQ h.G h.Y.W.a0 h.Y.W.a3 (nth h.Y.W.V h.Y.b.toNat)) {h.Y with b:=h.Y.b+1})/\Kp h (hJ h (tQ h.G h.Y.W.a0 h.Y.W.a3 (nth h.Y.W.V h.Y.b.toNat)) {h.Y with b:=h.Y.b+1}):=by
 have d:h.Y.b.toNat<h.Y.W.V.length:=ω
 have l:=au d;have u:=gu (dM.1 (r.job k).1).1 d;have i:h.Y.W.V.take (h.Y.b+1).toNat=h.Y.W.V.take h.Y.b.toNat++[nth h.Y.W.V h.Y.b.toNat]:=by
  rw[show(h.Y.b+1).toNat=h.Y.b.toNat+1 by omega,Y7,ax d];rfl
 unfold tQ;have w:=ry r.ker (p:=h.Y.W.a3) (v:=nth (nth h.G.F.X.V (bN h.G h.Y.W.a0)) (nth h.Y.W.V h.Y.b.toNat).toNat) n.km u;have j:=rT h.G (bN h.G h.Y.W.a3) (nth h.Y.W.V h.Y.b.toNat) (nth (nth h.G.F.X.V (bN h.G h.Y.W.a0)) (nth h.Y.W.V h.Y.b.toNat).toNat);refine⟨⟨λf c y H=>?_,λ_ c a=>?_,λ_=>b.jd k,λ_=>b.jc k,λ_=>⟨λe=>absurd e (by show ¬h.Y.a9=0;omega),λe=>absurd e (by show ¬h.Y.a9=2;omega)⟩,λq J=>?_,λ_ _=>b.m2 k ω⟩,Mr r t b k n l _⟩
 ·rcases j f c with g|⟨-,A,B⟩
  ·have C:cl h.G f c≠0:=by rw[<-g];exact H
   rcases b.z f c y C with⟨o,K,L⟩|⟨M,D,E⟩
   ·exact .inl ⟨o,K,HG L⟩
   refine .inr ⟨rfl,D,?_⟩;show(c:Int)∈h.Y.W.V.take (h.Y.b+1).toNat;rw[i];exact I4.2 (.inl E)
  refine .inr ⟨rfl,?_,?_⟩
  ·show(af (tbl h) h.Y.W.a3).j=f;rw[A];exact n.kf
  show(c:Int)∈h.Y.W.V.take (h.Y.b+1).toNat;rw[i,B,Int.toNat_of_nonneg ω];exact I4.2 (.inr (C2.2 rfl))
 ·change (c:Int)∈h.Y.W.V.take (h.Y.b+1).toNat at a
  show cl (setCell h.G (bN h.G h.Y.W.a3) _ _) (bN h.G h.Y.W.a3) c=cl (setCell h.G (bN h.G h.Y.W.a3) _ _) (bN h.G h.Y.W.a0) c;have F:cl (setCell h.G (bN h.G h.Y.W.a3) (nth h.Y.W.V h.Y.b.toNat) (nth (nth h.G.F.X.V (bN h.G h.Y.W.a0)) (nth h.Y.W.V h.Y.b.toNat).toNat)) (bN h.G h.Y.W.a0) c=cl h.G (bN h.G h.Y.W.a0) c:=by
   rcases j (bN h.G h.Y.W.a0) c with g|⟨-,A,-⟩
   ·exact g
   exact absurd A.symm n.ne
  rw[F];by_cases G:(c:Int)=nth h.Y.W.V h.Y.b.toNat
  ·have:c=(nth h.Y.W.V h.Y.b.toNat).toNat:=ω
   rw[this,w];rfl
  rw[i]at a;rcases I4.1 a with a|a
  ·rcases j (bN h.G h.Y.W.a3) c with g|⟨-,-,B⟩
   ·rw[g];exact b.jv k c a
   exact absurd (by rw[B,Int.toNat_of_nonneg ω]) G
  exact absurd (C2.1 a) G
 obtain⟨M,D,E⟩:=b.m1 q J;exact⟨rfl,D,E⟩
def CI.undone(y:aX h [])(A:JI h)(b:CI h)(r:h.k=true)(l:JP h)(p3:h.Y.a9=3)(hp:0<h.Y.b):CI (hJ h {h.G with F:=(iP h.G.F (h.Y.W.a3*16+nth h.Y.W.V (h.Y.b - 1).toNat) 0).1} {h.Y with b:=h.Y.b - 1})/\Kp h (hJ h {h.G with F:=(iP h.G.F (h.Y.W.a3*16+nth h.Y.W.V (h.Y.b - 1).toNat) 0).1} {h.Y with b:=h.Y.b - 1}):=by
 obtain⟨t,-,-,n0,n1⟩:=dM.1 (y.job r).1;have a:(h.Y.b - 1).toNat<h.Y.W.V.length:=ω
 have u:=au a;have B:=gu t a;have O:=(nz l.km).1;have P:(h.Y.W.a3*16+nth h.Y.W.V (h.Y.b - 1).toNat) / 16=h.Y.W.a3:=ω
 have Q:(h.Y.W.a3*16+nth h.Y.W.V (h.Y.b - 1).toNat) % 16=nth h.Y.W.V (h.Y.b - 1).toNat:=ω
 have C:(af h.G.F.Q h.Y.W.a3).e≠0:=l.km;have D:(af h.G.F.Q h.Y.W.a3).e≠1:=l.k2 b;have R:({h.G with F:=(iP h.G.F (h.Y.W.a3*16+nth h.Y.W.V (h.Y.b - 1).toNat) 0).1} : am)=setCell h.G (bN h.G h.Y.W.a3) (nth h.Y.W.V (h.Y.b - 1).toNat) 0:=by
  unfold iP;rw[P,Q,CC C,CC D]
  rfl
 rw[R];have n:=rT h.G (bN h.G h.Y.W.a3) (nth h.Y.W.V (h.Y.b - 1).toNat) 0;have w:h.Y.W.V.take h.Y.b.toNat=h.Y.W.V.take (h.Y.b - 1).toNat++[nth h.Y.W.V (h.Y.b - 1).toNat]:=by
  rw[show h.Y.b.toNat=(h.Y.b - 1).toNat+1 by omega,Y7,ax a];rfl
 have E:nth h.Y.W.V (h.Y.b - 1).toNat∉h.Y.W.V.take (h.Y.b - 1).toNat:=λF=>by
  obtain⟨k,S,T⟩:=aN F;rw[O2]at S;have G:nth (h.Y.W.V.take (h.Y.b - 1).toNat) k=nth h.Y.W.V k:=by
   refine bk ?_;rw[List.getElem?_take,CD ω];exact ax ω
  rw[G]at T;have:=Ms t (i:=k) (j:=(h.Y.b - 1).toNat) ω a;omega
 refine⟨⟨λf c H J=>?_,λ_ c p=>?_,λ_=>b.jd r,λ_=>b.jc r,λ_=>⟨λe=>absurd e (by show ¬h.Y.a9=0;omega),λe=>absurd e (by show ¬h.Y.a9=2;omega)⟩,λq U=>?_,λ_ _=>b.m2 r ω⟩,Mr y A b r l u _⟩
 ·rcases n f c with g|⟨V,-,-⟩
  ·have K:cl h.G f c≠0:=by rw[<-g];exact J
   rcases b.z f c H K with⟨o,W,X⟩|⟨Y,L,d⟩
   ·exact .inl ⟨o,W,HG X⟩
   rw[w]at d;rcases I4.1 d with d|d
   ·exact .inr ⟨rfl,L,d⟩
   exfalso;have ec:=C2.1 d;have M:f=bN h.G h.Y.W.a3:=by have:=l.kf;omega
   refine J ?_;show cl (setCell h.G (bN h.G h.Y.W.a3) _ 0) f c=0;rw[M,show c=(nth h.Y.W.V (h.Y.b - 1).toNat).toNat by omega];exact ry y.ker l.km B
  exact absurd V J
 ·change (c:Int)∈h.Y.W.V.take (h.Y.b - 1).toNat at p
  show cl (setCell h.G (bN h.G h.Y.W.a3) _ 0) (bN h.G h.Y.W.a3) c=cl (setCell h.G (bN h.G h.Y.W.a3) _ 0) (bN h.G h.Y.W.a0) c;have N:cl (setCell h.G (bN h.G h.Y.W.a3) (nth h.Y.W.V (h.Y.b - 1).toNat) 0) (bN h.G h.Y.W.a0) c=cl h.G (bN h.G h.Y.W.a0) c:=by
   rcases n (bN h.G h.Y.W.a0) c with g|⟨-,Z,-⟩
   ·exact g
   exact absurd Z.symm l.ne
  rw[N];rcases n (bN h.G h.Y.W.a3) c with g|⟨-,-,g2⟩
  ·rw[g]
   exact b.jv r c (by rw[w];exact I4.2 (.inl p))
  exact absurd (by rw[show nth h.Y.W.V (h.Y.b - 1).toNat=(c:Int) by omega];exact p) E
 obtain⟨Y,L,d⟩:=b.m1 q U;exact⟨rfl,L,d⟩
def CI.meshed(F:aX h [])(D:JI h)(G:CI h)(H:h.k=true)(d:JP h)(hn:h.Y.b=h.Y.W.V.length)(L:h.G.Calls≠100000)(R:(w8 h.G h.Y.W.a0 h.Y.W.a3).2=true):CI (hE h (w8 h.G h.Y.W.a0 h.Y.W.a3).1)/\Kp h (hE h (w8 h.G h.Y.W.a0 h.Y.W.a3).1):=by
 have A:=LA F.ker (p:=h.Y.W.a0) (o:=h.Y.W.a3) d.mm R;obtain⟨m1,m2,m3⟩:=nz d.mm;obtain⟨k1,k2,k3⟩:=nz d.km;have M:=(A 0).1;generalize N:(w8 h.G h.Y.W.a0 h.Y.W.a3).1=K at *;have J:∀q:Int,af K.F.Q q=if q=h.Y.W.a0 then⟨2,(af (tbl h) h.Y.W.a3).j⟩ else af (tbl h) q:=λq=>by
  unfold af;rw[M];by_cases e:0<=q/\q<h.G.F.Q.J.length
  ·rw[CD e,(A q.toNat).2]
   by_cases B:q=h.Y.W.a0
   ·rw[CD B,CD ω,CD ⟨k1,k2⟩];rfl
   rw[CC B,CC ω,CD (show 0<=q/\q<(tbl h).J.length from e)];rfl
  rw[CC e,CC (show ¬q=h.Y.W.a0 by unfold tbl at m2;omega),CC (show ¬(0<=q/\q<(tbl h).J.length) from e)]
 have l:∀f c,cl K f c=cl h.G f c\/(cl K f c=0/\f=bN h.G h.Y.W.a0):=λf c=>by
  unfold w8 at N R;by_cases e:refd h.G=true
  ·rw[CD e]at R;cases R
  rw[CC e]at N;simp only at N;rw[<-N];rcases Mo (wK (dS h.G) h.Y.W.a0.toNat ⟨2,(nth (dS h.G).F.Q.J h.Y.W.a3.toNat).j⟩) (nth (dS h.G).F.Q.J h.Y.W.a0.toNat).j f c with g|⟨S,T,-⟩
  ·exact .inl g
  refine .inr ⟨S,?_⟩;rw[<-T];have h3:nth (dS h.G).F.Q.J h.Y.W.a0.toNat=af h.G.F.Q h.Y.W.a0:=m3.symm;rw[h3];rfl
 have n:h.Y.W.V.take h.Y.b.toNat=h.Y.W.V:=Y9 ω;have O:∀p:Int,(af (tbl h) p).e≠0->(af (tbl h) p).j=(bN h.G h.Y.W.a0:Nat)->p=h.Y.W.a0:=λp j C=>by
  obtain⟨p1,p2,p3⟩:=nz j;have P:=d.mf;rw[p3]at j C;rw[m3]at P;have:=D.sm H p.toNat j (by rw[C,P]);omega
 have U:∀c,cl K (bN h.G h.Y.W.a3) c=cl h.G (bN h.G h.Y.W.a3) c:=λc=>by
  rcases l (bN h.G h.Y.W.a3) c with g|⟨-,g⟩
  ·exact g
  exact absurd g d.ne
 have place:∀o∈h.O,∀x:Int,0<=x->x<o.q->∀f c:Nat,At h.G (o.Addr+x) f c->(f≠bN h.G h.Y.W.a0->At K (o.Addr+x) f c)/\(f=bN h.G h.Y.W.a0->At K (o.Addr+x) (bN h.G h.Y.W.a3) c/\(c:Int)∈h.Y.W.V):=λo r x u w f c a=>by
  constructor
  ·intro hne
   have j:(o.Addr+x) / 16≠h.Y.W.a0:=λe=>by
    have:=a.f;rw[e]at this;have h3:(af h.G.F.Q h.Y.W.a0).j=_:=d.mf;omega
   exact⟨by rw[J,CC j];exact a.m,by rw[J,CC j];exact a.f,a.c⟩
  intro he;have j:=O _ a.m (by rw[<-he];exact a.f);refine⟨⟨by rw[J,CD j];show(2:Int)≠0;decide,by rw[J,CD j];exact d.kf,a.c⟩,?_⟩;obtain⟨-,-,b,hb,-,V,-⟩:=D.sp H;have y:c<16:=by have:=a.c;omega
  obtain⟨e1,B,-⟩:=zp F (kq F r ⟨x,u,w,a⟩) hb (by rw[V];exact D.sm H) (by rw[V,he];exact d.mf);refine G.jc H b hb V c y ?_;rw[B];exact e1.2.2.2
 refine⟨⟨λf c y E=>?_,λe=>(by cases e),λe=>(by cases e),λe=>(by cases e),λe=>(by cases e),λq hq=>?_,λe=>(by cases e)⟩,λo r=>⟨r,λx u w=>?_⟩⟩
 ·change cl K f c≠0 at E
  rcases l f c with g|⟨g,-⟩
  rotate_left
  ·exact absurd g E
  rw[g]at E;have W:f≠bN h.G h.Y.W.a0:=λe=>by
   refine E ?_;rw[<-g,e];have X:aF K=true:=by
    rw[<-N];exact Qh F.ker L d.mm d.km (Ne.symm d.pe)
   refine p9 X (λp j C=>?_) c;rw[J]at j C;by_cases B:p=h.Y.W.a0
   ·rw[CD B]at C
    have h1:(af (tbl h) h.Y.W.a3).j=(bN h.G h.Y.W.a0:Nat):=C;have h2:=d.kf;exact d.ne ω
   rw[CC B]at j C;exact B (O p j C)
  rcases G.z f c y E with⟨o,r,x,u,w,a⟩|⟨-,q2,q3⟩
  ·exact .inl ⟨o,r,x,u,w,(place o r x u w f c a).1 W⟩
  rw[n]at q3;have Q:f=bN h.G h.Y.W.a3:=by have:=d.kf;omega
  rw[Q,G.jv H c (by rw[n];exact q3)]at E;rcases G.z _ c y E with⟨o,r,x,u,w,a⟩|⟨-,r2,-⟩
  ·exact .inl ⟨o,r,x,u,w,by rw[Q];exact((place o r x u w _ c a).2 rfl).1⟩
  exact absurd (by have:=d.kf;omega) d.ne
 ·have i:(nth K.F.Q.J q).e=1:=hq
  have:=JC (t:=K.F.Q) (q:=q) (by rw[i];decide);rw[J]at this;by_cases e:(q:Int)=h.Y.W.a0
  ·rw[CD e]at this
   rw[<-this]at i;exact absurd i (by show ¬(2:Int)=1;decide)
  rw[CC e]at this;rw[<-this]at i;obtain⟨a1,a2,a3⟩:=nz (t:=tbl h) (p:=(q:Int)) (by rw[i];decide);rw[a3]at i;exact absurd (by have:=(G.m1 _ i).2.1;omega) e
 have Y:=(cX F r (k:=x) ⟨u,ω⟩).1;have a:=At.mk' F.ker Y;obtain⟨S,T⟩:=place o r x u w _ _ a;show ew K (o.Addr+x)=ew h.G (o.Addr+x);by_cases e:dG h.G (o.Addr+x)=bN h.G h.Y.W.a0
 ·obtain⟨Z,g4⟩:=T e
  rw[Z.cell,a.cell,U,e];exact G.jv H _ (by rw[n];exact g4)
 have Z:=S e;rw[Z.cell,a.cell];rcases l (dG h.G (o.Addr+x)) ((o.Addr+x) % 16).toNat with g|⟨-,g⟩
 ·exact g
 exact absurd g e
def CI.mStep{h:ac}(w:aX h [])(l:JI h)(a:CI h)(d:h.k=true):CI (mStep h)/\Kp h (mStep h):=by
 have C:=JP.of w l d;have Z:=l.ph d;obtain⟨jn0,jn2⟩:=a.jn d;obtain⟨-,-,-,n0,n1⟩:=dM.1 (w.job d).1;rw[Rm d];have stay:∀(k:am)(j:dE),k.F=h.G.F->j.W=h.Y.W->j.b=h.Y.b->(j.a9=0↔h.Y.a9=0)->(j.a9=2->j.b=j.W.V.length)->CI (hJ h k j)/\Kp h (hJ h k j):=λk j M u N O e5=>by
  have J:tbl (hJ h k j)=tbl h:=by unfold tbl hJ;rw[M]
  have L:∀f c,cl k f c=cl h.G f c:=λf c=>by unfold cl;rw[M]
  have D:∀o f c,qW h o f c->qW (hJ h k j) o f c:=λo f c=>zn (λp E=>by rw[J];exact⟨E,rfl⟩)
  refine⟨⟨λf c F K=>?_,λ_ c g=>?_,λ_=>?_,λ_=>?_,λ_=>⟨λe=>?_,e5⟩,λq i=>?_,λ_ e=>?_⟩,xg w rfl (λp E=>by rw[J];exact⟨E,rfl⟩) λo _ f c _=>L f c⟩
  ·change cl k f c≠0 at K
   rw[L]at K;rcases a.z f c F K with⟨o,P,Q⟩|⟨q1,R,G⟩
   ·exact .inl ⟨o,P,D o f c Q⟩
   refine .inr ⟨rfl,?_,?_⟩
   ·rw[J];show(af (tbl h) j.W.a3).j=f;rw[u];exact R
   show(c:Int)∈j.W.V.take j.b.toNat;rw[u,N];exact G
  ·change (c:Int)∈j.W.V.take j.b.toNat at g
   show cl k (bN k j.W.a3) c=cl k (bN k j.W.a0) c;rw[u,N]at g;rw[u,L,L];unfold bN;rw[M];exact a.jv d c g
  ·show ∀s∈h.K,s.R=j.W.a3->_
   rw[show(hJ h k j).Y.W=h.Y.W from u,u];exact a.jd d
  ·show ∀s∈h.K,s.R=j.W.a0->_
   rw[show(hJ h k j).Y.W=h.Y.W from u,u];exact a.jc d
  ·exact(show j.b=h.Y.b from N).trans (jn0 (O.1 e))
  ·rw[J]at i
   obtain⟨q1,R,G⟩:=a.m1 q i;exact⟨rfl,by show(q:Int)=j.W.a0;rw[u];exact R,λe=>G (O.1 e)⟩
  rw[J];show(af (tbl h) j.W.a0).e=1;rw[u];exact a.m2 d λx=>e (O.2 x)
 have prot:∀H:Int,H=1\/H=2->∀p,(af (tbl h) p).e≠0->(af (jI (dS h.G) h.Y.W.a0 H).F.Q p).e≠0/\(af (jI (dS h.G) h.Y.W.a0 H).F.Q p).j=(af (tbl h) p).j:=λH hmo p E=>by
  rw[tM (k:=dS h.G) C.mm];by_cases e:p=h.Y.W.a0
  ·rw[CD e,e]
   exact⟨by show H≠0;omega,rfl⟩
  rw[CC e];exact⟨E,rfl⟩
 unfold gm;by_cases b:jmay h.G h.Y=true;rotate_left
 ·rw[CC b]
  rw[CC (by rw[show over (h.G,h.Y).2=over h.Y from rfl,show over h.Y=false from X0 ω];decide)];exact stay h.G h.Y rfl rfl rfl Iff.rfl jn2
 rw[CD b];unfold jstep;by_cases A:h.Y.a9=0
 ·rw[CD A]
  have n:=jn0 A;simp only;unfold ky;by_cases B:refd h.G=true
  ·rw[CD B]
   simp only[Bool.false_eq_true,if_false];rw[CD (show over {h.Y with a9:=5} = true from O0 (.inr rfl))];refine CI.ended w a d n (λ_ _=>rfl) (λp E=>⟨E,rfl⟩) λq i=>(a.m1 q i).2.2 A
  rw[CC B];simp only[if_true];rw[CC (by rw[show over {h.Y with a9:=1} = false from X0 (by show ¬((1:Int)=4\/(1:Int)=5);decide)];decide)];have D:∀o f c,qW h o f c->qW (hJ h (jI (dS h.G) h.Y.W.a0 1) {h.Y with a9:=1}) o f c:=λo f c=>zn (prot 1 (.inl rfl))
  refine⟨⟨λf c F K=>?_,λ_ c g=>?_,λ_=>a.jd d,λ_=>a.jc d,λ_=>⟨λe=>absurd e (by show ¬(1:Int)=0;decide),λe=>absurd e (by show ¬(1:Int)=2;decide)⟩,λq i=>?_,λ_ _=>?_⟩,xg w rfl (prot 1 (.inl rfl)) λ_ _ _ _ _=>rfl⟩
  ·rcases a.z f c F K with⟨o,P,Q⟩|⟨-,-,G⟩
   ·exact .inl ⟨o,P,D o f c Q⟩
   rw[n]at G;cases G
  ·change (c:Int)∈h.Y.W.V.take h.Y.b.toNat at g
   rw[n]at g;cases g
  ·refine⟨rfl,?_,by show ¬(1:Int)=0;decide⟩
   show(q:Int)=h.Y.W.a0;refine Classical.byContradiction λS=>?_
   have y:(nth (jI (dS h.G) h.Y.W.a0 1).F.Q.J q).e=1:=i;have:=JC (t:=(jI (dS h.G) h.Y.W.a0 1).F.Q) (q:=q) (by rw[y];decide);rw[tM (k:=dS h.G) C.mm,CC S]at this;rw[<-this]at y;obtain⟨a1,a2,T⟩:=nz (t:=tbl h) (p:=(q:Int)) (by show(af h.G.F.Q q).e≠0;have:(af h.G.F.Q q).e=1:=y;rw[this];decide);have r:(af (tbl h) q).e=1:=y;rw[T]at r;exact(a.m1 _ r).2.2 A
  show(af (jI (dS h.G) h.Y.W.a0 1).F.Q h.Y.W.a0).e=1;rw[tM (k:=dS h.G) C.mm,CD rfl]
 rw[CC A];by_cases U:h.Y.a9=1
 ·rw[CD U]
  by_cases V:h.Y.b=h.Y.W.V.length
  ·rw[CD V]
   simp only;rw[CC (by rw[show over {h.Y with a9:=2} = false from X0 (by show ¬((2:Int)=4\/(2:Int)=5);decide)];decide)];exact stay h.G {h.Y with a9:=2} rfl rfl rfl ⟨λe=>absurd e (by show ¬(2:Int)=0;decide),λe=>absurd e A⟩ λ_=>V
  rw[CC V];simp only;rw[CC (by rw[show over {h.Y with b:=h.Y.b+1} = false from X0 (by show ¬(h.Y.a9=4\/h.Y.a9=5);omega)];decide)];exact CI.copied w l a d C U ω
 rw[CC U];by_cases W:h.Y.a9=2
 ·rw[CD W]
  simp only;cases B:(w8 h.G h.Y.W.a0 h.Y.W.a3).2 with
  | false=>
   simp only[Bool.false_eq_true,if_false];rw[CC (by rw[show over {h.Y with a9:=3} = false from X0 (by show ¬((3:Int)=4\/(3:Int)=5);decide)];decide)];rw[Rx B];exact stay (dS h.G) {h.Y with a9:=3} rfl rfl rfl ⟨λe=>absurd e (by show ¬(3:Int)=0;decide),λe=>absurd e A⟩ λe=>absurd e (by show ¬(3:Int)=2;decide)
  | true=>
   rw[CD rfl];rw[CD (show over {h.Y with a9:=4} = true from O0 (.inl rfl))];exact CI.meshed w l a d C (jn2 W) (by unfold jmay at b;simp only[I0,C0]at b;exact b.1.2) B
 rw[CC W];have Y:h.Y.a9=3:=ω
 rw[CD Y];by_cases X:0<h.Y.b
 ·rw[CD X]
  simp only;rw[CC (by rw[show over {h.Y with b:=h.Y.b - 1} = false from X0 (by show ¬(h.Y.a9=4\/h.Y.a9=5);omega)];decide)];exact CI.undone w l a d C Y X
 rw[CC X];have n:h.Y.b=0:=ω
 simp only;unfold ky;by_cases B:refd h.G=true
 ·rw[CD B]
  simp only[Bool.false_eq_true,if_false];rw[CC (by rw[show over {h.Y with a9:=3} = false from X0 (by show ¬((3:Int)=4\/(3:Int)=5);decide)];decide)];exact stay (dS h.G) {h.Y with a9:=3} rfl rfl rfl ⟨λe=>absurd e (by show ¬(3:Int)=0;decide),λe=>absurd e A⟩ λe=>absurd e (by show ¬(3:Int)=2;decide)
 rw[CC B];simp only[if_true];rw[CD (show over {h.Y with a9:=5} = true from O0 (.inr rfl))];refine CI.ended w a d n (λ_ _=>rfl) (prot 2 (.inr rfl)) λq i=>?_
 have:=JC (t:=(jI (dS h.G) h.Y.W.a0 2).F.Q) (q:=q) (by rw[i];decide);rw[tM (k:=dS h.G) C.mm]at this;by_cases e:(q:Int)=h.Y.W.a0
 ·rw[CD e]at this
  rw[<-this]at i;exact absurd i (by show ¬(2:Int)=1;decide)
 rw[CC e]at this;rw[<-this]at i;obtain⟨a1,a2,T⟩:=nz (t:=tbl h) (p:=(q:Int)) (by have:(af (tbl h) q).e=1:=i;rw[this];decide);have r:(af (tbl h) q).e=1:=i;rw[T]at r;exact e (by have:=(a.m1 _ r).2.1;omega)
variable{n:Nat}
def Do{s:aA} : (c:Int)∈tL s n↔c<n/\sB s c=true:=by
 unfold tL;simp only[C6,I6,List.mem_range];constructor
 ·rintro⟨a,⟨b,d⟩,e⟩
  have:a=c:=ω
  subst this;exact⟨b,d⟩
 rintro⟨b,d⟩;exact⟨c,⟨b,d⟩,rfl⟩
def TD{a b:aA}(c:meshable a b=true){i:Int}(h:aT a.a8 i=true):aT b.a8 i=false:=by
 unfold meshable at c;simp only[I0,C0]at c;obtain⟨-,-,-,d⟩:=c;rw[<-X7];intro e;have f:=(eQ _ _).1 h;have g:=(eQ _ _).1 e;have:=C1 (λn=>Nat.testBit n i.toNat) d;simp only[Nat.testBit_and,Nat.zero_testBit]at this;rw[f.2.2.2,g.2.2.2]at this;cases this
def LT{E:List Int}(a:aX h E){s u:aA}(b:s∈h.K)(c:u∈h.K)(e:s.R=u.R):s=u:=by
 obtain⟨i,d,rfl⟩:=aN b;obtain⟨j,g,rfl⟩:=aN c;rw[cU (f:=(·.R)) a.L.nd d g e]
def CI.begun{E:List Int}(B:aX h E)(C:CI h)(D:h.k=false){a b:aA}(F:a∈h.K)(G:b∈h.K)(l:meshable a b=true)(sd:Int):CI {h with b3:=sd,k:=true,Y:=FQ (cR a b)}:=by
 have n:∃x∈h.K,∃y∈h.K,(cR a b).a3=x.R/\(cR a b).a0=y.R/\(cR a b).V=tL y 16/\meshable x y=true:=by
  unfold cR;split
  ·exact⟨b,G,a,F,rfl,rfl,rfl,by rw[hO];exact l⟩
  exact⟨a,F,b,G,rfl,rfl,rfl,l⟩
 obtain⟨x,M,y,N,H,J,r,d⟩:=n;generalize cR a b=p at H J r;have ecl:x.d=y.d:=by
  unfold meshable at d;simp only[I0,C0]at d;exact d.2.1
 refine⟨λf c g O=>?_,λ_ c j=>absurd j (by show ¬(c:Int)∈p.V.take (0:Int).toNat;simp),λ_ s t n c g j=>?_,λ_ s t n c g u=>?_,λ_=>⟨λ_=>rfl,λe=>absurd e (by show ¬(0:Int)=2;decide)⟩,λq P=>?_,λ_ e=>absurd rfl e⟩
 ·rcases C.z f c g O with⟨o,Q,w⟩|⟨K,-⟩
  ·exact .inl ⟨o,Q,w⟩
  rw[D]at K;cases K
 ·have k:=LT B t M (n.trans H)
  subst k;have i:(c:Int)∈p.V:=j;rw[r]at i;have A:=(Do.1 i).2;unfold sB at A;rw[<-ecl]at A;rw[hO]at d;exact TD d A
 ·have k:=LT B t N (n.trans J)
  subst k;show(c:Int)∈p.V;rw[r];exact Do.2 ⟨g,u⟩
 have L:=(C.m1 q P).1;rw[D]at L;cases L
def CI.started{h:ac}(f:aX h [])(a:CI h)(j:h.k=false):CI (started h).1/\Kp h (started h).1:=by
 have g:=f.nums;unfold cT at g;rw[C0]at g;have d:=nP (bv h) (show 0<=h.b3/\h.b3<=1073741823 by omega);cases e:mN (bv h) h.b3 with
 | nil=>
  have c:Ab.started h=({h with b3:=(shuf (bv h).length h.b3).2},false):=by unfold Ab.started;rw[e]
  rw[c];exact⟨⟨a.z,a.jv,a.jd,a.jc,a.jn,a.m1,a.m2⟩,CX h⟩
 | cons q n=>
  obtain⟨o,p,k⟩:=d q (by rw[e];exact X2 ..);have c:Ab.started h=({h with b3:=(shuf (bv h).length h.b3).2,k:=true,Y:=FQ (cR (nth (bv h) q.A.toNat) (nth (bv h) q.B.toNat))},true):=by unfold Ab.started;rw[e]
  rw[c];have b:∀s∈bv h,s∈h.K:=λs l=>ns h (O4 _) s (List.mem_of_mem_take l)
  exact⟨CI.begun f a j (b _ (au (xs:=bv h) (i:=q.A.toNat) ω)) (b _ (au (xs:=bv h) (i:=q.B.toNat) ω)) k _,CX h⟩
def Uk(k:am)(a:Int)(f c:Nat):∀m,cl (zK k a m) f c=cl k f c\/(cl (zK k a m) f c=0/\∃j:Nat,j<m/\f=dG k (a+j)/\c=((a+j) % 16).toNat)
 | 0=>.inl rfl
 | m+1=>by
  have e:dG (zK k a m) (a+m)=dG k (a+m):=by unfold dG;rw[(pS k a m).1]
  rcases r7 (zK k a m) (a+m) 0 f c with g|⟨b,h,d⟩
  ·rcases Uk k a f c m with i|⟨b,j,h,d⟩
   ·exact .inl (g.trans i)
   exact .inr ⟨g.trans b,j,ω,d⟩
  exact .inr ⟨b,m,ω,by rw[<-e];exact h,d⟩
def G6{k:am}(h:aF k=true){a:Int} : ∀{m:Nat},(∀j:Nat,j<m->(af k.F.Q ((a+j) / 16)).e≠0)->∀j:Nat,j<m->cl (zK k a m) (dG k (a+j)) ((a+j) % 16).toNat=0
 | 0,_,_,c=>absurd c (Nat.not_lt_zero _)
 | m+1,d,j,c=>by
  have f:=Q8 h (a:=a) (m:=m) λj c=>d j ω
  have i:=(pS k a m).1;have e:∀b,dG (zK k a m) b=dG k b:=λb=>by unfold dG;rw[i]
  rcases r7 (zK k a m) (a+m) 0 (dG k (a+j)) ((a+j) % 16).toNat with g|⟨l,-⟩
  ·by_cases n:j=m
   ·subst n
    have:=BD f (a:=a+j) (v:=0) (by rw[i];exact d j ω);rw[e]at this;exact this
   exact g.trans (G6 h (λj c=>d j ω) j ω)
  exact l
def B7{E:List Int}(a:aX h E)(e:o∈h.O){k:Nat}(b:k<h.M.length)(n:o.Addr=16*(nth h.M k).R):o.q=(nth h.M k).q:=by
 have f:=aR (a.L.lok _ (au b));rcases a.oow _ e with⟨s,g,c,-⟩|⟨l,d,p,i⟩
 ·exact absurd (show s.R=(nth h.M k).R+((0:Nat):Int) by have:=c.1;have:=c.2.1;omega) (a.L.dis s g _ (au b) 0 ω)
 obtain⟨m,j,rfl⟩:=aN d;have:=a.L.one m k j b 0 0 (by have:=aR (a.L.lok _ d);omega) ω ω;subst this;exact i.symm
variable{i:Nat}{α:Type}
def tX[Inhabited α]{xs:List α}{y z:α}(c:i<xs.length):z∈xs.set i y↔z=y\/∃j,j<xs.length/\j≠i/\nth xs j=z:=by
 refine⟨eA,?_⟩
 rintro(rfl|⟨j,d,b,rfl⟩)
 ·have a:=au (xs:=xs.set i z) (i:=i) (by rw[I2];exact c)
  rw[bz,CD ⟨rfl,c⟩]at a;exact a
 have a:=au (xs:=xs.set i y) (i:=j) (by rw[I2];exact d);rw[bz,CC (λx=>b x.1.symm)]at a;exact a
def CI.trimH{h:ac}{i k:Nat}{size:Int}(l:aX h [])(hc:CI h)(V:i<h.O.length)(r:k<h.M.length)(W:(nth h.O i).Addr=16*(nth h.M k).R)(hz:9<=size/\size<=(nth h.M k).q):CI (trimH h i k size)/\∀o∈h.O,∀j:Int,0<=j->j<o.q->(o=nth h.O i->j<size)->ew (trimH h i k size).G (o.Addr+j)=ew h.G (o.Addr+j):=by
 obtain⟨b1,b2⟩:=uX l r;have M:=l.L.lok _ (au r);have hlp:=aR M;have hsz:=B7 l (au V) r W;have h8:=M;unfold bK at h8;rw[C0]at h8;have N:aF (jL h k size)=true:=zQ l r hz (O4 _);have D:(jL h k size).F.Q=h.G.F.Q:=(pS h.G _ _).1;have hN:((dq (nth h.M k) size:Nat):Int)=(nth h.M k).a2 - (size+15) / 16:=by unfold dq;omega
 have hte:((tbl h).J.length:Int)=(h.G.F.Q.J.length:Int):=rfl;have kl:=KL.unmN N (p:=(nth h.M k).R+(size+15) / 16) ω (dq (nth h.M k) size) (by rw[D];omega);have ker:=je N ((nth h.M k).R+(size+15) / 16) (dq (nth h.M k) size);have A:=(f9 (jL h k size) ((nth h.M k).R+(size+15) / 16) (dq (nth h.M k) size)).1;have hcz:=Uk h.G (16*(nth h.M k).R+size);have hca:=G6 l.ker (a:=16*(nth h.M k).R+size) (m:=(16*((size+15) / 16) - size).toNat) λj O=>kD l r ⟨ω,ω⟩
 have E:(Ab.trimH h i k size).G=unmN (jL h k size) ((nth h.M k).R+(size+15) / 16) (dq (nth h.M k) size):=rfl;have F:(Ab.trimH h i k size).O=h.O.set i {nth h.O i with q:=size}:=rfl;have P:(Ab.trimH h i k size).K=h.K:=rfl;have Q:(Ab.trimH h i k size).Y=h.Y:=rfl;have R:(Ab.trimH h i k size).k=h.k:=rfl;generalize Ab.trimH h i k size=h' at E F P Q R |-;have G:∀f c,cl (jL h k size) f c=cl h.G f c\/(cl (jL h k size) f c=0/\∃b:Int,16*(nth h.M k).R+size<=b/\b<16*((nth h.M k).R+(size+15) / 16)/\At h.G b f c):=λf c=>by
  rcases hcz f c (16*((size+15) / 16) - size).toNat with g|⟨g,j,w,B,j3⟩
  ·exact .inl g
  refine .inr ⟨g,16*(nth h.M k).R+size+j,ω,ω,?_⟩;have:=At.mk' l.ker (kD l r (a:=16*(nth h.M k).R+size+j) ⟨ω,ω⟩);rw[B,j3];exact this
 have hzv:∀(f c:Nat)(b:Int),16*(nth h.M k).R+size<=b->b<16*((nth h.M k).R+(size+15) / 16)->At h.G b f c->cl (jL h k size) f c=0:=λf c b H X d=>by
  have:=hca (b - (16*(nth h.M k).R+size)).toNat ω;rw[show 16*(nth h.M k).R+size+((b - (16*(nth h.M k).R+size)).toNat:Nat)=b by omega]at this;have e:=At.mk' l.ker d.m;obtain⟨u1,u2⟩:=e.uniq d;rw[u1,u2]at this;exact this
 have pout:∀q:Int,¬((nth h.M k).R+(size+15) / 16<=q/\q<(nth h.M k).R+(nth h.M k).a2)->af h'.G.F.Q q=af h.G.F.Q q:=λq Y=>by
  rw[E,kl.out q ω,D]
 rw[<-E]at kl ker A;generalize jL h k size=kz at *;have onL:∀b:Int,16*(nth h.M k).R<=b->b<16*((nth h.M k).R+(nth h.M k).a2)->∀f c:Nat,At h.G b f c->Pr h (nth h.O i).Addr f c:=λb H X f c d=>.inr ⟨_,au r,W,b,H,X,d⟩
 have only:∀o∈h.O,∀f c:Nat,qW h o f c->Pr h (nth h.O i).Addr f c->o=nth h.O i:=λo t f c H X=>by
  have e:=wX l (kq l t H) X;obtain⟨m,lm,rfl⟩:=aN t;rw[cU (f:=(·.Addr)) (d9 l.osr) lm V e]
 have noS:∀s∈h.K,¬((nth h.M k).R<=s.R/\s.R<(nth h.M k).R+(nth h.M k).a2):=λs J hr=>l.L.dis s J _ (au r) (s.R - (nth h.M k).R).toNat ω ω
 have same:∀f c:Nat,cl h'.G f c≠0->cl h.G f c=cl h'.G f c:=λf c C=>by
  rcases kl.cel f c with e|e
  ·rcases G f c with g|⟨g,-⟩
   ·rw[e,g]
   exact absurd (e.trans g) C
  exact absurd e.1 C
 have stay:∀o∈h.O,∀j:Int,0<=j->j<o.q->(o=nth h.O i->j<size)->∀f c:Nat,At h.G (o.Addr+j) f c->At h'.G (o.Addr+j) f c/\cl h'.G f c=cl h.G f c:=λo t j w B O f c d=>by
  have y:qW h o f c:=⟨j,w,B,d⟩
  have n:af h'.G.F.Q ((o.Addr+j) / 16)=af h.G.F.Q ((o.Addr+j) / 16):=by
   refine pout _ λZ=>?_
   have e:=only o t f c y (onL _ ω ω f c d);have:=O e;rw[e,W]at Z;omega
  have u:At h'.G (o.Addr+j) f c:=⟨by rw[n];exact d.m,by rw[n];exact d.f,d.c⟩
  refine⟨u,?_⟩;rcases kl.cel f c with e|⟨-,e⟩
  ·rcases G f c with g|⟨-,b,g1,g2,S⟩
   ·rw[e,g]
   exfalso;have eo:=only o t f c y (onL b ω ω f c S);have hjs:=O eo;have Y:=mH l (au r) (b:=b) ω ω S d.m d.f;have c1:=d.c;have c2:=S.c;rw[eo,W]at Y c1;omega
  exact absurd u.f (e _ u.m)
 refine⟨hc.keep Q R (λq Y=>?_) (λhm=>?_) (λf c _ C=>.inl (same f c C)) (λo t f c h16 y C=>?_) (λhm c _=>?_) (λ_ s' hs' _=>⟨s',by rw[<-P];exact hs',rfl,rfl,λ_ h=>h⟩),λo t j w B O=>?_⟩
 ·have hq':(nth h'.G.F.Q.J q).e=1:=Y
  have:=kl.md A q ω;rw[D]at this;show(nth h.G.F.Q.J q).e=1;rw[<-this];exact hq'
 ·obtain⟨-,⟨a,ha,T⟩,b,hb,eb⟩:=l.job hm
  exact⟨pout _ λZ=>noS a ha ω,pout _ λZ=>noS b hb ω⟩
 ·obtain⟨j,w,B,d⟩:=y
  by_cases e:o=nth h.O i/\size<=j
  ·exfalso
   obtain⟨e,ej⟩:=e;subst e;by_cases ej2:j<16*((size+15) / 16)
   ·have:=hzv f c ((nth h.O i).Addr+j) ω ω d
    rcases kl.cel f c with g|g
    ·exact C (g.trans this)
    exact C g.1
   refine C (p9 ker (λp K hf=>?_) c);by_cases er:(nth h.M k).R+(size+15) / 16<=p/\p<(nth h.M k).R+(nth h.M k).a2
   ·exact K (kl.ins p er.1 ω)
   rw[pout p er]at K hf;have:=mH l (au r) (b:=(nth h.O i).Addr+j) ω ω d K hf;omega
  have st:=stay o t j w B (λU=>by have:¬size<=j:=λx=>e ⟨U,x⟩;omega) f c d;by_cases U:o=nth h.O i
  ·refine⟨{nth h.O i with q:=size},by rw[F];exact(tX V).2 (.inl rfl),j,w,?_,?_⟩
   ·have:¬size<=j:=λx=>e ⟨U,x⟩
    show j<size;omega
   have H:=st.1;rw[U]at H;exact H
  refine⟨o,?_,j,w,B,st.1⟩;rw[F];obtain⟨m,lm,rfl⟩:=aN t;exact(tX V).2 (.inr ⟨m,lm,λx=>U (by rw[x]),rfl⟩)
 ·have key:∀s∈h.K,cl h'.G (bN h.G s.R) c=cl h.G (bN h.G s.R) c:=λs J=>by
   have n:(af (tbl h) s.R).e≠0:=by rw[l.pe J];exact(l.mapped J).2.2
   rcases kl.cel (bN h.G s.R) c with e|⟨-,e⟩
   ·rcases G (bN h.G s.R) c with g|⟨-,b,g1,g2,S⟩
    ·rw[e,g]
    have:=mH l (au r) (b:=b) ω ω S (q:=s.R) n (mr l.ker n);exact absurd (show(nth h.M k).R<=s.R/\s.R<(nth h.M k).R+(nth h.M k).a2 by omega) (noS s J)
   have K:=pout s.R λZ=>noS s J ω
   refine absurd ?_ (e s.R (by rw[K];exact n));rw[K];exact mr l.ker n
  obtain⟨-,⟨a,ha,T⟩,b,hb,eb⟩:=l.job hm;rw[<-T,<-eb];exact⟨key a ha,key b hb⟩
 have d:=At.mk' l.ker (cX l t (k:=j) ⟨w,ω⟩).1;obtain⟨s1,s2⟩:=stay o t j w B O _ _ d;rw[s1.cell,d.cell,s2]
def Hp[Inhabited α](n j:Nat)(y:α):nth (List.replicate n y) j=y\/nth (List.replicate n y) j=default:=by
 by_cases h:j<n
 ·exact .inl (dH h)
 right
 unfold nth;rw[Y3,X3 (by rw[I5];omega)];rfl
def CI.newHeap(p f t:Nat)(lim:Int)(a:List Int):CI (newHeap p f t lim a):=by
 refine⟨λg c b d=>absurd ?_ d,λe=>(by cases e),λe=>(by cases e),λe=>(by cases e),λe=>(by cases e),λq h=>absurd h ?_,λe=>(by cases e)⟩
 ·show nth (nth (List.replicate f (List.replicate 16 (0:Int))) g) c=0
  rcases Hp f g (List.replicate 16 (0:Int)) with e|e<;>rw[e]
  ·exact BO _ _
  rfl
 show ¬(nth (List.replicate p (⟨0,0⟩ : bm)) q).e=1;rcases Hp p q (⟨0,0⟩ : bm) with e|e<;>rw[e]
 ·decide
 decide
def im(k:am)(o:aU):aQ:=⟨o.Id,cellsOf k o.Addr o.q.toNat⟩
structure RS(w:bj):Prop where
 nx:w.b2.b=w.Z.b
 asc:w.b2.O.Pairwise λa b=>a.Id<b.Id
 mem:∀y,y∈w.b2.O↔∃o∈w.Z.O,y=im w.Z.G o
def rr{b:am}{a:Int}(h:∀j:Int,0<=j->j<n->ew b (a+j)=ew k (a+j)):cellsOf b a n=cellsOf k a n:=by
 unfold cellsOf;refine List.map_congr_left λj c=>?_
 have:=List.mem_range.1 c;exact h j ω ω
def gd{a:am}(h:∀j:Int,0<=j->j<o.q->ew a (o.Addr+j)=ew k (o.Addr+j)):im a o=im k o:=by
 unfold im;rw[rr λj b c=>h j b ω]
variable{j:Nat}
def UT[Inhabited α]{R:α->α->Prop}{xs:List α}(h:xs.Pairwise R)(a:i<j)(b:j<xs.length):R (nth xs i) (nth xs j):=by
 have:=List.pairwise_iff_getElem.1 h i j ω b a;rw[show nth xs i=xs[i] from bk (I3 ω),show nth xs j=xs[j] from bk (I3 b)];exact this
def RS.at{w:bj}(b:RS w){o:aU}(c:o∈w.Z.O):∃j:Nat,j<w.b2.O.length/\vI w.b2 o.Id=(j:Nat)/\nth w.b2.O j=im w.Z.G o:=by
 obtain⟨j,a,e⟩:=aN ((b.mem _).2 ⟨o,c,rfl⟩);refine⟨j,a,eD (ax a) (O0 (by rw[e];rfl)) λm z d f=>X0 ?_,e⟩;have g:=UT b.asc d a;rw[bk f,e]at g;have h:(im w.Z.G o).Id=o.Id:=rfl;omega
variable{w:bj}
def RS.lt(a:RS w)(b:aX w.Z []):∀y∈w.b2.O,1<=y.Id/\y.Id<w.b2.b:=λy c=>by
 obtain⟨o,d,rfl⟩:=(a.mem y).1 c;have:=b.onu o d;rw[a.nx];show 1<=o.Id/\o.Id<w.Z.b;omega
def RS.keep(b:RS w)(d:h'.O=w.Z.O)(c:Kp w.Z h')(e:h'.b=w.Z.b):RS ⟨h',w.b2⟩:=by
 refine⟨b.nx.trans e.symm,b.asc,λy=>(b.mem y).trans ?_⟩;show _↔∃o∈h'.O,y=im h'.G o
 constructor
 ·rintro⟨o,f,rfl⟩
  have a:o∈h'.O:=by rw[d];exact f
  exact⟨o,a,(gd (c o a).2).symm⟩
 rintro⟨o,a,rfl⟩
 exact⟨o,(c o a).1,gd (c o a).2⟩
def RS.alloc(e:RS w)(i:aX w.Z []){x:aU}(d:Vq w.Z h' x)(k:x.Id=w.Z.b)(g:h'.b=w.Z.b+1)(l:1<=x.q/\x.q<=1000):RS ⟨h',jx w.b2 x.q⟩:=by
 unfold jx;rw[CD l];have h:im h'.G x = ⟨w.b2.b,List.replicate x.q.toNat 0⟩:=by
  unfold im;rw[k,e.nx]
  congr 1
  refine List.eq_replicate_iff.2 ⟨fY ..,λb f=>?_⟩;unfold cellsOf at f;obtain⟨j,n,rfl⟩:=C6.1 f;have:=List.mem_range.1 n;exact d.ze j ω ω
 refine⟨by show w.b2.b+1=h'.b;rw[g,e.nx],?_,λy=>?_⟩
 ·refine List.pairwise_append.2 ⟨e.asc,List.pairwise_singleton _ _,λa p b f=>?_⟩
  rw[C2.1 f];exact(e.lt i a p).2
 show y∈w.b2.O++[_]↔∃o∈h'.O,y=im h'.G o
 rw[I4,C2,e.mem];constructor
 ·rintro(⟨o,c,rfl⟩|rfl)
  ·exact⟨o,(d.mem o).2 (.inr c),(gd (d.ke o c)).symm⟩
  exact⟨x,(d.mem x).2 (.inl rfl),h.symm⟩
 rintro⟨o,c,rfl⟩
 rcases(d.mem o).1 c with rfl|c
 ·exact .inr h
 exact .inl ⟨o,c,gd (d.ke o c)⟩
def RS.free(a:RS w)(p:aX w.Z [])(h:i<w.Z.O.length)(k:h'.O=dele w.Z.O i)(l:Kp w.Z h')(r:h'.b=w.Z.b):RS ⟨h',lC w.b2 (nth w.Z.O i).Id⟩:=by
 obtain⟨j,t,u,n⟩:=a.at (au h);unfold lC;rw[u,CC ω];simp only[Z3];refine⟨a.nx.trans r.symm,a.asc.sublist (eS _ _),λy=>?_⟩;show y∈dele w.b2.O j↔∃o∈h'.O,y=im h'.G o
 rw[dl];constructor
 ·rintro⟨m,c,A,rfl⟩
  obtain⟨o,d,e⟩:=(a.mem _).1 (au c);have b:o∈h'.O:=by
   rw[k];obtain⟨q,g,rfl⟩:=aN d;refine dl.2 ⟨q,g,λx=>A ?_,rfl⟩;subst x;exact cU (f:=(·.Id)) (d9 a.asc) c t (by rw[e,n])
  exact⟨o,b,e.trans (gd (l o b).2).symm⟩
 rintro⟨o,b,rfl⟩
 obtain⟨d,B⟩:=l o b;rw[gd B];obtain⟨m,c,e⟩:=aN ((a.mem _).2 ⟨o,d,rfl⟩);refine⟨m,c,λx=>?_,e⟩;subst x;rw[k]at b;obtain⟨q,g,C,rfl⟩:=dl.1 b;exact C (cU (f:=(·.Id)) p.oid g h (C1 aQ.Id (e.symm.trans n)))
def RS.upd(d:RS w)(A:aX w.Z [])(B:i<w.Z.O.length){x':aU}(C:x'.Id=(nth w.Z.O i).Id)(k:∀o,o∈h'.O↔o=x'\/∃m,m<w.Z.O.length/\m≠i/\nth w.Z.O m=o)(t:∀m,m<w.Z.O.length->m≠i->im h'.G (nth w.Z.O m)=im w.Z.G (nth w.Z.O m))(D:h'.b=w.Z.b)(l:j<w.b2.O.length)(n:nth w.b2.O j=im w.Z.G (nth w.Z.O i)):RS ⟨h',{w.b2 with O:=w.b2.O.set j (im h'.G x')}⟩:=by
 refine⟨d.nx.trans D.symm,?_,λy=>?_⟩
 ·have u:(w.b2.O.map (·.Id)).Pairwise (λa b=>a<b):=List.pairwise_map.2 d.asc
  rw[<-lz (f:=(·.Id)) (y:=im h'.G x') l (by rw[n];exact C)]at u;exact List.pairwise_map.1 u
 show y∈w.b2.O.set j _↔∃o∈h'.O,y=im h'.G o
 rw[tX l];constructor
 ·rintro(rfl|⟨m,h,p,rfl⟩)
  ·exact⟨x',(k x').2 (.inl rfl),rfl⟩
  obtain⟨o,r,e⟩:=(d.mem _).1 (au h);obtain⟨q,c,rfl⟩:=aN r;have g:q≠i:=λx=>p (by subst x;exact cU (f:=(·.Id)) (d9 d.asc) h l (by rw[e,n]))
  exact⟨_,(k _).2 (.inr ⟨q,c,g,rfl⟩),e.trans (t q c g).symm⟩
 rintro⟨o,r,rfl⟩
 rcases(k o).1 r with rfl|⟨q,c,g,rfl⟩
 ·exact .inl rfl
 rw[t q c g];obtain⟨m,h,e⟩:=aN ((d.mem _).2 ⟨_,au c,rfl⟩);refine .inr ⟨m,h,λx=>g ?_,e⟩;subst x;exact cU (f:=(·.Id)) A.oid c B (C1 aQ.Id (e.symm.trans n))
def RS.store(l:RS w)(g:aX w.Z [])(h:JI w.Z)(n:CI w.Z)(a:i<w.Z.O.length){j v:Int}(p:0<=j/\j<=(nth w.Z.O i).q - 1)(r:0<=v/\v<=999)(t:(af (tbl w.Z) (((nth w.Z.O i).Addr+j) / 16)).e≠1):RS ⟨{w.Z with G:=dD w.Z.G ((nth w.Z.O i).Addr+j) v},f7 w.b2 (nth w.Z.O i).Id j v⟩:=by
 obtain⟨-,d⟩:=CI.store (v:=v) g h n a p t;obtain⟨b,u,A,k⟩:=l.at (au a);have B:(nth w.b2.O b).V.length=(nth w.Z.O i).q.toNat:=by rw[k];exact fY ..
 have C:f7 w.b2 (nth w.Z.O i).Id j v = {w.b2 with O:=w.b2.O.set b ⟨(nth w.b2.O b).Id,(nth w.b2.O b).V.set j.toNat v⟩}:=by
  unfold f7;rw[A];simp only[Z3];rw[CD ⟨ω,ω,r⟩]
 have D:(⟨(nth w.b2.O b).Id,(nth w.b2.O b).V.set j.toNat v⟩ : aQ)=im (dD w.Z.G ((nth w.Z.O i).Addr+j) v) (nth w.Z.O i):=by
  rw[k];unfold im;simp only
  congr 1
  refine List.ext_getElem (by simp[cellsOf]) λq K E=>?_
  rw[fY]at E;rw[List.getElem_set];simp only[cellsOf,List.getElem_map,List.getElem_range];have:=d _ (au a) q ω ω;rw[this];by_cases e:j.toNat=q
  ·rw[CD e,CD ⟨rfl,ω⟩]
  rw[CC e,CC (λx=>e ω)]
 rw[C,D];refine RS.upd l g a (h':={w.Z with G:=dD w.Z.G ((nth w.Z.O i).Addr+j) v}) rfl (λo=>?_) (λm c F=>?_) rfl u k
 ·show o∈w.Z.O↔_
  constructor
  ·intro G
   obtain⟨m,c,rfl⟩:=aN G;by_cases e:m=i
   ·subst e;exact .inl rfl
   exact .inr ⟨m,c,e,rfl⟩
  rintro(rfl|⟨m,c,-,rfl⟩)
  ·exact au a
  exact au c
 refine gd λx H J=>?_
 show ew (dD w.Z.G _ v) _=_;rw[d _ (au c) x H J,CC (λy=>F (cU (f:=(·.Addr)) (d9 g.osr) c a (by rw[y.1])))]
variable{m:Nat}
def EK(k:am)(a:Int)(h:m<=n):(cellsOf k a n).take m=cellsOf k a m:=by
 unfold cellsOf;rw[<-Y5,List.take_range,Nat.min_eq_left h]
def RS.trim(g:RS w)(d:aX w.Z [])(p:CI w.Z){k:Nat}{size:Int}(a:i<w.Z.O.length)(h:k<w.Z.M.length)(l:(nth w.Z.O i).Addr=16*(nth w.Z.M k).R)(q:9<=size/\size<=(nth w.Z.M k).q):RS ⟨trimH w.Z i k size,gF w.b2 (nth w.Z.O i).Id size⟩:=by
 obtain⟨-,c⟩:=CI.trimH d p a h l q;have r:=B7 d (au a) h l;obtain⟨b,t,u,e⟩:=g.at (au a);have A:(nth w.b2.O b).V.length=(nth w.Z.O i).q.toNat:=by rw[e];exact fY ..
 have B:gF w.b2 (nth w.Z.O i).Id size = {w.b2 with O:=w.b2.O.set b ⟨(nth w.b2.O b).Id,(nth w.b2.O b).V.take size.toNat⟩}:=by
  unfold gF;rw[u];simp only[Z3];rw[CD ⟨ω,ω,ω⟩]
 have C:(⟨(nth w.b2.O b).Id,(nth w.b2.O b).V.take size.toNat⟩ : aQ)=im (trimH w.Z i k size).G {nth w.Z.O i with q:=size}:=by
  rw[e];unfold im;simp only;rw[EK _ _ ω]
  congr 1
  refine(rr λj D H=>?_).symm;exact c _ (au a) j D ω λ_=>ω
 rw[B,C];refine RS.upd g d a (h':=trimH w.Z i k size) (x':={nth w.Z.O i with q:=size}) rfl (λo=>tX a) (λm n E=>?_) rfl t e;refine gd λx F G=>c _ (au n) x F G λy=>absurd (cU (f:=(·.Addr)) (d9 d.osr) n a (by rw[y])) E
def HK(h:ac)(i:Nat)(a:Int):(freeS h i a).b=h.b:=by unfold freeS;split<;>rfl
def PB(t:Nat)(h:ac)(a:Int):(recyc t h a).b=h.b:=by
 unfold recyc;split
 ·rfl
 exact HK h (ul h a) a
def vr(t:Nat):∀(az:List Int)(h:ac),(recycs t h az).b=h.b
 | [],_=>rfl
 | a::az,h=>(vr t az (recyc t h a)).trans (PB t h a)
def vF:∀(az:List Int)(h:ac),(freeAs h az).b=h.b
 | [],_=>rfl
 | a::az,h=>(vF az (freeA h a)).trans (HK h (ul h a) a)
def BG(t:Nat)(h:ac):∀k,(flushN t h k).1.b=h.b/\(flushN t h k).1.O=h.O
 | 0=>⟨rfl,rfl⟩
 | k+1=>by
  obtain⟨a,b⟩:=BG t h k;exact⟨(vF _ _).trans a,(fZ _ _).2.1.trans b⟩
def Hw(h:ac)(t i:Nat):(GN h t i).b=h.b/\(GN h t i).O=dele h.O i:=⟨vr _ _ _,(fB _ _ _).2.1⟩
def JB(h:ac)(t i:Nat):(freeT h t i).1.b=h.b/\(((freeT h t i).2=0/\(freeT h t i).1.O=dele h.O i)\/((freeT h t i).2=5/\(freeT h t i).1=h)):=by
 unfold freeT
 repeat' split
 ·exact⟨rfl,.inl ⟨rfl,rfl⟩⟩
 ·exact⟨rfl,.inr ⟨rfl,rfl⟩⟩
 ·exact⟨(Hw h t i).1,.inl ⟨rfl,(Hw h t i).2⟩⟩
 ·exact⟨rfl,.inl ⟨rfl,rfl⟩⟩
 exact⟨rfl,.inr ⟨rfl,rfl⟩⟩
def J2(h:ac):∀n,(stN h n).1.b=h.b/\(stN h n).1.O=h.O
 | 0=>⟨rfl,rfl⟩
 | n+1=>by
  obtain⟨a,b⟩:=J2 h n;unfold stN;split
  ·exact⟨a,b⟩
  exact⟨a,b⟩
def CI.stN{h:ac}(a:aX h [])(b:JI h)(c:CI h):∀n,CI (stN h n).1/\Kp h (stN h n).1
 | 0=>⟨c,CX h⟩
 | n+1=>by
  obtain⟨g,i⟩:=yk a b n;obtain⟨d,f⟩:=CI.stN a b c n;unfold Ab.stN;split
  ·rename_i e
   unfold wI at e;rw[I0]at e;obtain⟨j,k⟩:=CI.mStep g i d e.1;exact⟨j,f.trans k⟩
  exact⟨d,f⟩
def yV(h:ac):(started h).1.b=h.b/\(started h).1.O=h.O:=by
 unfold started;split<;>exact⟨rfl,rfl⟩
structure CW(w:bj):Prop where
 ci:CI w.Z
 rs:RS w
def CW.keep(h:CW w){g:ac}(a:CI g/\Kp w.Z g)(b:g.O=w.Z.O)(c:g.b=w.Z.b):CW ⟨g,w.b2⟩:=⟨a.1,h.rs.keep b a.2 c⟩
def CW.obj(h:uH w m)(c:CW w)(a:bL)(b:i<w.Z.O.length):CW (mc w a i).1:=by
 unfold mc;split
 ·unfold q7
  split
  ·exact c
  split
  ·rename_i q
   unfold qR at q;have l:=CI.freeT (t:=a.y.toNat) h.inv h.ji c.ci b ω;obtain⟨r,u⟩:=JB w.Z a.y.toNat i;refine⟨l.1,?_⟩;show RS ⟨(freeT w.Z a.y.toNat i).1,if _ then _ else _⟩;rcases u with⟨f,d⟩|⟨f,d⟩
   ·rw[CD f];exact c.rs.free h.inv b d l.2 r
   rw[CC (by rw[f];decide),d];exact c.rs
  exact c
 split
 ·unfold nL
  split
  ·exact c
  rename_i g;split
  ·exact c
  rename_i n;split
  ·exact c
  rename_i j;have g:=Classical.not_not.1 g;have j:=Classical.not_not.1 j;exact⟨(CI.store h.inv h.ji c.ci b g n).1,RS.store c.rs h.inv h.ji c.ci b g j n⟩
 unfold qL;split
 ·rename_i e
  obtain⟨-,f,d⟩:=e;obtain⟨o,y,A⟩:=fT _ _ f;have k:=of_decide_eq_true y;have p:=k.symm.trans (Int.mul_comm _ _);exact⟨(CI.trimH h.inv c.ci b o p d).1,RS.trim c.rs h.inv c.ci b o p d⟩
 exact c
def CW.thread(h:uH w m)(c:CW w)(a:bL):CW ⟨(iX w.Z a).1,w.b2⟩:=by
 have b:=c.ci;unfold iX;split
 ·split
  ·exact CW.keep (g:={w.Z with a1:=gv w.Z.a1 a.y.toNat}) c ⟨⟨b.z,b.jv,b.jd,b.jc,b.jn,b.m1,b.m2⟩,CX w.Z⟩ rfl rfl
  exact c
 split
 ·exact c
 rename_i e;have e:=Classical.not_not.1 e;obtain⟨-,i⟩:=e;unfold qR at i;split
 ·exact c.keep (CI.collect (t:=a.y.toNat) h.inv b ω) (fB _ _ _).2.1 (vr _ _ _)
 have j:a.y.toNat<w.Z.T.length:=ω
 have f:=CI.flushN h.inv j b (O4 4);have d:=BG a.y.toNat w.Z 4;generalize flushN a.y.toNat w.Z 4=r at f d |-;exact CW.keep (g:=r.1) c f d.2 d.1
def CW.act(h:uH w m)(c:CW w)(a:bL):CW (jw w a).1:=by
 unfold jw;split
 ·have b:=CI.allocH (t:=a.y) (size:=a.N) h.inv h.ji c.ci
  refine⟨b.ci,?_⟩;show RS ⟨(allocH w.Z a.y a.N).1,if _ then _ else _⟩;split
  ·rename_i e
   obtain⟨d,f,g,i,-⟩:=b.yes e;exact RS.alloc (x:=⟨w.Z.b,(allocH w.Z a.y a.N).2.1,a.N,a.y⟩) c.rs h.inv d rfl f ⟨g,i⟩
  rename_i e;obtain⟨j,k,l,-⟩:=b.no e;exact c.rs.keep j k l
 split
 ·split
  ·exact c
  rename_i e;exact c.obj h a (fT _ _ (by unfold mq at e;omega)).1
 split
 ·exact c.thread h a
 split
 ·unfold qK
  split
  ·rename_i e
   exact c.keep (CI.tick h.inv c.ci e.2.1.1 e.2.2) (fZ _ _).2.1 (vF _ _)
  exact c
 split
 ·unfold qB
  split
  ·exact c
  rename_i e;exact c.keep (CI.started h.inv c.ci (by simpa using e)) (yV _).2 (yV _).1
 split
 ·exact c.keep (CI.stN h.inv h.ji c.ci _) (J2 _ _).2 (J2 _ _).1
 exact c
def Ni(c:bJ):CW (world0 c):=⟨CI.newHeap ..,rfl,List.Pairwise.nil,λy=>⟨λh=>(by cases h),λ⟨_,h,_⟩=>(by cases h)⟩⟩
def K3{c:bJ}(h:H0 c)(acts:List bL):∀n,CW (kY c acts n).1
 | 0=>Ni c
 | n+1=>(K3 h acts n).act (uB h acts n) _
def sm{α:Type}(f:α->Int):List α->Int
 | []=>0
 | a::l=>f a+sm f l
def Nu(b:aX h []):(gz h).length=h.O.length:=by
 have c:=λo a=>b.onu o a
 unfold gz;rw[CD b.to,vU (λo a=>by have:=c o a;omega),List.filter_eq_self.2];intro o a;have:=c o a;exact O0 ω
open Go.RowKit
set_option maxRecDepth 20000
set_option maxHeartbeats 4000000
def cells1(xs:List Int)(i:Nat)(h:i<xs.length):[rI .S (nth xs i)]=((xs.map (rI .S)).take (i+1)).drop i:=by
 rw[List.drop_take,<-Z5,iC h,show i+1 - i=1 by omega]
 rfl
def E0(k:am)(j:dE)(c:aF k=true)(D:lu j=true):zzA 493 false [.val (some 5) (am.enc .S k),.val (some 5) (dE.enc .S j)] (.tup [some 5,some 5]) (am.enc .own (gm k j).1++dE.enc .own (gm k j).2):=by
 obtain⟨F,Y,Z,Q,j6⟩:=dM.1 D;have R:=po F;have y:=bX c;have g:=gj k y;have l:=tg j (Bk D);have b:=ig k y;rw[c,Bool.and_true]at b;have o:=yO j (Bk D);rw[D]at o;have d:=eP k j.W.a3 y.1.2;have p:=eP k j.W.a0 y.1.2;have r:=cz k.F.Q j.W.a3 y.1.2;have t:=cz k.F.Q j.W.a0 y.1.2;have L:=(bu.1 (aH.1 c).2.2.1).2.2;have S:=(aZ.1 (aH.1 c).2.1).2.2.1;have q:jmay k j=false->gm k j=(k,j):=λe=>by unfold gm;rw[e];rfl
 refine fO 149 [(1,262,[11,12,13,14,15,16,0,1,2,3,4,5,6,1003,1004,1005,7]),(2,6,[17,18,19,20,8,9]),(3,33,[21,22,23,24,25,26,27,28,29,30,31,32,33,34,35,36,37,38,39,40,41,42,43,44,45,46,47,48,49,50,51,52,53]),(4,258,[56,57,0,1,2,1001,3]),(15,272,[82,83,84,85,86,87,88,89,90,91,92,93,94,81,95,96,0,1,2,3,4,5,6,7,8,9,10,11,12,13,14,15,16,1015]),(25,273,[123,124,125,126,127,128,129,130,131,132,133,134,135,122,136,137,138,0,1,2,3,4,5,6,7,8,9,10,11,12,13,14,15,16,17,1015]),(29,258,[147,148,0,1,2,1001,3])] Tryz.func493 rfl ?_ (.inr (aD (CZ _) (dE.enc_fr _)));by_cases u:k.Calls=100000
 ·rw[X0 (λn=>n u)]at b
  rw[q (by rw[<-X7,pV];exact λh=>h.1.2 u)]
  repeat'(first|refine gP ?_|fail)
  rfl
 rw[O0 u]at b;by_cases B:(af k.F.Q j.W.a3).e=0
 ·rw[X0 (λn=>n B)]at d
  rw[q (by rw[<-X7,pV];exact λh=>h.2.2.1 B)]
  repeat'(first|refine gP ?_|fail)
  rfl
 rw[O0 B]at d;by_cases w:(af k.F.Q j.W.a0).e=0
 ·rw[X0 (λn=>n w)]at p
  rw[q (by rw[<-X7,pV];exact λh=>h.2.2.2.1 w)]
  repeat'(first|refine gP ?_|fail)
  rfl
 rw[O0 w]at p;by_cases G:(af k.F.Q j.W.a3).j=(af k.F.Q j.W.a0).j
 ·rw[q (by rw[<-X7,pV];exact λh=>h.2.2.2.2 G)]
  repeat'(first|refine gB ?_|fail)
  rfl
 have T:jmay k j=true:=pV.2 ⟨⟨c,u⟩,D,B,w,G⟩;rw[show gm k j=jstep k j by unfold gm;rw[T];rfl];have H:j.W.a0≠j.W.a3:=λe=>G (by rw[e])
 unfold jstep;by_cases M:j.a9=0
 ·rw[CD M]
  have a:=qV k j.W.a0 1 c u w (.inl rfl);cases e:(ky k j.W.a0 1).2<;>rw[e]at a
  all_goals
   repeat'(first|refine gB ?_|fail)
   rfl
 rw[CC M];by_cases N:j.a9=1
 ·rw[CD N]
  by_cases E:j.b=j.W.V.length
  ·rw[CD E]
   repeat'(first|refine gB ?_|fail)
   rfl
  rw[CC E];obtain⟨n,C⟩:=C4 Q;have a:=Jm k j.W.a0 j.W.a3 (nth j.W.V j.b.toNat) c u w B (gu F ω);rw[C,Z3]at a;have J:n<j.W.V.length:=ω
  rw[show nth j.W.V j.b.toNat=nth j.W.V n by rw[C];rfl]
  repeat'(first|refine gB ?_|(conv=>whnf);refine Sl.mid (rows':=[rI .S (nth j.W.V n)]) n (n+1) C ω ω (by rw[O1];omega) (aS λ_=>rfl) (cells1 _ _ J) ?_)
  rfl
 rw[CC N];by_cases O:j.a9=2
 ·rw[CD O]
  have a:=HY k j.W.a0 j.W.a3 c u w B H;cases e:(w8 k j.W.a0 j.W.a3).2<;>rw[e]at a
  all_goals
   repeat'(first|refine gB ?_|fail)
   rfl
 rw[CC O];by_cases K:j.a9=3
 ·rw[CD K]
  obtain⟨p1,p2,p3,U,p5⟩:=bR c B;by_cases E:0<j.b
  ·rw[CD E]
   have P:=gu F (i:=(j.b - 1).toNat) ω;have V:=ax (xs:=j.W.V) (i:=(j.b - 1).toNat) ω;have W:0<=j.W.a3*16+nth j.W.V (j.b - 1).toNat/\j.W.a3*16+nth j.W.V (j.b - 1).toNat<512:=ω
   have X:(j.W.a3*16+nth j.W.V (j.b - 1).toNat) / 16=j.W.a3:=ω
   have a:=yo k.F (j.W.a3*16+nth j.W.V (j.b - 1).toNat) 0 (kg c) y.1 W ω (λ_=>by rw[X];exact⟨U,ω,row16 c (f:=bN k j.W.a3) (by unfold bN;omega)⟩);generalize (iP k.F (j.W.a3*16+nth j.W.V (j.b - 1).toNat) 0).1=m at a |-;generalize (iP k.F (j.W.a3*16+nth j.W.V (j.b - 1).toNat) 0).2=e at a
   repeat'(first|refine gB ?_|(conv=>whnf);refine CP ω (aa V) ?_)
   rfl
  rw[CC E];have a:=qV k j.W.a0 2 c u w (.inr rfl);cases e:(ky k j.W.a0 2).2<;>rw[e]at a
  all_goals
   repeat'(first|refine gB ?_|fail)
   first|rfl|(rw[<-K];rfl)
 rw[CC K]
 repeat'(first|refine gB ?_|fail)
 rfl
def Wh(h:ac):Int:=(gm h.G h.Y).2.a9
def A7(h:ac)(l:aX h [])(n:h.k=true)(o:ac.sml h)(t:h.G.Calls<=99000):zzA 387 false [.val (some 24) (ac.enc .S h)] (.tup [some 24,none,none]) (ac.enc .own (mStep h)++[I (Wh h),B true]):=by
 obtain⟨q,-,-⟩:=l.job n;have i:=i7 h o;have c:=cr h o;rw[dz,l.to]at c;have j:=E0 h.G h.Y l.ker q;have a:=aD (b:=[I (Wh h),B true]) (ac.enc_fr (mStep h)) ⟨trivial,trivial,trivial⟩;unfold Wh mStep at a |-;generalize gm h.G h.Y=r at j a |-;have d:(ac.enc .S h)=(ac.enc .S h).set 18 (B true):=by rw[<-n];rfl
 rw[d];rw[d]at i c;by_cases e:r.2.a9=4
 ·rw[CD (show over r.2=true from O0 (.inl e)),CD (show over r.2=true from O0 (.inl e))]at a |-
  refine fO 51 [(3,260,[23,24,25,26,0,1,2,3,4,1001,1002,1003,5,6])] Tryz.func387 rfl ?_ (.inr a)
  repeat'((conv=>whnf);first|with_reducible (first|refine Lm ?_|refine Wm ω ?_|refine dF ω (λg=>?_)|refine eT ω (λg=>?_)|refine eF ω (λg=>?_)|refine Bn ?_|refine js.wk rfl ?_)|refine Bt ?_|refine Bu ?_|refine CE ?_|refine CB (i) ?_|refine CB (c) ?_|refine CB (j) ?_|refine CE ?_)
  rw[e];exact wC
 by_cases k:r.2.a9=5
 ·rw[CD (show over r.2=true from O0 (.inr k)),CD (show over r.2=true from O0 (.inr k))]at a |-
  refine fO 51 [(3,260,[23,24,25,26,0,1,2,3,4,1001,1002,1003,5,6])] Tryz.func387 rfl ?_ (.inr a)
  repeat'((conv=>whnf);first|with_reducible (first|refine Lm ?_|refine Wm ω ?_|refine dF ω (λg=>?_)|refine eT ω (λg=>?_)|refine eF ω (λg=>?_)|refine Bn ?_|refine js.wk rfl ?_)|refine Bt ?_|refine Bu ?_|refine CE ?_|refine CB (i) ?_|refine CB (c) ?_|refine CB (j) ?_|refine CE ?_)
  rw[k];exact wC
 have p:¬over r.2=true:=by unfold over;simp[e,k]
 rw[CC p,CC p]at a |-;refine fO 51 [(3,260,[23,24,25,26,0,1,2,3,4,1001,1002,1003,5,6])] Tryz.func387 rfl ?_ (.inr a)
 repeat'(first|refine gB ?_|fail)
 rw[n]
 rfl
section
variable{P:Program}{w0 w w1:World}{M S0 S:ah}{N:fm}{φ:Nat->ah}{F:Nat->AV}{a:Act}{TE:Nat->Option TI}
end
def M1{w:World}{S Y:ah}{t:List C}{u:Nat->Value}(d:cK w S Y (ac.enc .own h++t) u):cK w S Y (cV h++t) u:=by
 obtain⟨f,b,e,g⟩:=d;refine⟨f,λj c a=>?_,e,g⟩;have i:cV h++t=(((ac.enc .own h++t).set 6 (oS h)).set 7 (oL h)).set 8 (oO h):=rfl;rw[i]at a;by_cases k:j=8
 ·subst k
  have:c=oO h:=by simpa[ac.enc] using a.symm
  rw[this];exact rz (b 8 _ rfl)
 by_cases l:j=7
 ·subst l
  have:c=oL h:=by simpa[ac.enc] using a.symm
  rw[this];exact rz (b 7 _ rfl)
 by_cases n:j=6
 ·subst n
  have:c=oS h:=by simpa[ac.enc] using a.symm
  rw[this];exact rz (b 6 _ rfl)
 rw[List.getElem?_set_ne ω,List.getElem?_set_ne ω,List.getElem?_set_ne ω]at a;exact b j c a
variable{P:Program}
def ar.E{sh:Bool}{A:List RA}{k:Kd}{t:List C}(c:ar P f sh A k (ac.enc .own h++t)):ar P f sh A k (cV h++t):=by
 obtain⟨a,b⟩:=c;refine⟨a,λw S d g i=>(b w S d g i).mono λe w1 j=>?_⟩;obtain⟨v,l,n,X,S1,o,p,q,r,u⟩:=j;exact⟨v,l,n,X,S1,o,p,q,r,M1 u⟩
def wd(h:ac)(a:ac.sml h)(b:h.k=false):zzA 387 false [.val (some 24) (ac.enc .S h)] (.tup [some 24,none,none]) (cV h++[I h.Y.a9,B false]):=by
 have c:=dw h a;refine fO 51 [(3,260,[23,24,25,26,0,1,2,3,4,1001,1002,1003,5,6])] Tryz.func387 rfl ?_ (.inr (aD (bT _) ⟨trivial,trivial,trivial⟩))
 repeat'(first|refine gP ?_|(conv=>whnf);refine Bf.f b ?_)
 rfl
def stp1(h:ac):ac:=if h.k=true then mStep h else h
def J0(h:ac)(d:aX h [])(b:ac.sml h)(e:h.G.Calls<=99000):zzA 269 false [.val (some 24) (ac.enc .S h)] (.tup [some 24,none]) (cV (stp1 h)++[B h.k]):=by
 unfold stp1;cases c:h.k with
 | true=>
  rw[CD rfl];have a:=(A7 h d c b e).E;generalize mStep h=g at a |-;refine fO 15 [] Tryz.func269 rfl ?_ (.inr (aD (bT _) ⟨trivial,trivial⟩))
  repeat'(first|refine gP ?_|fail)
  rfl
 | false=>
  rw[CC (by simp)];have a:=wd h b c;refine fO 15 [] Tryz.func269 rfl ?_ (.inr (aD (bT _) ⟨trivial,trivial⟩))
  repeat'(first|refine gP ?_|fail)
  rfl
def wM(q:bD)(now:Int)(l:gS q=true)(M:q.a5.length<=4096)(F:0<=now/\now<=1000000)(b:∀y∈q.a5,y.b5<=1000000):zzA 411 false [.val (some 2) (bD.enc .S q),.val none [I now],.val none [I 100]] (.tup [some 2,none]) (RW q now):=by
 have p:bD.sml q:=⟨ω,λ_ _=>trivial⟩
 have G:=mY q p;have r:=pi q p;rw[l]at r;have t:=aG now 0 1000000;rw[O0 F]at t;have u:=aG 100 0 1000000;rw[O0 (by decide)]at u;have n:=(k6.1 l).1;have a:iq (RW q now):=aD (bD.enc_fr _) (pW _);have w:∀i,i<q.a5.length->0<=(nth q.a5 i).b5:=λi c=>(n _ (au c)).2.2.2
 unfold RW at a |-;generalize H:rE now q.a5=k at a |-;refine fO 59 [] Tryz.func411 rfl ?_ (.inr a)
 repeat'(first|refine gP ?_|fail)
 (conv=>whnf)
 refine Lp.fz 8 (ι:=Nat) (λi=>[(1,.H .one [I now]),(2,.H .one [I 100]),(3,.H .box (bD.enc .S q)),(6,.H .box [I 0,.z]),(8,.H .box (bD.enc .S q)),(9,.H .one [I (i:Nat)])]) (λi=>i<=q.a5.length/\∀j,j<i->(nth q.a5 j).b5<now - 100) (λi=>q.a5.length - i) 0 ?_ ⟨Z0 _,λj J=>ω⟩ λi c=>?_
 ·(repeat'(first|exact trivial|rfl|exact CL rfl (show RK (ed (bD.enc .own q)) (bD.enc .S q) by rw[bD.enc_fz];exact nB _)|refine CL ?_ ?_))
 obtain⟨c,B⟩:=c;by_cases d:i<q.a5.length/\(nth q.a5 i).b5<now - 100
 ·have g:=ax d.1
  have:=w i d.1;have:=b _ (au d.1)
  repeat'(first|refine gE ?_|fail)
  ((conv=>whnf);refine CG (i+1) ⟨ω,λj J=>by by_cases e:j=i;(subst e;exact d.2);exact B j ω⟩ ω ?_;(exact wC))
 have h:=LV now (i:=i) c B (λK L=>d ⟨K,L⟩);rw[H]at h;subst h;have C:=l8 (q.a5.take k) (by rw[O2];omega);have E:=l8 (q.a5.drop k) (by rw[Y4];omega);by_cases o:k<q.a5.length
 ·have g:=ax o
  have:=w k o;have:=b _ (au o)
  repeat'(first|refine gE ?_|(conv=>whnf);first|with_reducible refine Bf.D (λl=>?_) (λl=>?_)|refine Sl.pre k rfl (by rw[O1];omega) (aS λ_=>rfl) Y5 ?_|refine Sl.suf k rfl (by rw[O1];omega) (aS λ_=>rfl) Z5 ?_)
  rfl
 repeat'(first|refine gE ?_|(conv=>whnf);first|refine Sl.pre k rfl (by rw[O1];omega) (aS λ_=>rfl) Y5 ?_|refine Sl.suf k rfl (by rw[O1];omega) (aS λ_=>rfl) Z5 ?_)
 rfl
def N1(h:ac)(xs:List aO)(k:Nat)(a:k<xs.length):freeAs h ((xs.take (k+1)).map (·.Addr))=freeA (freeAs h ((xs.take k).map (·.Addr))) (nth xs k).Addr:=by
 unfold freeAs;rw[Y7,ax a];simp
def Am(h:ac)(n:Int)(o:ac.sml h)(c:aX h [])(u:h.G.Calls≠100000)(p:0<=n/\n<=1000)(e:h.b1+n<=1000000):zzA 268 false [.val (some 24) (ac.enc .S h),.val none [I n]] (.tup [some 24,none]) (cV (tick h n)++[I ((o9 h n).length:Nat)]):=by
 have w:=dw h o;have q:=cr h o;rw[dz,c.to]at q;have r:=aG n 0 1000;rw[O0 p]at r;have a:=c.nums;unfold cT at a;rw[C0]at a;have B:=c.lens.quar;have t:=wM h.a7 (h.b1+n) c.quar ω ω (λy C=>by have:=c.snc y C;omega);unfold RW at t;have b:=c.aged (n:=n) p.1 e;have D:((h.a7.a5.take (rE (h.b1+n) h.a7.a5))).length<=512:=by rw[O2];omega
 have g:o9 h n=(h.a7.a5.take (rE (h.b1+n) h.a7.a5)).map (·.Addr):=rfl;have E:cV (aged h n)=((cV h).set 15 (I (h.b1+n))).set 13 (.s .own ((h.a7.a5.drop (rE (h.b1+n) h.a7.a5)).map (aO.enc .own))):=rfl;unfold tick;rw[g]at b |-;rw[List.append_nil]at b;generalize h.a7.a5.take (rE (h.b1+n) h.a7.a5)=out at *;refine fP 63 [(247,[2,0])] [] Tryz.func268 rfl ?_ (.inr (aD (bT _) ⟨trivial,trivial⟩))
 repeat'(first|refine gB ?_|fail)
 (conv=>whnf)
 refine CH (ι:=Nat) (λk=>[(4,.H .box tZ),(6,.H .box (cV (freeAs (aged h n) ((out.take k).map (·.Addr))))),(8,.H .one (dX .own out)),(50,.c1 8 0 [] none),(51,.H .one [I (out.length)]),(52,.H .one [I ((k:Nat):Int)])]) (λk=>k<=out.length) (λk=>out.length - k) (0) ?_ (Z0 _) λk G=>?_
 ·exact wC
 by_cases i:k<out.length
 ·have d:=ax i
  have j:out.map (·.Addr)=(out.take k).map (·.Addr)++(nth out k).Addr::(out.drop (k+1)).map (·.Addr):=by
   conv=>lhs;rw[<-List.take_append_drop k out,iC i]
   simp
  have l:aX (freeAs (aged h n) ((out.take k).map (·.Addr))) ((nth out k).Addr::(out.drop (k+1)).map (·.Addr)):=aX.freeAs (by rw[<-j];exact b);have F:=kX _ _ _ l (by rw[(fZ _ _).2.2.1];exact u)
  repeat'(first|refine gE ?_|(conv=>whnf);refine CK (F) (.inl rfl) ?_)
  ((conv=>whnf);refine CG (k+1) ω ω ?_)
  rw[N1 _ out k i];exact wC
 obtain rfl:k=out.length:=ω
 rw[I7]
 repeat'(first|refine gE ?_|fail)
 rw[O1]
 rfl
def ar.fzE{sh:Bool}{A:List RA}{k:Kd}{g:ac}{x:C}(c:ar P f sh A k (cV g++[x]))(b:fz x=x):ar P f sh A k (ac.enc .S g++[x]):=by
 have a:=c.fzR;rw[dI,Fo]at a;change ar _ _ _ _ _ (_++[fz x]) at a
 rwa [b]at a
def Er(h:ac)(t:Int)(a:ac.sml h)(c:aX h [])(d:¬(h.G.Calls≠100000/\0<=t/\t<=h.T.length - 1)):zzA 91 false [.val (some 24) (ac.enc .S h),.val none [I t]] (.tup [some 24,none]) (cV h++[I 0]):=by
 have e:=dw h a;have b:=oo h t a;rw[c.to,show(decide (0<=t/\t<=h.T.length - 1)&&decide (h.G.Calls≠100000)&&true)=false by
   rw[Bool.and_true,<-X7,I0,C0,C0];exact λx=>d ⟨x.2,x.1⟩]at b
 refine fP 52 [(247,[2,0])] [] Tryz.func91 rfl ?_ (.inr (aD (bT _) ⟨trivial,trivial⟩))
 repeat'(first|refine gP ?_|fail)
 rfl
def Gi(h:ac)(n:Int)(g:ac.sml h)(i:aX h [])(j:¬(h.G.Calls≠100000/\(0<=n/\n<=1000)/\h.b1+n<=1000000)):zzA 268 false [.val (some 24) (ac.enc .S h),.val none [I n]] (.tup [some 24,none]) (cV h++[I 0]):=by
 have d:=dw h g;have b:=cr h g;rw[dz,i.to]at b;have c:=aG n 0 1000;have a:=i.nums;unfold cT at a;rw[C0]at a;by_cases k:h.G.Calls=100000
 ·refine fP 63 [(247,[2,0])] [] Tryz.func268 rfl ?_ (.inr (aD (bT _) ⟨trivial,trivial⟩))
  repeat'(first|refine gB ?_|fail)
  rfl
 by_cases e:0<=n/\n<=1000
 ·rw[O0 e]at c
  have l:¬h.b1+n<=1000000:=λx=>j ⟨k,e,x⟩
  refine fP 63 [(247,[2,0])] [] Tryz.func268 rfl ?_ (.inr (aD (bT _) ⟨trivial,trivial⟩))
  repeat'(first|refine gB ?_|fail)
  rfl
 rw[X0 e]at c;refine fP 63 [(247,[2,0])] [] Tryz.func268 rfl ?_ (.inr (aD (bT _) ⟨trivial,trivial⟩))
 repeat'(first|refine gB ?_|fail)
 rfl
def Gh(h:ac)(a:ac.sml h)(b:h.k=true)(d:99000<h.G.Calls):zzA 387 false [.val (some 24) (ac.enc .S h)] (.tup [some 24,none,none]) (cV h++[I h.Y.a9,B false]):=by
 have c:=dw h a;refine fO 51 [(3,260,[23,24,25,26,0,1,2,3,4,1001,1002,1003,5,6])] Tryz.func387 rfl ?_ (.inr (aD (bT _) ⟨trivial,trivial,trivial⟩))
 repeat'(first|refine gE ?_|(conv=>whnf);refine Bf.t b ?_)
 rfl
def E5(h:ac)(i:aX h [])(a:ac.sml h):zzA 269 false [.val (some 24) (ac.enc .S h)] (.tup [some 24,none]) (cV (if wI h=true then mStep h else h)++[B (wI h)]):=by
 by_cases b:h.G.Calls<=99000
 ·have c:=J0 h i a b
  unfold stp1 at c;have e:wI h=h.k:=by unfold wI;rw[O0 b,Bool.and_true]
  rw[e];exact c
 have e:wI h=false:=by unfold wI;rw[X0 b,Bool.and_false]
 rw[e,CC (by simp)];cases g:h.k with
 | true=>
  have d:=Gh h a g ω;refine fO 15 [] Tryz.func269 rfl ?_ (.inr (aD (bT _) ⟨trivial,trivial⟩))
  repeat'(first|refine gP ?_|fail)
  rfl
 | false=>
  have d:=wd h a g;refine fO 15 [] Tryz.func269 rfl ?_ (.inr (aD (bT _) ⟨trivial,trivial⟩))
  repeat'(first|refine gP ?_|fail)
  rfl
def Lw(h:ac):∀k,(stN h k).2<=k
 | 0=>O4 _
 | k+1=>by
  have:=Lw h k;unfold stN;split
  ·show(stN h k).2+1<=_;omega
  omega
def TG(h:uH w m)(d:kj w.Z.G.w)(k:Nat)(f:k<=50):ac.sml (stN w.Z k).1:=by
 have e:∀a:bL,a.b0=10->a.N=(k:Nat)->(jw w a).1.Z=(stN w.Z k).1:=λa c b=>by
  unfold jw;rw[CC ω,CC ω,CC ω,CC ω,CC ω,CD ω];show(stN w.Z a.N.toNat).1=_;rw[b];rfl
 have c:=h.act ⟨10,0,(k:Nat),0,0⟩;have b:=FT h ⟨10,0,(k:Nat),0,0⟩;unfold rfs at b;rw[<-e ⟨10,0,(k:Nat),0,0⟩ rfl rfl];exact(c.fit (by rw[b];exact d)).1
def AN(w:bj)(a:bL)(i m:Nat)(h:uH w m)(T:m<=900)(o:ac.sml w.Z)(p:i<w.Z.O.length):zzA 264 true [.val (some 26) (bj.enc .S w),.val (some 5) (bL.enc .S a),.val (some 4) (aU.enc .S (nth w.Z.O i))] (.tup [some 26,none]) (bj.enc .S (mc w a i).1++[I (mc w a i).2]):=by
 have d:=h.inv;have K:=yw d (au p);have M:=cX d (au p) (k:=0);have N:1<=(nth w.Z.O i).q/\(nth w.Z.O i).q<=1000:=by
  rcases d.oow _ (au p) with⟨s,o,U,G⟩|⟨l,B,c,g⟩
  ·have V:=aK (d.L.sok s o)
   have:=jP (n:=(nth w.Z.O i).q) ω;omega
  have W:=dn (d.L.lok l B);omega
 have C:oJ w.Z (nth w.Z.O i).Addr=i:=by
  obtain⟨G,y,-⟩:=d.objAt (au p);exact cU (f:=(·.Addr)) (d9 d.osr) G p (by rw[y])
 have O:=d.lens.caches;unfold mc;by_cases H:a.b0=2
 ·rw[CD H]
  unfold q7;by_cases c:w.Z.G.Calls=100000
  ·rw[CD c]
   have j:=(DJ w.Z a.y (nth w.Z.O i).Addr o d.to c).fzE rfl;refine fO 102 [] Tryz.func264 rfl ?_ (.inl rfl)
   repeat'(first|refine gB ?_|(conv=>whnf);first|with_reducible refine Bf.E (λb=>?_) (λb=>?_)|refine Cl.sh j rfl ?_)
   rfl
  rw[CC c];by_cases g:0<=a.y/\a.y<=w.Z.T.length - 1
  ·rw[CD (show qR w.Z a from g)]
   obtain⟨t,P⟩:=C4 g.1;have j:=(EB w.Z (nth w.Z.O i) t o d.to c (au p) ω).fzE rfl;rw[C,<-P]at j;rw[show a.y.toNat=t by omega];have Q:=Fc w.b2 (nth w.Z.O i).Id m h.ref ω;generalize freeT w.Z t i=f at j |-;by_cases q:f.2=0
   ·rw[CD q]
    refine fO 102 [] Tryz.func264 rfl ?_ (.inl rfl)
    repeat'(first|refine gB ?_|(conv=>whnf);first|with_reducible refine Bf.E (λb=>?_) (λb=>?_)|refine Cl.sh Q rfl ?_)
    rfl
   rw[CC q];refine fO 102 [] Tryz.func264 rfl ?_ (.inl rfl)
   repeat'(first|refine gB ?_|(conv=>whnf);with_reducible refine Bf.E (λb=>?_) (λb=>?_))
   rfl
  rw[CC (show ¬qR w.Z a from g)];have j:=(EJ w.Z a.y (nth w.Z.O i).Addr o d.to c g).fzE rfl;refine fO 102 [] Tryz.func264 rfl ?_ (.inl rfl)
  repeat'(first|refine gB ?_|(conv=>whnf);with_reducible refine Bf.E (λb=>?_) (λb=>?_))
  rfl
 rw[CC H];by_cases J:a.b0=3
 ·rw[CD J]
  unfold nL;have r:=aG a.At 0 ((nth w.Z.O i).q - 1);by_cases c:0<=a.At/\a.At<=(nth w.Z.O i).q - 1;rotate_left
  ·rw[CD c]
   rw[X0 c]at r;refine fO 102 [] Tryz.func264 rfl ?_ (.inl rfl)
   repeat'(first|refine gB ?_|(conv=>whnf);with_reducible refine Bf.E (λb=>?_) (λb=>?_))
   rfl
  rw[CC (not_not_intro c)];rw[O0 c]at r;have D:0<=FS w.Z ((nth w.Z.O i).Addr+a.At):=Pv (au p) (O0 ω);by_cases q:0<=a.Value/\a.Value<=999;rotate_left
  ·have e:=(A2 w.Z ((nth w.Z.O i).Addr+a.At) a.Value o d q D).fzE rfl
   unfold tbl at e;by_cases g:(af w.Z.G.F.Q (((nth w.Z.O i).Addr+a.At) / 16)).e=1
   ·rw[CD g]at e |-
    refine fO 102 [] Tryz.func264 rfl ?_ (.inl rfl)
    repeat'(first|refine gB ?_|(conv=>whnf);with_reducible refine Bf.E (λb=>?_) (λb=>?_))
    rfl
   rw[CC g]at e |-;rw[CD q];refine fO 102 [] Tryz.func264 rfl ?_ (.inl rfl)
   repeat'(first|refine gB ?_|(conv=>whnf);with_reducible refine Bf.E (λb=>?_) (λb=>?_))
   rfl
  have e:=(x7 w.Z ((nth w.Z.O i).Addr+a.At) a.Value o d q).fzE rfl;unfold E7 tbl at e;rw[CC (show ¬FS w.Z ((nth w.Z.O i).Addr+a.At)<0 by omega)]at e;by_cases g:(af w.Z.G.F.Q (((nth w.Z.O i).Addr+a.At) / 16)).e=1
  ·rw[CD g]at e |-
   refine fO 102 [] Tryz.func264 rfl ?_ (.inl rfl)
   repeat'(first|refine gB ?_|(conv=>whnf);with_reducible refine Bf.E (λb=>?_) (λb=>?_))
   rfl
  rw[CC g]at e |-;rw[CC (not_not_intro q)];obtain⟨X,R⟩:=Ax w.b2 (nth w.Z.O i).Id a.At a.Value m h.ref ω q;simp only at e;refine fO 102 [] Tryz.func264 rfl ?_ (.inl rfl)
  repeat'(first|refine gB ?_|(conv=>whnf);first|with_reducible refine Bf.E (λb=>?_) (λb=>?_)|refine Cl.sh R rfl ?_)
  rfl
 rw[CC J];unfold qL;have u:=(zT w.Z i a.Value o d p).fzE rfl;by_cases c:w.Z.G.Calls≠100000/\mM w.Z i a.Value
 ·rw[CD c]at u |-
  rw[O0 c]at u;have F:=jN true;obtain⟨Y,S⟩:=E8 w.b2 (nth w.Z.O i).Id a.Value m h.ref ω;refine fO 102 [] Tryz.func264 rfl ?_ (.inl rfl)
  repeat'(first|refine gB ?_|(conv=>whnf);first|with_reducible refine Bf.E (λb=>?_) (λb=>?_)|refine Cl.sh S rfl ?_)
  rfl
 rw[CC c]at u |-;rw[X0 c]at u;have F:=jN false;refine fO 102 [] Tryz.func264 rfl ?_ (.inl rfl)
 repeat'(first|refine gB ?_|(conv=>whnf);with_reducible refine Bf.E (λb=>?_) (λb=>?_))
 rfl
def KO(w:bj)(a:bL)(m:Nat)(h:uH w m)(Y:m<=900)(O:kj w.Z.G.w):zzA 116 true [.val (some 26) (bj.enc .S w),.val (some 5) (bL.enc .S a)] (.tup [some 26,none]) (bj.enc .S (jw w a).1++[I (jw w a).2]):=by
 have l:=h.inv;have p:=(h.fit O).1;have C:=h.ref.sml (by omega:m<=1000);have g:=(yi w p C).fzR;rw[bj.enc_fz]at g;have i:=cr w.Z p;rw[dz,l.to]at i;have Z:=l.lens.objs;unfold jw;by_cases P:a.b0=1
 ·rw[CD P]
  obtain⟨cc,r,d⟩:=HQ w.Z a.y a.N p l (by rw[dz];exact l.to);have c:=d.fzR;rw[dI,RJ r]at c;change ar _ _ _ _ _ (_++[I _,I _]) at c;by_cases e:(allocH w.Z a.y a.N).2.2=0
  ·rw[CD e]
   have F:1<=a.N/\a.N<=1000:=by
    refine Classical.byContradiction λQ=>?_
    unfold allocH at e;rw[CD Q]at e;split at e
    ·exact absurd (show(5:Int)=0 from e) (by decide)
    split at e
    ·exact absurd (show(1:Int)=0 from e) (by decide)
    exact absurd (show(2:Int)=0 from e) (by decide)
   have j:=Ae w.b2 a.N m h.ref ω F;clear d r;generalize allocH w.Z a.y a.N=f at c e |-;refine fO 148 [(15,11,[56,57,58,59,60,61,62,63,64,65,66])] Tryz.func116 rfl ?_ (.inl rfl)
   repeat'(first|refine gB ?_|(conv=>whnf);first|with_reducible refine Bf.E (λb=>?_) (λb=>?_)|refine Cl.sh c rfl ?_|refine Cl.sh j rfl ?_)
   rfl
  rw[CC e];clear d r;generalize allocH w.Z a.y a.N=f at c e |-;refine fO 148 [(15,11,[56,57,58,59,60,61,62,63,64,65,66])] Tryz.func116 rfl ?_ (.inl rfl)
  repeat'(first|refine gB ?_|(conv=>whnf);first|with_reducible refine Bf.E (λb=>?_) (λb=>?_)|refine Cl.sh c rfl ?_)
  rfl
 rw[CC P];by_cases u:a.b0=2\/a.b0=3\/a.b0=4
 ·rw[CD u]
  have G:=ko w.Z.O (dP a.N) ω;change ar _ _ _ _ _ [I (mq w.Z a.N)]at G;by_cases e:mq w.Z a.N<0
  ·rw[CD e]
   rcases u with k|k|k
   all_goals
    refine fO 148 [(15,11,[56,57,58,59,60,61,62,63,64,65,66])] Tryz.func116 rfl ?_ (.inl rfl)
    repeat'(first|refine gB ?_|(conv=>whnf);first|with_reducible (first|refine Bf.D (λb=>?_) (λb=>?_)|refine Bf.E (λb=>?_) (λb=>?_))|refine Cq.mk (nl (some 4) (aU.enc .S) (dP a.N) w.Z.O) (tD default a).has (λL k rcs H=>?_) ?_)
    ·obtain⟨y,-,rfl,rfl,rfl⟩:=H
     exact tD y a
    rfl
  rw[CC e];obtain⟨R,f2,f3⟩:=fT (P7 a.N) w.Z.O (by unfold mq at e;omega);have S:=AN w a (mq w.Z a.N).toNat m h Y p R;have J:=ax R;change w.Z.O[(mq w.Z a.N).toNat]? = _ at J;generalize mc w a (mq w.Z a.N).toNat=f at S |-;rcases u with k|k|k
  all_goals
   refine fO 148 [(15,11,[56,57,58,59,60,61,62,63,64,65,66])] Tryz.func116 rfl ?_ (.inl rfl)
   repeat'(first|refine gB ?_|(conv=>whnf);first|with_reducible (first|refine Bf.D (λb=>?_) (λb=>?_)|refine Bf.E (λb=>?_) (λb=>?_))|refine Cq.mk (nl (some 4) (aU.enc .S) (dP a.N) w.Z.O) (tD default a).has (λL k rcs H=>?_) ?_|refine CP ω (aa J) ?_|refine Cl.sh S rfl ?_)
   ·obtain⟨y,-,rfl,rfl,rfl⟩:=H
    exact tD y a
   rfl
 rw[CC u];by_cases T:a.b0=5\/a.b0=6\/a.b0=7
 ·rw[CD T]
  unfold iX;by_cases U:a.b0=5
  ·rw[CD U]
   have c:=uK w.Z a.y p l;by_cases e:(0<=a.y/\a.y<=w.Z.T.length - 1)/\0<(nth w.Z.a1.U a.y.toNat).length
   ·rw[CD (show qR w.Z a/\0<(nth w.Z.a1.U a.y.toNat).length from e)]
    rw[CD e,O0 e]at c;have j:=jN true;refine fO 148 [(15,11,[56,57,58,59,60,61,62,63,64,65,66])] Tryz.func116 rfl ?_ (.inl rfl)
    repeat'(first|refine gB ?_|(conv=>whnf);first|with_reducible refine Bf.E (λb=>?_) (λb=>?_)|refine Cl.sh c rfl ?_)
    rfl
   rw[CC (show ¬(qR w.Z a/\0<(nth w.Z.a1.U a.y.toNat).length) from e)];rw[CC e,X0 e]at c;have j:=jN false;refine fO 148 [(15,11,[56,57,58,59,60,61,62,63,64,65,66])] Tryz.func116 rfl ?_ (.inl rfl)
   repeat'(first|refine gB ?_|(conv=>whnf);first|with_reducible refine Bf.E (λb=>?_) (λb=>?_)|refine Cl.sh c rfl ?_)
   rfl
  rw[CC U];by_cases e:w.Z.G.Calls≠100000/\0<=a.y/\a.y<=w.Z.T.length - 1;rotate_left
  ·rw[CD (show ¬(w.Z.G.Calls≠100000/\qR w.Z a) from e)]
   by_cases K:a.b0=6
   ·have d:=nK w.Z a.y p l
    rw[CC e,CC e]at d;have c:=d.fzE rfl;refine fO 148 [(15,11,[56,57,58,59,60,61,62,63,64,65,66])] Tryz.func116 rfl ?_ (.inl rfl)
    repeat'(first|refine gB ?_|(conv=>whnf);with_reducible refine Bf.E (λb=>?_) (λb=>?_))
    rfl
   have e7:a.b0=7:=ω
   have c:=(Er w.Z a.y p l e).fzE rfl;refine fO 148 [(15,11,[56,57,58,59,60,61,62,63,64,65,66])] Tryz.func116 rfl ?_ (.inl rfl)
   repeat'(first|refine gB ?_|(conv=>whnf);with_reducible refine Bf.E (λb=>?_) (λb=>?_))
   rfl
  rw[CC (show ¬¬(w.Z.G.Calls≠100000/\qR w.Z a) from not_not_intro e)];by_cases K:a.b0=6
  ·rw[CD K]
   have d:=nK w.Z a.y p l;rw[CD e,CD e]at d;have c:=d.fzE rfl;refine fO 148 [(15,11,[56,57,58,59,60,61,62,63,64,65,66])] Tryz.func116 rfl ?_ (.inl rfl)
   repeat'(first|refine gB ?_|(conv=>whnf);with_reducible refine Bf.E (λb=>?_) (λb=>?_))
   rfl
  rw[CC K];have e7:a.b0=7:=ω
  obtain⟨t,ht⟩:=C4 e.2.1;have c:=(yI w.Z t p l.to e.1 ω).fzE rfl;rw[<-ht]at c;rw[show a.y.toNat=t by omega];refine fO 148 [(15,11,[56,57,58,59,60,61,62,63,64,65,66])] Tryz.func116 rfl ?_ (.inl rfl)
  repeat'(first|refine gB ?_|(conv=>whnf);with_reducible refine Bf.E (λb=>?_) (λb=>?_))
  rfl
 rw[CC T];by_cases V:a.b0=8
 ·rw[CD V]
  unfold qK;by_cases e:w.Z.G.Calls≠100000/\(0<=a.N/\a.N<=1000)/\w.Z.b1+a.N<=1000000
  ·rw[CD e]
   have c:=(Am w.Z a.N p l e.1 e.2.1 e.2.2).fzE rfl;refine fO 148 [(15,11,[56,57,58,59,60,61,62,63,64,65,66])] Tryz.func116 rfl ?_ (.inl rfl)
   repeat'(first|refine gB ?_|(conv=>whnf);with_reducible refine Bf.E (λb=>?_) (λb=>?_))
   rfl
  rw[CC e];have c:=(Gi w.Z a.N p l e).fzE rfl;refine fO 148 [(15,11,[56,57,58,59,60,61,62,63,64,65,66])] Tryz.func116 rfl ?_ (.inl rfl)
  repeat'(first|refine gB ?_|(conv=>whnf);with_reducible refine Bf.E (λb=>?_) (λb=>?_))
  rfl
 rw[CC V];by_cases W:a.b0=9
 ·rw[CD W]
  unfold qB;have c:=(z8 w.Z p).fzE rfl;unfold E6 at c;rw[l.to]at c;cases q:w.Z.k with
  | true=>
   rw[CD rfl];rw[CC (λx=>by rw[q]at x;cases x.1)]at c;have j:=jN false;refine fO 148 [(15,11,[56,57,58,59,60,61,62,63,64,65,66])] Tryz.func116 rfl ?_ (.inl rfl)
   repeat'(first|refine gB ?_|(conv=>whnf);with_reducible refine Bf.E (λb=>?_) (λb=>?_))
   rfl
  | false=>
   rw[CC (by simp)];rw[CD ⟨q,rfl⟩]at c;have j:=jN (started w.Z).2;refine fO 148 [(15,11,[56,57,58,59,60,61,62,63,64,65,66])] Tryz.func116 rfl ?_ (.inl rfl)
   repeat'(first|refine gB ?_|(conv=>whnf);with_reducible refine Bf.E (λb=>?_) (λb=>?_))
   rfl
 rw[CC W];by_cases k10:a.b0=10;rotate_left
 ·rw[CC (λx=>k10 x.1)]
  refine fO 148 [(15,11,[56,57,58,59,60,61,62,63,64,65,66])] Tryz.func116 rfl ?_ (.inl rfl)
  repeat'(first|refine gB ?_|(conv=>whnf);with_reducible refine Bf.E (λb=>?_) (λb=>?_))
  all_goals first|omega|rfl
 have c:=aG a.N 0 50;by_cases q:0<=a.N/\a.N<=50;rotate_left
 ·rw[CC (λx=>q x.2)]
  rw[X0 q]at c;refine fO 148 [(15,11,[56,57,58,59,60,61,62,63,64,65,66])] Tryz.func116 rfl ?_ (.inl rfl)
  repeat'(first|refine gB ?_|(conv=>whnf);with_reducible refine Bf.E (λb=>?_) (λb=>?_))
  rfl
 rw[CD ⟨k10,q⟩];rw[O0 q]at c;obtain⟨n,Q⟩:=C4 q.1;rw[show a.N.toNat=n by omega];refine fO 148 [(15,11,[56,57,58,59,60,61,62,63,64,65,66])] Tryz.func116 rfl ?_ (.inl rfl)
 repeat'(first|refine gB ?_|(conv=>whnf);with_reducible refine Bf.E (λb=>?_) (λb=>?_))
 (conv=>whnf)
 refine CH (ι:=Nat) (λk=>[(3,.H .box (bL.enc .S a)),(4,.H .box [.z,.z,.z,I 0,.z,.z,.z,.z,.z,.z,.z,.z,I 0,.z,I 0,I 0,I 0,I 0,B false,I 0,I 0,.z,I 0,I 0,I 0,.z]),(6,.H .box (bj.enc .S ⟨(stN w.Z k).1,w.b2⟩)),(7,.H .one [I (((stN w.Z k).2:Nat):Int)]),(10,.H .one [I ((k:Nat):Int)])]) (λk=>k<=n) (λk=>n - k) (0) ?_ (Z0 _) λk hk=>?_
 ·exact wC
 obtain⟨g1,g2⟩:=yk l h.ji k;have M:=TG h O k ω;have hk2:(stN w.Z k).2<=k:=Lw w.Z k;have j:=(E5 (stN w.Z k).1 g1 M).fzE rfl;by_cases lk:k<n
 ·have o:stN w.Z (k+1)=if wI (stN w.Z k).1=true then(mStep (stN w.Z k).1,(stN w.Z k).2+1) else stN w.Z k:=rfl
  cases X:wI (stN w.Z k).1 with
  | true=>
   rw[X]at o j;rw[CD rfl]at o j
   repeat'(first|refine gE ?_|(conv=>whnf);with_reducible refine Bf.D (λb=>?_) (λb=>?_))
   ((conv=>whnf);refine CG (k+1) ω ω ?_)
   rw[o];exact wC
  | false=>
   rw[X]at o j;rw[CC (by simp)]at o j
   repeat'(first|refine gE ?_|(conv=>whnf);with_reducible refine Bf.D (λb=>?_) (λb=>?_))
   ((conv=>whnf);refine CG (k+1) ω ω ?_)
   rw[o];exact wC
 obtain rfl:k=n:=ω
 repeat'(first|refine gE ?_|(conv=>whnf);with_reducible refine Bf.D (λb=>?_) (λb=>?_))
 rfl
def nv(zs:List Int)(c:iu)(m:Nat):Nat->List bL × iu
 | 0=>([],(b8 zs c (m+1)).2)
 | i+1=>((nv zs c m i).1++[(p6 zs (nv zs c m i).2 (1+(i:Int) / 2)).1],(p6 zs (nv zs c m i).2 (1+(i:Int) / 2)).2)
def sJ(zs:List Int)(c:iu):List bL × iu:=nv zs c 60 (b8 zs c 61).1.toNat
def x8{zs:List Int}{c:iu}(m:Nat)(h:c.i<=zs.length):∀{n:Nat},n<=100->(nv zs c m n).1.length=n/\(∀a∈(nv zs c m n).1,Ve a)/\(nv zs c m n).2.i<=zs.length
 | 0,_=>⟨rfl,λa b=>(by cases b),bW h _⟩
 | n+1,k=>by
  obtain⟨d,e,f⟩:=x8 m h (n:=n) ω;obtain⟨g,j⟩:=PI (ids:=1+(n:Int) / 2) f ω;refine⟨by simp only[nv,X4,List.length_singleton,d],λa b=>?_,j⟩;rcases I4.1 b with b|b
  ·exact e a b
  rw[C2.1 b];exact g
variable{zs:List Int}
def QD{c:iu}(h:c.i<=zs.length):(sJ zs c).1.length<=60/\∀a∈(sJ zs c).1,Ve a:=by
 have d:=bS zs c (n:=61) (by decide);obtain⟨e,b,-⟩:=x8 (zs:=zs) (c:=c) 60 h (n:=(b8 zs c 61).1.toNat) ω;exact⟨by show(nv zs c 60 _).1.length<=60;omega,b⟩
def Jo(zs:List Int)(c:iu)(b:lV zs)(d:c.i<=zs.length):zzB 114 false [.ptr (jE zs c),.val none [I 60]] [.ptr (jE zs (sJ zs c).2),.val none [I 60]] .one (fh .own (sJ zs c).1):=by
 have e:=bY zs c 61 b d (by decide);have g:=bS zs c (n:=61) (by decide);obtain⟨n,h⟩:=C4 g.1;have a:(b8 zs c 61).1.toNat=n:=by rw[h];rfl
 unfold sJ;rw[a];rw[h]at e g;refine fM 27 [(61,[2,0]),(259,[2,0])] [] [(0,0),(0,0)] Tryz.func114 rfl (λu q=>?_) (.inr (v7 _))
 repeat'(first|refine gP ?_|(conv=>whnf);refine CK (e) (.inl rfl) ?_)
 (conv=>whnf)
 refine CH (ι:=Nat) (λi=>[(0,.H .box (jE zs (nv zs c 60 i).2)),(5,.H .one (fh .own (nv zs c 60 i).1)),(6,.H .one [I ((n:Nat):Int)]),(7,.H .one [I ((i:Nat):Int)])]) (λi=>i<=n) (λi=>n - i) (0) ?_ (Z0 _) λi p=>?_
 ·exact wC
 obtain⟨t,-,j⟩:=x8 (zs:=zs) (c:=c) 60 d (n:=i) ω;by_cases w:i<n
 ·have k:=H8 zs (nv zs c 60 i).2 (1+(i:Int) / 2) b j ω
  have l:((i:Nat):Int).tdiv 2=(i:Int) / 2:=Int.tdiv_eq_ediv_of_nonneg ω
  repeat'(first|refine gE ?_|(conv=>whnf);first|with_reducible (first|refine CS l ?_|refine CQ ω ?_)|refine CK (k) (.inl rfl) ?_|refine CU (aS λ_=>rfl) (λr o=>by rw[C2.1 o];rfl) (by simp[bp,fx,bL.enc]) (by simp;omega) (by simp only[O1];exact Eh (by simp;omega) (by decide)) rfl ?_)
  ((conv=>whnf);refine CG (i+1) ω ω ?_)
  repeat'(first|exact trivial|rfl| exact eK _ |exact CL rfl (CL (C1 (C.s dQ.own) (by simp[nv];rfl)) trivial)|refine CL ?_ ?_|(exact Jh (by first|omega|(simp only;omega)|(simp;omega))))
 obtain rfl:i=n:=ω
 repeat'(first|refine gE ?_|fail)
 refine CO rfl rfl ?_;exact wC
def EA(zs:List Int)(a:lV zs):zzA 38 false [.val none (Vt zs)] (.tup [some 5,none]) (bJ.enc .S (pz zs (wJ zs))++fh .S (sJ zs (ou zs)).1):=by
 have b:(wJ zs).i<=zs.length:=Z0 _;obtain⟨k,e⟩:=FK b;have h:=GH zs a;have c:=zA zs (wJ zs) a b;have j:=Jo zs (ou zs) a e;change bg _ _ _ _ [.ptr (jE zs (ou zs))] _ _ at c;have key:zzA 38 false [.val none (Vt zs)] (.tup [some 5,none]) (bJ.enc .own (pz zs (wJ zs))++fh .own (sJ zs (ou zs)).1):=by
  generalize pz zs (wJ zs)=cf at *;generalize sJ zs (ou zs)=A at *;refine fP 11 [(113,[2]),(114,[2,0]),(3000004,[])] [] Tryz.func38 rfl ?_ (.inr (aD (bJ.enc_fr _) (v7 _)))
  repeat'(first|refine gP ?_|(conv=>whnf);first|refine Cl.g h (.inr rfl) ?_|refine CK (c) (.inl rfl) ?_|refine CK (j) (.inl rfl) ?_)
  rfl
 have d:=key.fzR;rw[dI,bJ.enc_fz,B9]at d;exact d
def wR(c:bJ)(acts:List bL):∀i,(kY c acts i).2.length=i
 | 0=>rfl
 | k+1=>by show((kY c acts k).2++[_]).length=_;rw[X4,wR c acts k];rfl
def tq(c:bJ)(acts:List bL)(h:H0 c)(b:kj c.w)(n:acts.length<=80):zzA 39 true [.val (some 5) (bJ.enc .S c),.val none (fh .S acts)] (.tup [some 26,none]) (bj.enc .S (kY c acts acts.length).1++aJ .own (kY c acts acts.length).2):=by
 have d:=(Ah c h).fzR;rw[dI,bj.enc_fz]at d;change ar _ _ _ _ _ (_++[B true]) at d;refine fO 47 [(5,3,[27,28,29]),(6,1,[30])] Tryz.func39 rfl ?_ (.inl rfl)
 repeat'(first|refine gE ?_|fail)
 (conv=>whnf)
 refine CH (ι:=Nat) (λi=>[(1,.H .one (fh .S acts)),(4,.H .box [.z,.z,.z,I 0,.z,.z,.z,.z,.z,.z,.z,.z,I 0,.z,I 0,I 0,I 0,I 0,B false,I 0,I 0,.z,I 0,I 0,I 0,.z]),(6,.H .box (bj.enc .S (kY c acts i).1)),(8,.H .one (aJ .own (kY c acts i).2)),(27,.H .one (fh .S acts)),(28,.H .one [I (acts.length)]),(29,.H .one [I ((i:Nat):Int)])]) (λi=>i<=acts.length) (λi=>acts.length - i) (0) ?_ (Z0 _) λi o=>?_
 ·exact wC
 have j:=uB h acts i;have a:=Fz h acts i;have e:=wR c acts i;by_cases k:i<acts.length
 ·have g:=ax k
  have l:=KO (kY c acts i).1 (nth acts i) i j ω (by unfold rfs at a;rw[a];exact b)
  repeat'(first|refine gE ?_|(conv=>whnf);first|refine Cl.sh l rfl ?_|refine CU dU (λr b=>by rw[C2.1 b];rfl) (by simp[bp,fx]) (by simp;omega) (by simp only[O1];exact Eh (by simp;omega) (by decide)) rfl ?_)
  ((conv=>whnf);refine CG (i+1) ω ω ?_)
  repeat'(first|exact trivial|rfl| exact eK _ |exact CL rfl (CL (C1 (C.s dQ.own) (by simp[kY,rI])) trivial)|refine CL ?_ ?_|(exact Jh (by first|omega|(simp only;omega)|(simp;omega))))
 obtain rfl:i=acts.length:=ω
 repeat'(first|refine gE ?_|fail)
 rfl
def Nj{a b:Bool}(h:a=b):Ending.returned (.bool a)=.returned (.bool b):=by rw[h]
abbrev IW(z:Int):Value:=.int .i64 z
def m6(zs:List Int)(i:Nat):Int:=zs.getD i 0
def oQ(w:World)(B:Nat)(A:Option Addr)(n k:Nat)(zs:List Int):Prop:=
 zs.length=n*k/\(0<n->∃b a,A=some ⟨b,a,none⟩/\b<B/\∀j,j<n*k->w.cell? ⟨b,a+j,none⟩ = some (IW (m6 zs j)))
section
variable{w w':World}{B B' n k:Nat}{A:Option Addr}{zs:List Int}
def oQ.at_{b off:Nat}(h:oQ w B (some ⟨b,off,none⟩) n k zs){i j:Nat}(a:i<n)(g:j<k):w.cell? ⟨b,off+i*k+j,none⟩ = some (IW (m6 zs (i*k+j))):=by
 obtain⟨l,off',e,_,c⟩:=h.2 ω;injection e with e;injection e with d f;subst d f
 rw[Nat.add_assoc];exact c _ (by
   have:(i+1)*k<=n*k:=Z9 k a;rw[Nat.add_mul]at this;omega)
def oQ.form(h:oQ w B A n k zs)(a:0<n):∃b off,A=some ⟨b,off,none⟩/\b<B:=by
 obtain⟨b,off,e,c,_⟩:=h.2 a;exact⟨b,off,e,c⟩
end
def jb(w:World)(g:Nat)(t:TypeId)(cs:Array Value):Prop:=w.heap[g]? = some (.cells cs t (0,0))
section
variable{w w':World}{g:Nat}{t:TypeId}{cs:Array Value}
def jb.lt(h:jb w g t cs):g<w.heap.size:=by
 rcases Nat.lt_or_ge g w.heap.size with a|b
 ·exact a
 unfold jb at h;rw[Array.getElem?_eq_none b]at h;cases h
def jb.cell(h:jb w g t cs)(i:Nat):w.cell? ⟨g,i,none⟩ = cs[i]?:=cell_of_row w g i cs t (0,0) h
def jb.frozen(h:jb w g t cs)(i:Nat):w.frozen? ⟨g,i,none⟩ = false:=by
 unfold jb at h;simp[World.frozen?,h]
def jb.new(w:World)(t:TypeId)(cs:Array Value):jb (w.alloc (.cells cs t)) w.heap.size t cs:=heap_alloc_new w _
def jb.alloc(h:jb w g t cs)(o:Obj):jb (w.alloc o) g t cs:=(Below.heap_alloc w o g h.lt).trans h
def jb.set_(h:jb w g t cs)(i:Nat)(u:Value):jb (w.setCell ⟨g,i,none⟩ u) g t (cs.setIfInBounds i u):=by
 unfold jb at h |-;simp[World.setCell,Array.getElem?_modify,h]
def jb.below{B:Nat}(h:jb w g t cs)(a:Below B w w')(b:g<B):jb w' g t cs:=(a.block g b).trans h
end
def y8(zs:List Int)(p:Nat):Array Value:=(((zs.take p)++List.replicate (zs.length - p) 0).map IW).toArray
def Jp(zs:List Int)(p:Nat)(h:p<zs.length):(y8 zs p).setIfInBounds p (IW (m6 zs p))=y8 zs (p+1):=by
 apply Array.ext_getElem?;intro j;rw[Array.getElem?_setIfInBounds];simp only[y8,List.getElem?_toArray,S4,List.size_toArray,O1,X4,O2,I5];by_cases b:p=j
 ·subst b
  rw[CD rfl,CD ω,O6 (by simp;omega)];simp[h,m6,List.getD]
 rw[CC b]
 congr 1
 rcases Nat.lt_or_ge j p with a|c
 ·rw[O6 (by simp;omega),O6 (by simp;omega)]
  simp[a,Nat.lt_succ_of_lt a]
 rw[S6 (by simp;omega),S6 (by simp;omega)];simp only[List.getElem?_replicate,O2];have d:min p zs.length=p:=ω
 have e:min (p+1) zs.length=p+1:=ω
 rw[d,e];by_cases f:j<zs.length
 ·rw[CD ω,CD ω]
 rw[CC ω,CC ω]
variable{g:Nat}
def jb.fill{w:World}{t:TypeId}{p:Nat}(h:jb w g t (y8 zs p))(a:p<zs.length):jb (w.setCell ⟨g,p,none⟩ (IW (m6 zs p))) g t (y8 zs (p+1)):=by
 rw[<-Jp zs p a];exact h.set_ p _
def UQ(cur:Array Value)(a:Int):Nat->Array Value
 | 0=>cur
 | p+1=>(UQ cur a p).setIfInBounds p (IW (a+(p:Int)))
variable{w':World}
def iJ{w:World}(h:Below w.heap.size w w')(row:Option Nat):w.grownBy w' row:=⟨h.os,h.tape,h.output,h.size,λk a _=>h.block k a⟩
variable{xs:List Value}{v:Value}{e:TypeId}{base size:Nat}
def Ka{w:World}(h:w.ownsRow base e size v n xs)(a:Below w.heap.size w w'):w'.ownsRow base e size v n xs:=
 h.kept (iJ a none) (by cases v.ownBlock<;>simp)
def J6{w0 w:World}(h:Below w0.heap.size w0 w)(a:w.ownsRow base e size v n xs)(b:w.grownBy w' v.ownBlock)(d:w0.heap.size<=base):Below w0.heap.size w0 w':=
 h.grown b h.size (λk c=>by have:=(a.lt k c).1;omega)
def oQ.of_own{w:World}{B:Nat}{A:Option Addr}{k:Nat}(h:w.ownsRow base e k (.slice A n c) n (zs.map IW))(u:w.heap.size<=B):oQ w B A n k zs:=by
 refine⟨by simpa using h.1,λy=>?_⟩;rcases h.2 with⟨b,C⟩|⟨g,l,cur,b,D,d,o,E,p,a⟩
 ·omega
 injection b with q _ _
 refine⟨g,0,q,?_,λj r=>?_⟩
 ·have:=(Z4.1 d).1;omega
 rw[W9,cell_of_row w g j cur e (0,0) d];have f:(zs.map IW).length=n*k:=h.1;have t:j<zs.length:=by simpa using (by omega:j<(zs.map IW).length)
 have i:(cur.toList.take (n*k))[j]? = (zs.map IW)[j]?:=by rw[a]
 rw[List.getElem?_take,CD r,Array.getElem?_toList]at i;rw[i];simp[t,m6,List.getD]
variable{a:World}
def gR{w:World}(h:a.grownBy w (some g))(o:Nat)(u:Value):a.grownBy (w.setCell ⟨g,o,none⟩ u) (some g):=
 ⟨h.os,h.tape,h.output,by simpa[World.setCell] using h.size,λi c b=>(Below.heap_setCell w _ u i (by
   rintro rfl
   exact b rfl)).trans (h.block i c b)⟩
def U4(zs:List Int):∀u∈zs.map IW,u.oneCell'=true:=by
 intro u a;obtain⟨z,_,rfl⟩:=C6.1 a
 rfl
def Mc(w:World)(t k n:Nat)(zs:List Int)(e:Ending)(w':World):Prop:=
 ∃A c,e=.returned (.slice A n c)/\w'.ownsRow w.heap.size t k (.slice A n c) n (zs.map IW)/\Below w.heap.size w w'
def Nq{w:World}(h:w.ownsRow base e size v n xs):∃A c,v=.slice A n c:=by
 rcases h.2 with⟨rfl,rfl⟩|⟨g,a,cur,rfl,_⟩
 ·exact⟨none,0,rfl⟩
 exact⟨_,_,rfl⟩
def Ki{w:World}{t k:Nat}(h:w'.ownsRow w.heap.size t k v n (zs.map IW))(a:Below w.heap.size w w'):Mc w t k n zs (.returned v) w':=by
 obtain⟨A,c,rfl⟩:=Nq h;exact⟨A,c,rfl,h,a⟩
def ss(x:Int):Bool:=x == 9 || x == 10
set_option maxHeartbeats 400000 in
def pD(b h i j k:Int)(w:World) :
  Calls Tryz.prog 118 #[.agg #[.int .i64 b,.int .i64 h,.int .i64 i,.int .i64 j,.int .i64 k]] w λe w'=>e=.returned (.bool (ss b))/\Below w.heap.size w w':=by
 by_cases c:b=9
 ·subst c
  go_enter Tryz.func118,Tryz.ntmps118
  go_wp2
  go_ret
  exact⟨rfl,by go_grown⟩
 have l:(b == 9)=false:=by simpa using c
 by_cases a:b=10
 ·subst a
  go_enter Tryz.func118,Tryz.ntmps118
  go_wp2
  go_ret
  exact⟨rfl,by go_grown⟩
 have d:(b == 10)=false:=by simpa using a
 have g:ss b=false:=by simp[ss,c,a]
 have Hi:=Lib.hid g;clear g c a
 go_enter Tryz.func118,Tryz.ntmps118
 go_wp2
 go_ret
 exact⟨Nj Hi.out.symm,by go_grown⟩
def Tw:(Tryz.prog.info? 199).map (λi=>(i.zero,i.size,i.bytes))=some (some (.agg #[IW 0,IW 0,IW 0,IW 0,IW 0]),5,40):=by kernel_rfl
def Kf(zs:List Int)(k:Nat):List Int:=[m6 zs (k*5),m6 zs (k*5+1),m6 zs (k*5+2),m6 zs (k*5+3),m6 zs (k*5+4)]
def cI(zs:List Int):Nat->Nat
 | 0=>0
 | k+1=>if ss (m6 zs (k*5)) then cI zs k else cI zs k+1
def eX(zs:List Int):Nat->List Int
 | 0=>[]
 | k+1=>if ss (m6 zs (k*5)) then eX zs k else eX zs k++Kf zs k
def K9(zs:List Int)(k:Nat):(eX zs k).length=cI zs k*5:=by
 induction k with
 | zero=>simp[eX,cI]
 | succ k a=>
  simp only[eX,cI];split
  ·exact a
  simp[a,Kf];omega
def MP(p:Nat->Bool)(n:Nat)(h:¬∀j,j<n->p j=false):∃i,i<n/\p i=true/\∀j,j<i->p j=false:=by
 induction n with
 | zero=>exact absurd (λj d=>ω) h
 | succ n e=>
  by_cases a:∀j,j<n->p j=false
  ·refine⟨n,ω,?_,a⟩
   cases b:p n with
   | true=>rfl
   | false=>
    refine absurd (λj d=>?_) h;rcases Nat.lt_or_ge j n with c|f
    ·exact a j c
    obtain rfl:j=n:=ω
    exact b
  obtain⟨i,k,b,g⟩:=e a;exact⟨i,ω,b,g⟩
def wh(zs:List Int)(i:Nat)(h:∀j,j<i->ss (m6 zs (j*5))=false)(k:i*5<=zs.length):cI zs i=i/\eX zs i=zs.take (i*5):=by
 induction i with
 | zero=>simp[cI,eX]
 | succ i c=>
  obtain⟨d,e⟩:=c (λj l=>h j ω) ω;have b:=h i ω;refine⟨by simp[cI,b,d],?_⟩;simp only[eX,b,e];rw[CC (by simp)];apply List.ext_getElem?;intro q;by_cases f:q<i*5
  ·rw[O6 (by simp;omega),List.getElem?_take,List.getElem?_take,CD f,CD ω]
  rw[S6 (by simp;omega),List.getElem?_take,O2,Nat.min_eq_left ω];by_cases a:q<(i+1)*5
  ·rw[CD a]
   have g:q<zs.length:=ω
   rcases(show q=i*5\/q=i*5+1\/q=i*5+2\/q=i*5+3\/q=i*5+4 by omega) with rfl|rfl|rfl|rfl|rfl<;>simp[Kf,m6,List.getD,g]
  rw[CC a];exact X3 (by simp[Kf];omega)
set_option maxHeartbeats 400000 in
def G3(b off:Nat)(n c:Nat)(zs:List Int)(w:World)(h:oQ w w.heap.size (some ⟨b,off,none⟩) n 5 zs)(y:n<=1048576)(l:∀j,j<n->ss (m6 zs (j*5))=false) :
  Calls Tryz.prog 270 #[.slice (some ⟨b,off,none⟩) n c,.func (.func 118) #[] #[]] w λe w'=>e=.returned (.int .i64 (-1))/\Below w.heap.size w w':=by
 have Hno:=Lib.hid l;clear l
 go_enter Tryz.func270,Tryz.ntmps270
 go_wp2
 go_loopw [8] (λi u=>∃k:Nat,k<=n/\i=.int .i64 (k:Int)/\Below w.heap.size w u) (λi _=>n - (intOf i).toNat)
 case atStart=>exact⟨0,Z0 _,rfl,Below.refl _ _⟩
 case round=>
  obtain⟨k,B,rfl,a⟩:=hrel;by_cases d:k<n
  ·obtain⟨_,_,q,g⟩:=h.form ω
   injection q with q;injection q with r t;subst r t
   have C:=(a.cell (p:=⟨b,off+k*5,none⟩) g).trans (h.at_ d (j:=0) ω);have D:=(a.cell (p:=⟨b,off+k*5+1,none⟩) g).trans (h.at_ d (j:=1) ω);have E:=(a.cell (p:=⟨b,off+k*5+2,none⟩) g).trans (h.at_ d (j:=2) ω);have F:=(a.cell (p:=⟨b,off+k*5+3,none⟩) g).trans (h.at_ d (j:=3) ω);have G:=(a.cell (p:=⟨b,off+k*5+4,none⟩) g).trans (h.at_ d (j:=4) ω);have H:=Hno.out k d;have Hbel:=Lib.hid a;clear a h
   go_wp2_with fail
   refine(pD _ _ _ _ _ _).mono ?_
   rintro e w1 ⟨rfl,o⟩
   have Hbel1:=Lib.hid (Hbel.out.trans (o.mono Hbel.out.size));clear o Hbel
   go_wp2
   go_roundw
   case rel=>exact⟨k+1,ω,by go_num,Hbel1.out⟩
   case measure=>simp[intOf];omega
  go_wp2
  go_ret
  exact⟨rfl,a⟩
def G7(b off:Nat)(n c i:Nat)(zs:List Int)(w:World)(h:oQ w w.heap.size (some ⟨b,off,none⟩) n 5 zs)(D:n<=1048576)(E:i<n)(r:ss (m6 zs (i*5))=true)(l:∀j,j<i->ss (m6 zs (j*5))=false) :
  Calls Tryz.prog 270 #[.slice (some ⟨b,off,none⟩) n c,.func (.func 118) #[] #[]] w λe w'=>e=.returned (.int .i64 i)/\Below w.heap.size w w':=by
 have Hno:=Lib.hid l;have HM:=Lib.hid r;clear l r
 go_enter Tryz.func270,Tryz.ntmps270
 go_wp2
 go_loopw [8] (λq C=>∃k:Nat,k<=i/\q=.int .i64 (k:Int)/\Below w.heap.size w C) (λq _=>n - (intOf q).toNat)
 case atStart=>exact⟨0,Z0 _,rfl,Below.refl _ _⟩
 case round=>
  obtain⟨k,F,rfl,a⟩:=hrel;have d:k<n:=ω
  obtain⟨_,_,t,g⟩:=h.form ω;injection t with t;injection t with u y;subst u y
  have G:=(a.cell (p:=⟨b,off+k*5,none⟩) g).trans (h.at_ d (j:=0) ω);have H:=(a.cell (p:=⟨b,off+k*5+1,none⟩) g).trans (h.at_ d (j:=1) ω);have J:=(a.cell (p:=⟨b,off+k*5+2,none⟩) g).trans (h.at_ d (j:=2) ω);have K:=(a.cell (p:=⟨b,off+k*5+3,none⟩) g).trans (h.at_ d (j:=3) ω);have L:=(a.cell (p:=⟨b,off+k*5+4,none⟩) g).trans (h.at_ d (j:=4) ω);have Hbel:=Lib.hid a;clear a h
  go_wp2_with fail
  refine(pD _ _ _ _ _ _).mono ?_
  rintro e w1 ⟨rfl,o⟩
  have Hbel1:=Lib.hid (Hbel.out.trans (o.mono Hbel.out.size));clear o Hbel;by_cases B:k=i
  ·subst B
   have r:=HM.out
   go_wp2
   go_ret
   exact⟨rfl,Hbel1.out⟩
  have r:=Hno.out k ω
  go_wp2
  go_roundw
  case rel=>exact⟨k+1,ω,by go_num,Hbel1.out⟩
  case measure=>simp[intOf];omega
def nu(cur:Array Value)(m:Nat)(v:Value)(xs:List Value)(h:cur.toList.take m=xs)(c:m<cur.size):(cur.setIfInBounds m v).toList.take (m+1)=xs++[v]:=by
 subst h;apply List.ext_getElem?;intro j;have b:cur.toList.length=cur.size:=rfl;by_cases d:j<m
 ·rw[List.getElem?_take,CD ω,O6 (by simp;omega),List.getElem?_take,CD d,Array.getElem?_toList,Array.getElem?_setIfInBounds,CC ω,Array.getElem?_toList]
 by_cases a:j=m
 ·subst a
  rw[List.getElem?_take,CD ω,S6 (by simp;omega),Array.getElem?_toList,Array.getElem?_setIfInBounds,CD rfl,CD c];have e:j - (List.take j cur.toList).length=0:=by rw[O2,b];omega
  rw[e];rfl
 rw[X3 (by rw[O2];omega),X3 (by rw[X4,O2,b];simp;omega)]
def vo(cur:Array Value)(o:Nat)(Z:List Value):Array Value:=(cur.toList.take o++Z++cur.toList.drop (o+Z.length)).toArray
def Gr(cur:Array Value)(o:Nat)(Z:List Value)(h:o+Z.length<=cur.size):(vo cur o Z).size=cur.size:=by
 have a:cur.toList.length=cur.size:=rfl;unfold vo;rw[List.size_toArray,X4,X4,O2,Y4,a];omega
def Jf(cur:Array Value)(o:Nat)(Z:List Value)(h:o+Z.length<=cur.size):(vo cur o Z).toList.take o=cur.toList.take o:=by
 have a:cur.toList.length=cur.size:=rfl;have b:(cur.toList.take o).length=o:=by rw[O2];omega
 unfold vo;rw[List.toList_toArray,Z7,List.take_append_of_le_length ω,Y9 ω]
def zj(w:World)(t e:TypeId)(z:Value)(k:P.underlying t=some (.slice e))(b:∀w,(zeroValue e).run P w=.ok z w)(h1:∀v∈z.cells,v.oneCell'=true)(g o m c:Nat)(cur:Array Value)(l:jb w g e cur)(r:0<m)(d:o+m*z.cells.size<=cur.size) :
  ∃Z:List Value,Z.length=m*z.cells.size/\∀ty,(Builtin.clear_ #[t] ty #[.slice (some ⟨g,o,none⟩) m c]).run P w=.ok (.tuple #[]) (w.setRow g (vo cur o Z)):=by
 have a:(Builtin.zeroCells z.cells m).toList.length=m*z.cells.size:=by simp[Builtin.zeroCells]
 refine⟨(Builtin.zeroCells z.cells m).toList,a,λty=>?_⟩;have f:=run_storeCells_at P g o e (Builtin.zeroCells z.cells m).toList 0 cur w l (by rw[a];exact d) (by
   intro v b;rw[Array.mem_toList_iff]at b;simp only[Builtin.zeroCells,Array.mem_map,Array.mem_range]at b;obtain⟨j,n,rfl⟩:=b;have p:0<z.cells.size:=by
     rcases Nat.eq_zero_or_pos z.cells.size with i|i
     · rw[i]at n;omega
     exact i
   have h:j % z.cells.size<z.cells.size:=Nat.mod_lt _ p;rw[getElem!_pos z.cells (j % z.cells.size) h];exact h1 _ (Array.getElem_mem h))
 simp only[Nat.add_zero]at f;obtain⟨q,rfl⟩ : ∃q,m=q+1:=⟨m - 1,ω⟩
 simp[Builtin.clear_,run_underlying k,b,f,vo]
def GW{w:World}{t:TypeId}{cur cs:Array Value}(h:jb w g t cur):jb (w.setRow g cs) g t cs:=by
 unfold jb at h |-;simp[World.setRow,Array.getElem?_modify,h]
def AI{w:World}(h:a.grownBy w (some g))(cs:Array Value):a.grownBy (w.setRow g cs) (some g):=
 ⟨h.os,h.tape,h.output,by simpa[World.setRow] using h.size,λi c b=>by
   rw[<-h.block i c b];simp only[World.setRow,Array.getElem?_modify];rw[CC (λe=>b (by rw[e]))]⟩
def Na:∀w,(zeroValue 199).run Tryz.prog w=.ok (.agg #[IW 0,IW 0,IW 0,IW 0,IW 0]) w:=λ_=>by kernel_rfl
def Wp(w:World)(g n cap:Nat)(zs:List Int)(j:Nat)(cur:Array Value):Prop:=
 jb w g 199 cur/\cur.size=cap*5/\cur.toList.take (cI zs j*5)=(eX zs j).map IW/\∀p,j*5<=p->p<n*5->cur[p]? = some (IW (m6 zs p))
def LR(base g n cap:Nat)(zs:List Int)(w:World)(e:Ending)(w':World):Prop:=
 e=.returned (.slice (some ⟨g,0,none⟩) (cI zs n) cap)/\w'.ownsRow base 199 5 (.slice (some ⟨g,0,none⟩) (cI zs n) cap) (cI zs n) ((eX zs n).map IW)/\w.grownBy w' (some g)
def tl{b c:World}{row:Option Nat}(h:a.grownBy b row)(k:b.grownBy c row):a.grownBy c row:=
 ⟨k.os.trans h.os,k.tape.trans h.tape,k.output.trans h.output,Z6 h.size k.size,λi e d=>(k.block i (O5 e h.size) d).trans (h.block i e d)⟩
set_option maxHeartbeats 1000000 in
def GG(g n cap base:Nat)(zs:List Int)(w:World)(h:w.ownsRow base 199 5 (.slice (some ⟨g,0,none⟩) n cap) n (zs.map IW))(hn:n<=1048576) :
  Calls Tryz.prog 117 #[.slice (some ⟨g,0,none⟩) n cap,.func (.func 118) #[] #[]] w (LR base g n cap zs w):=by
 have Q:=oQ.of_own h (O4 _);have K:zs.length=n*5:=Q.1;by_cases B:∀j,j<n->ss (m6 zs (j*5))=false
 ·obtain⟨R,U⟩:=wh zs n B ω
  have E:Hid (eX zs n=zs):=by show _=_;rw[U];exact Y9 ω
  have E1:=Lib.hid R;have H:=Lib.hid h;have Hno:=Lib.hid B;clear R U B h K
  go_enter Tryz.func117,Tryz.ntmps117
  go_wp2_with fail
  refine(G3 g 0 n cap zs _ Q hn Hno.out).mono ?_
  rintro e w1 ⟨rfl,o⟩
  go_wp2_with fail
  go_ret
  unfold LR;rw[E.out,E1.out];exact⟨rfl,Ka H.out o,iJ o _⟩
 obtain⟨i,hi,G,hf⟩:=MP (λj=>ss (m6 zs (j*5))) n B;rcases h.2 with⟨S,_⟩|⟨g',cap',cur,S,hg,hh,hnc,hm,V,l⟩
 ·cases S
 injection S with C _ hv2
 injection C with C
 injection C with C _
 subst C hv2;obtain⟨R,U⟩:=wh zs i hf ω;have hcap:cap<=9223372036854775807:=by unfold maxLen at hm;omega
 have hS:Hid (∃cur,Wp w g n cap zs (i+1) cur):=by
  refine⟨cur,hh,V,?_,λp hp D=>?_⟩
  ·have Y:cI zs (i+1)=i:=by simp only[cI];rw[CD G];exact R
   have ek:eX zs (i+1)=zs.take (i*5):=by simp only[eX];rw[CD G];exact U
   rw[Y,ek,Y5,<-l,List.take_take]
   congr 1
   omega
  have h1:(cur.toList.take (n*5))[p]? = (zs.map IW)[p]?:=by rw[l]
  rw[List.getElem?_take,CD D,Array.getElem?_toList]at h1;rw[h1];have:p<zs.length:=ω
  simp[m6,List.getD,this]
 have Y:cI zs (i+1)=i:=by simp only[cI];rw[CD G];exact R
 have Ec:=Lib.hid Y;have HM:=Lib.hid G;have Hf:=Lib.hid hf;clear G hf R U h hh V l K B Y hm;have hne1:((i:Int) == -1)=false:=by simp
 go_enter Tryz.func117,Tryz.ntmps117
 go_wp2_with fail
 refine(G7 g 0 n cap i zs _ Q hn hi HM.out Hf.out).mono ?_
 rintro e w1 ⟨rfl,o⟩
 have W:g<w.heap.size:=by obtain⟨c,hc,_⟩:=hS.out;exact hc.lt
 have HS1:Hid (∃cur,Wp w1 g n cap zs (i+1) cur):=by obtain⟨c,hc,Q⟩:=hS.out;exact⟨c,hc.below o W,Q⟩
 have Hg1:=Lib.hid (iJ o (some g));clear hS o Q
 go_wp2
 go_loopw [5,6] (λq r wr=>∃j:Nat,j<=n/\cI zs j<j/\q=.int .i64 (cI zs j:Nat)/\r=.int .i64 j/\(∃cur,Wp wr g n cap zs j cur)/\w.grownBy wr (some g)) (λ_ r _=>n - (intOf r).toNat)
 case atStart=>exact⟨i+1,ω,by rw[Ec.out];omega,by rw[Ec.out],by go_num,HS1.out,Hg1.out⟩
 case round=>
  obtain⟨j,hj,hcl,rfl,rfl,⟨cur,d,L,M,b⟩,N⟩:=hrel;have Hblk:=Lib.hid d;have Hcs:=Lib.hid L;have Htk:=Lib.hid M;have Hrest:=Lib.hid b;have Hgr:=Lib.hid N;have hcs5:n*5<=cur.size:=ω
  by_cases hlt:j<n
  ·have g0:wr.cell? ⟨g,j*5,none⟩ = some (IW (m6 zs (j*5))):=by rw[d.cell];exact b _ ω ω
   have g1:wr.cell? ⟨g,j*5+1,none⟩ = some (IW (m6 zs (j*5+1))):=by rw[d.cell];exact b _ ω ω
   have g2:wr.cell? ⟨g,j*5+2,none⟩ = some (IW (m6 zs (j*5+2))):=by rw[d.cell];exact b _ ω ω
   have g3:wr.cell? ⟨g,j*5+3,none⟩ = some (IW (m6 zs (j*5+3))):=by rw[d.cell];exact b _ ω ω
   have g4:wr.cell? ⟨g,j*5+4,none⟩ = some (IW (m6 zs (j*5+4))):=by rw[d.cell];exact b _ ω ω
   clear d L M b N
   go_wp2_with fail
   refine(pD _ _ _ _ _ _).mono ?_
   rintro e O ⟨rfl,J⟩
   have hgw:g<wr.heap.size:=Hblk.out.lt;have k:=(jb.new wr 199 #[IW (m6 zs (j*5)),IW (m6 zs (j*5+1)),IW (m6 zs (j*5+2)),IW (m6 zs (j*5+3)),IW (m6 zs (j*5+4))]).below J (by simp);have x0:=k.cell 0;have x1:=k.cell 1;have x2:=k.cell 2;have x3:=k.cell 3;have x4:=k.cell 4;simp only[List.getElem?_toArray,List.getElem?_cons_zero,List.getElem?_cons_succ]at x0 x1 x2 x3 x4;have a:jb O g 199 cur:=(Hblk.out.alloc _).below J (by simp;omega);have Hblk2:=Lib.hid a;have Hgr2:=Lib.hid (tl (tl Hgr.out (World.grownBy_alloc wr _ _)) (iJ J _));clear J k g0 g1 g2 g3 g4 Hblk Hgr;by_cases G:ss (m6 zs (j*5))=true
   ·clear a x0 x1 x2 x3 x4
    go_wp2
    go_roundw
    case rel=>
     have e:eX zs (j+1)=eX zs j:=by simp only[eX,G,if_true]
     have T:cI zs (j+1)=cI zs j:=by simp only[cI,G,if_true]
     exact⟨j+1,ω,ω,by rw[T],by go_num,⟨cur,Hblk2.out,Hcs.out,by rw[e,T];exact Htk.out,λp hp D=>Hrest.out p ω D⟩,Hgr2.out⟩
    case measure=>simp[intOf];omega
   have X:ss (m6 zs (j*5))=false:=by simpa using G
   clear G;have y:∀q,q<n*5->∃u,O.cell? ⟨g,q,none⟩ = some u:=λq hq=>⟨_,(a.cell q).trans (Z8 ω)⟩
   obtain⟨u0,s0⟩:=y (cI zs j*5) ω;obtain⟨u1,s1⟩:=y (cI zs j*5+1) ω;obtain⟨u2,s2⟩:=y (cI zs j*5+2) ω;obtain⟨u3,s3⟩:=y (cI zs j*5+3) ω;obtain⟨u4,s4⟩:=y (cI zs j*5+4) ω;have f0:O.frozen? ⟨g,cI zs j*5,none⟩ = false:=a.frozen _;have f1:O.frozen? ⟨g,cI zs j*5+1,none⟩ = false:=a.frozen _;have f2:O.frozen? ⟨g,cI zs j*5+2,none⟩ = false:=a.frozen _;have f3:O.frozen? ⟨g,cI zs j*5+3,none⟩ = false:=a.frozen _;have f4:O.frozen? ⟨g,cI zs j*5+4,none⟩ = false:=a.frozen _;clear a y
   go_wp2
   go_roundw
   case rel=>
    have e:eX zs (j+1)=eX zs j++Kf zs j:=by simp[eX,X]
    have T:cI zs (j+1)=cI zs j+1:=by simp[cI,X]
    have t1:=nu cur (cI zs j*5) (IW (m6 zs (j*5))) _ Htk.out ω;have t2:=nu _ (cI zs j*5+1) (IW (m6 zs (j*5+1))) _ t1 (by simp;omega);have t3:=nu _ (cI zs j*5+2) (IW (m6 zs (j*5+2))) _ t2 (by simp;omega);have t4:=nu _ (cI zs j*5+3) (IW (m6 zs (j*5+3))) _ t3 (by simp;omega);have t5:=nu _ (cI zs j*5+4) (IW (m6 zs (j*5+4))) _ t4 (by simp;omega);refine⟨j+1,ω,by rw[T];omega,by rw[T];go_num,by go_num,⟨_,((((Hblk2.out.set_ _ _).set_ _ _).set_ _ _).set_ _ _).set_ _ _,by simp;exact Hcs.out,?_,λp hp D=>?_⟩,gR (gR (gR (gR (gR Hgr2.out _ _) _ _) _ _) _ _) _ _⟩
    ·rw[e,T,show(cI zs j+1)*5=cI zs j*5+4+1 from by omega,t5]
     simp[Kf]
    simp only[Array.getElem?_setIfInBounds];rw[CC ω,CC ω,CC ω,CC ω,CC ω];exact Hrest.out p ω D
   case measure=>simp[intOf];omega
  clear d L M b N;obtain rfl:j=n:=ω
  obtain⟨Z,hZ,hclr⟩:=zj (P:=Tryz.prog) wr 88 199 _ Tryz.underlying88 Na (by intro v S;simp[Value.cells]at S;subst S;rfl) g (cI zs j*5) (j - cI zs j) (cap - cI zs j) cur Hblk.out ω (by simp[Value.cells];omega);have hZ5:Z.length=(j - cI zs j)*5:=hZ;have HZ:Hid (cI zs j*5+Z.length<=cur.size):=by show _<=_;omega
  clear hZ hZ5
  go_wp2
  go_ret
  have hlk:((eX zs j).map IW).length=cI zs j*5:=by simp[K9]
  refine⟨rfl,⟨hlk,.inr ⟨g,cap,_,rfl,hg,GW Hblk.out,ω,by unfold maxLen;omega,?_,?_⟩⟩,AI Hgr.out _⟩
  ·rw[Gr _ _ _ HZ.out];exact Hcs.out
  rw[Jf _ _ _ HZ.out];exact Htk.out
theorem Mx{w:World}{B k b off:Nat}(h:oQ w B (some ⟨b,off,none⟩) n k zs)(o:Obj):∀j u,(zs.map IW)[j]? = some u->B<=w.heap.size->(w.alloc o).cell? ((⟨b,off,none⟩ : Addr).add j)=some u:=by
 intro j u c y;have a:(⟨b,off,none⟩ : Addr).add j = ⟨b,off+j,none⟩:=by unfold Addr.add;split<;>simp_all
 have i:j<zs.length:=by
  rcases Nat.lt_or_ge j zs.length with d|f
  ·exact d
  rw[X3 (by simpa using f)]at c;cases c
 have l:=h.1;have p:0<n:=by
  rcases Nat.eq_zero_or_pos n with g|g
  ·rw[g,Nat.zero_mul]at l;omega
  exact g
 obtain⟨A,off',e,C,q⟩:=h.2 p;injection e with e;injection e with r t;subst r t
 rw[a,World.cell?_alloc_lt w o ⟨b,off+j,none⟩ (by show b<_;omega),q j ω];simp[i]at c;simp[<-c,m6,List.getD,i]
set_option maxHeartbeats 400000 in
def MN(b off:Nat)(n c:Nat)(zs:List Int)(w:World)(h:oQ w w.heap.size (some ⟨b,off,none⟩) n 5 zs)(G:n<=1048576) :
  Calls Tryz.prog 41 #[.slice (some ⟨b,off,none⟩) n c] w (Mc w 199 5 (cI zs n) (eX zs n)):=by
 obtain⟨H,l,o,p,q⟩:=info_parts Tw;have r:=Lib.hid h.1
 go_enter Tryz.func41,Tryz.ntmps41
 go_wp2_with (at_builtin;refine wpList_append_own _ rfl (.tmp 3) (.tmp 4) 88 rfl w.heap.size 199 H _ 5 40 Tryz.underlying88 l o p q rfl ω (.slice (some ⟨w.heap.size,0,none⟩) 0 0) 0 [] rfl (World.ownsRow_made _ _ _ (O4 _) (Z0 _) rfl) ⟨b,off,none⟩ n c (zs.map IW) rfl ?c1 ?c2 ?c3 ?c4 ?c5 ?c6 ?_)
 case c1=>simpa using r.out
 case c2=>exact λj u J=>Mx h _ j u J (O4 _)
 case c3=>exact U4 _
 case c4=>unfold maxLen;omega
 case c5=>omega
 case c6=>simp
 intro K w1 a y B;have E:∃g d,K=.slice (some ⟨g,0,none⟩) n d:=by
  rcases a.2 with⟨F,_⟩|⟨g,d,cur,F,_⟩
  ·exact absurd F B
  exact⟨g,d,F⟩
 have C:Below w.heap.size w w1:=((Below.refl _ _).alloc (O4 _) _).grown y (by simp) (by intro k L;simp[Value.ownBlock]at L;omega);obtain⟨g,d,rfl⟩:=E;have Hown:=Lib.hid a;have Hb1:=Lib.hid C;clear a y B C h l o p q
 go_wp2_with fail
 refine(GG g n d w.heap.size zs _ Hown.out G).mono ?_
 rintro e M ⟨rfl,i,D⟩
 have Hown2:=Lib.hid i;have Hb2:=Lib.hid (J6 Hb1.out Hown.out D (O4 _));clear i D
 go_wp2_with fail
 go_ret
 exact Ki Hown2.out Hb2.out
def lB(a:bL):Bool:=decide (a.b0=9) || decide (a.b0=10)
def iF(r:aI)(a:bL)(c:Int):aI:=
 if c≠0 then r else if a.b0=1 then jx r a.N else if a.b0=2 then lC r a.N else if a.b0=3 then f7 r a.N a.At a.Value else if a.b0=4 then gF r a.N a.Value else r
def yQ(r:aI)(a:bL)(c:Int)(h:¬(1<=a.b0/\a.b0<=4)):iF r a c=r:=by
 unfold iF
 repeat' split
 all_goals first|rfl|omega
def ge(r:aI)(a:bL){c:Int}(h:c≠0):iF r a c=r:=by unfold iF;rw[CD h]
def M9(w:bj)(a:bL):(jw w a).1.b2=iF w.b2 a (jw w a).2:=by
 have b:¬mq w.Z a.N<0->(nth w.Z.O (mq w.Z a.N).toNat).Id=a.N:=λe=>by
  obtain⟨-,g,-⟩:=fT (P7 a.N) w.Z.O (by unfold mq at e;omega);exact of_decide_eq_true g
 unfold jw;by_cases c:a.b0=1
 ·rw[CD c]
  by_cases e:(allocH w.Z a.y a.N).2.2=0
  ·simp only[iF,e,c];simp
  simp only[e,if_false];exact(ge _ _ e).symm
 rw[CC c];by_cases f:a.b0=2\/a.b0=3\/a.b0=4
 ·rw[CD f]
  by_cases e:mq w.Z a.N<0
  ·rw[CD e];exact(ge w.b2 a (show(90:Int)≠0 by decide)).symm
  rw[CC e];have h:=b e;unfold mc;by_cases k:a.b0=2
  ·rw[CD k]
   unfold q7;split
   ·exact(ge w.b2 a (show(6:Int)≠0 by decide)).symm
   split
   ·rw[h]
    by_cases z:(freeT w.Z a.y.toNat (mq w.Z a.N).toNat).2=0
    ·simp only[iF,z,k];simp
    simp only[z,if_false];exact(ge _ _ z).symm
   exact(ge w.b2 a (show(1:Int)≠0 by decide)).symm
  rw[CC k];by_cases d:a.b0=3
  ·rw[CD d]
   unfold nL;split
   ·exact(ge w.b2 a (show(90:Int)≠0 by decide)).symm
   split
   ·exact(ge w.b2 a (show(2:Int)≠0 by decide)).symm
   split
   ·exact(ge w.b2 a (show(3:Int)≠0 by decide)).symm
   rw[h];simp[iF,d]
  rw[CC d];have i:a.b0=4:=ω
  unfold qL;split
  ·rw[h];simp[iF,i]
  exact(ge w.b2 a (show(90:Int)≠0 by decide)).symm
 rw[CC f];have j:¬(1<=a.b0/\a.b0<=4):=ω
 repeat' split
 all_goals exact(yQ _ _ _ j).symm
def zN(c:bJ)(acts:List bL):Nat->List (bL × Int)
 | 0=>[]
 | i+1=>zN c acts i++[(nth acts i,(jw (kY c acts i).1 (nth acts i)).2)]
def JA(c:bJ)(acts:List bL):∀n,n<=acts.length->(zN c acts n).map Prod.fst=acts.take n
 | 0,_=>by simp[zN]
 | n+1,h=>by
  rw[Y7,ax (show n<acts.length by omega)];simp[zN,JA c acts n ω]
def Ju(c:bJ)(acts:List bL):∀n,(zN c acts n).map Prod.snd=(kY c acts n).2
 | 0=>rfl
 | n+1=>by simp[zN,kY,Ju c acts n]
def Kh(c:bJ)(acts:List bL):∀n,(kY c acts n).1.b2=(zN c acts n).foldl (λr p=>iF r p.1 p.2) (world0 c).b2
 | 0=>rfl
 | n+1=>by
  show(jw (kY c acts n).1 (nth acts n)).1.b2=_;rw[M9,Kh c acts n,zN,List.foldl_append];rfl
def sw:∀(l:List (bL × Int))(r:aI),(l.filter λp=>!lB p.1).foldl (λr p=>iF r p.1 p.2) r=l.foldl (λr p=>iF r p.1 p.2) r
 | [],_=>rfl
 | p::l,r=>by
  rw[List.filter_cons,List.foldl_cons];split
  ·rw[List.foldl_cons];exact sw l _
  rename_i h;have a:¬(1<=p.1.b0/\p.1.b0<=4):=by
   unfold lB at h;simp only[Bool.not_eq_true',Bool.or_eq_false_iff,X6]at h;omega
  rw[yQ _ _ _ a];exact sw l r
def Gz{α β:Type} : ∀{l e:List (α × β)},l.map Prod.fst=e.map Prod.fst->l.map Prod.snd=e.map Prod.snd->l=e
 | [],[],_,_=>rfl
 | [],_::_,h,_=>by cases h
 | _::_,[],h,_=>by cases h
 | (a,b)::l,(c,d)::e,h,k=>by
  simp only[O8,List.cons.injEq]at h k;rw[Gz h.2 k.2,h.1,k.1]
def jF(acts:List bL):List bL:=acts.filter λa=>!lB a
def Fd(acts:List bL)(cs:List Int):Nat->List Int
 | 0=>[]
 | i+1=>if lB (nth acts i)=true then Fd acts cs i else Fd acts cs i++[nth cs i]
def La(c:bJ)(acts:List bL):∀n i,i<n->nth (kY c acts n).2 i=(jw (kY c acts i).1 (nth acts i)).2
 | 0,_,h=>by omega
 | n+1,i,h=>by
  have a:(kY c acts n).2.length=n:=by rw[<-Ju,O1];clear h;induction n with|zero=>rfl|succ k b=>simp[zN,b]
  show nth ((kY c acts n).2++[_]) i=_;unfold nth;rw[Y3];by_cases e:i<n
  ·rw[O6 ω,<-Y3]
   exact La c acts n i e
  obtain rfl:i=n:=ω
  rw[S6 ω,a];simp
def Uy(c:bJ)(acts:List bL)(n:Nat):∀i,i<=n->Fd acts (kY c acts n).2 i=((zN c acts i).filter λp=>!lB p.1).map Prod.snd
 | 0,_=>rfl
 | i+1,h=>by
  have a:=Uy c acts n i ω;unfold Fd zN;rw[List.filter_append,C8,<-a,La c acts n i ω];cases e:lB (nth acts i)<;>simp[e]
def Mj{acts:List bL}{cs:List Int}(h:∀a∈acts,lB a=false)(b:cs.length=acts.length):∀i,i<=acts.length->Fd acts cs i=cs.take i
 | 0,_=>by simp[Fd]
 | i+1,c=>by
  unfold Fd;rw[h _ (au (show i<acts.length by omega)),Mj h b i ω,Y7,ax (show i<cs.length by omega)];simp
def Tu{c:bJ}(acts:List bL)(a:Fd acts (kY c acts acts.length).2 acts.length=(kY c (jF acts) (jF acts).length).2):(kY c acts acts.length).1.b2=(kY c (jF acts) (jF acts).length).1.b2:=by
 rw[Kh,Kh,<-sw (zN c acts acts.length)]
 congr 1
 refine Gz ?_ ?_
 ·rw[JA c (jF acts) _ (O4 _),I7]
  have:=JA c acts acts.length (O4 _);rw[I7]at this;show _=acts.filter _
  conv=>rhs;rw[<-this]
  rw[List.filter_map];rfl
 rw[Ju,<-a,Uy c acts acts.length _ (O4 _)]
def Vk : ∀{l c:List α},l.length<=1->c.length<=1->(∀y,y∈l↔y∈c)->l=c
 | [],[],_,_,_=>rfl
 | [],b::_,_,_,h=>by cases(h b).2 (X2 ..)
 | a::_,[],_,_,h=>by cases(h a).1 (X2 ..)
 | [a],[b],_,_,h=>by
  have:=(h a).1 (X2 ..);rw[C2.1 this]
 | _::_::_,_,h,_,_=>by simp at h
 | _,_::_::_,_,h,_=>by simp at h
def JV:∀{l:List aU},(l.map (·.Id)).Nodup->∀n,(l.filter (dP n)).length<=1
 | [],_,_=>by simp
 | o::l,h,n=>by
  rw[O8,List.nodup_cons]at h;rw[List.filter_cons];split
  ·rename_i e
   have a:l.filter (dP n)=[]:=by
    rw[List.filter_eq_nil_iff];intro x b c;have d:o.Id=n:=of_decide_eq_true e;have f:x.Id=n:=of_decide_eq_true c;exact h.1 (by rw[d,<-f];exact List.mem_map_of_mem b)
   rw[a];simp
  exact JV h.2 n
def LM{x:bj}(h:aX w.Z [])(i:aX x.Z [])(j:RS w)(k:RS x)(l:w.b2=x.b2)(c:o∈w.Z.O):∃a∈x.Z.O,a.Id=o.Id/\ng x.Z.G a=ng w.Z.G o:=by
 have d:=(j.mem _).2 ⟨o,c,rfl⟩;rw[l]at d;obtain⟨a,b,e⟩:=(k.mem _).1 d;unfold im at e;injection e with f g
 have p:=h.objSz o c;have q:=i.objSz a b;have n:=C1 List.length g;rw[fY,fY]at n;refine⟨a,b,f.symm,?_⟩;unfold ng;rw[<-g,<-f,show a.q=o.q by omega]
def NQ{x:bj}(a:aX w.Z [])(b:aX x.Z [])(c:RS w)(d:RS x)(e:w.b2=x.b2):gz w.Z=gz x.Z:=by
 have l:w.Z.b=x.Z.b:=by rw[<-c.nx,<-d.nx,e]
 have key:∀n,ic w.Z n=ic x.Z n:=λn=>by
  induction n with
  | zero=>rfl
  | succ n p=>
   rw[ic,ic,p]
   congr 1
   refine Vk (by rw[O1];exact JV a.oid n) (by rw[O1];exact JV b.oid n) λy=>?_
   simp only[C6,I6,dP,C0];constructor
   ·rintro⟨o,⟨f,g⟩,rfl⟩
    obtain⟨h,i,j,k⟩:=LM a b c d e f;exact⟨h,⟨i,j.trans g⟩,k⟩
   rintro⟨o,⟨f,g⟩,rfl⟩
   obtain⟨h,i,j,k⟩:=LM b a d c e.symm f;exact⟨h,⟨i,j.trans g⟩,k⟩
 unfold gz;rw[CD a.to,CD b.to,l,key]
def pK(a:bL):zzA 118 false [.val (some 5) (bL.enc .S a)] .one [B (lB a)]:=by
 refine fO 11 [] Tryz.func118 rfl ?_
 repeat'(first|refine gP ?_|(conv=>whnf);with_reducible refine Bf.E (λb=>?_) (λb=>?_))
 all_goals exact C1 (λz=>[B z]) ((by unfold lB;first|(simp[*];done)|(simp[*];rw[Y6];simp)))
def EE(a:bL):zzA 119 false [.val (some 5) (bL.enc .S a)] .one [B (lB a)]:=by
 refine fO 11 [] Tryz.func119 rfl ?_
 repeat'(first|refine gP ?_|(conv=>whnf);with_reducible refine Bf.E (λb=>?_) (λb=>?_))
 all_goals exact C1 (λz=>[B z]) ((by unfold lB;first|(simp[*];done)|(simp[*];rw[Y6];simp)))
def GF{acts:List bL}(h:i<acts.length):jF (acts.take (i+1))=if lB (nth acts i)=true then jF (acts.take i) else jF (acts.take i)++[nth acts i]:=by
 unfold jF;rw[Y7,ax h,Option.toList_some,List.filter_append];cases e:lB (nth acts i)<;>simp[e]
def RQ(acts:List bL)(i:Nat):(jF (acts.take i)).length<=i:=by
 unfold jF;have b:=List.length_filter_le (λa=>!lB a) (acts.take i);rw[O2]at b;omega
def vi(acts:List bL)(k:acts.length<=1048576):zzA 43 false [.val none (fh .S acts)] .one (fh .own (jF acts)):=by
 refine fO 26 [] Tryz.func43 rfl ?_ (.inr (v7 _))
 repeat'(first|refine gP ?_|fail)
 (conv=>whnf)
 refine CH (ι:=Nat) (λi=>[(0,.H .one (fh .S acts)),(3,.H .one (fh .own (jF (acts.take i)))),(4,.H .one [I ((i:Nat):Int)])]) (λi=>i<=acts.length) (λi=>acts.length - i) (0) ?_ (Z0 _) λi l=>?_
 ·repeat'(first|exact trivial|rfl |exact E4 g|exact eK _|refine CL ?_ ?_|(exact Jh (by first|omega|(simp only;omega)|(simp;omega))))
 have h:=RQ acts i;by_cases d:i<acts.length
 ·have b:=ax d
  have c:=EE (nth acts i);have a:=GF d;cases e:lB (nth acts i)<;>rw[e]at c a
  ·rw[CC (by simp)]at a
   repeat'(first|refine gE ?_|(conv=>whnf);refine CU (aS λ_=>rfl) (λr j=>by rw[C2.1 j];rfl) (by simp[bp,fx]) (by simp;omega) (by simp only[O1];exact Eh (by simp;omega) (by decide)) rfl ?_)
   ((conv=>whnf);refine CG (i+1) ω ω ?_)
   rw[a]
   repeat'(first|exact trivial|rfl| exact eK _ |exact CL rfl (CL (C1 (C.s dQ.own) (by simp;rfl)) trivial)|refine CL ?_ ?_|(exact Jh (by first|omega|(simp only;omega)|(simp;omega))))
  rw[CD rfl]at a
  repeat'(first|refine gE ?_|fail)
  ((conv=>whnf);refine CG (i+1) ω ω ?_)
  rw[a];exact wC
 obtain rfl:i=acts.length:=ω
 repeat'(first|refine gE ?_|fail)
 rw[I7]
 rfl
def D9(acts:List bL)(cs:List Int):∀i,(Fd acts cs i).length<=i
 | 0=>O4 _
 | i+1=>by
  have:=D9 acts cs i;unfold Fd;split
  ·omega
  rw[X4,List.length_singleton];omega
def oZ(acts:List bL)(cs:List Int)(l:acts.length<=1048576)(n:cs.length=acts.length):zzA 42 false [.val none (fh .S acts),.val none (aJ .S cs)] .one (aJ .own (Fd acts cs acts.length)):=by
 refine fO 33 [] Tryz.func42 rfl ?_ (.inr (bQ _))
 repeat'(first|refine gB ?_|fail)
 (conv=>whnf)
 refine CH (ι:=Nat) (λi=>[(0,.H .one (fh .S acts)),(1,.H .one (aJ .S cs)),(5,.H .one (aJ .own (Fd acts cs i))),(14,.H .one (fh .S acts)),(15,.H .one [I (acts.length)]),(16,.H .one [I ((i:Nat):Int)])]) (λi=>i<=acts.length) (λi=>acts.length - i) (0) ?_ (Z0 _) λi o=>?_
 ·repeat'(first|exact trivial|rfl |exact E4 g|exact eK _|refine CL ?_ ?_|(exact Jh (by first|omega|(simp only;omega)|(simp;omega))))
 have h:=D9 acts cs i;by_cases j:i<acts.length
 ·have b:=ax j
  have d:=ax (xs:=cs) (i:=i) ω;have c:=pK (nth acts i);have a:Fd acts cs (i+1)=if lB (nth acts i)=true then Fd acts cs i else Fd acts cs i++[nth cs i]:=rfl
  cases e:lB (nth acts i)<;>rw[e]at c a
  ·rw[CC (by simp)]at a
   repeat'(first|refine gE ?_|(conv=>whnf);refine CU dU (λr k=>by rw[C2.1 k];rfl) (by simp[bp,fx]) (by simp;omega) (by simp only[O1];exact Eh (by simp;omega) (by decide)) rfl ?_)
   ((conv=>whnf);refine CG (i+1) ω ω ?_)
   rw[a]
   repeat'(first|exact trivial|rfl| exact eK _ |exact CL rfl (CL (C1 (C.s dQ.own) (by simp[rI])) trivial)|refine CL ?_ ?_|(exact Jh (by first|omega|(simp only;omega)|(simp;omega))))
  rw[CD rfl]at a
  repeat'(first|refine gE ?_|fail)
  ((conv=>whnf);refine CG (i+1) ω ω ?_)
  rw[a];exact wC
 obtain rfl:i=acts.length:=ω
 repeat'(first|refine gE ?_|fail)
 rfl
def DU(a b:List Int)(p:a.length<=1048576)(q:b.length<=1048576):zzA 37 false [.val none (aJ .S a),.val none (aJ .S b)] .one [B (decide (a=b))]:=by
 by_cases k:a.length=b.length;rotate_left
 ·rw[X0 (λe=>k (by rw[e]))]
  refine fO 26 [(6,8,[17,18,19,20,21,22,23,24])] Tryz.func37 rfl ?_
  repeat'(first|refine gB ?_|fail)
  rfl
 refine fO 26 [(6,8,[17,18,19,20,21,22,23,24])] Tryz.func37 rfl ?_
 repeat'(first|refine gB ?_|fail)
 (conv=>whnf)
 refine CH (ι:=Nat) (λi=>[(0,.H .one (aJ .S a)),(1,.H .one (aJ .S b)),(5,.H .one [I ((i:Nat):Int)])]) (λi=>i<=a.length/\a.take i=b.take i) (λi=>a.length - i) (0) ?_ (⟨Z0 _,rfl⟩) λi l=>?_
 ·repeat'(first|exact trivial|rfl |exact E4 n|exact eK _|refine CL ?_ ?_|(exact Jh (by first|omega|(simp only;omega)|(simp;omega))))
 obtain⟨l,g⟩:=l;by_cases o:i<a.length
 ·have c:=ax o
  have d:=ax (xs:=b) (i:=i) ω;by_cases e:nth a i=nth b i
  ·repeat'(first|refine gB ?_|fail)
   ((conv=>whnf);refine CG (i+1) ⟨ω,by rw[Y7,Y7,g,c,d,e]⟩ ω ?_;(exact wC))
  repeat'(first|refine gB ?_|fail)
  rw[X0 (λh=>e (by rw[h]))]
  rfl
 obtain rfl:i=a.length:=ω
 have j:a=b:=by rw[I7,k,I7]at g;exact g
 repeat'(first|refine gE ?_|fail)
 rw[O0 j]
 rfl
def Av(xs:List bL)(pr:bL->Bool)(g:xs.length<=9223372036854775807):zzA 270 false [.val none (fh .S xs),.fn (kI Tryz.prog (nl (some 5) (bL.enc .S) pr xs))] .one [I (cF pr xs)]:=by
 refine fO 19 [] Tryz.func270 rfl ?_
 repeat'(first|refine gP ?_|fail)
 (conv=>whnf)
 refine CH (ι:=Nat) (λi=>[(0,.H .one (fh .S xs)),(1,.fv (kI Tryz.prog (nl (some 5) (bL.enc .S) pr xs))),(7,.H .one [I xs.length]),(8,.H .one [I (i:Nat)])]) (λi=>i<=xs.length/\∀(j:Nat)(z:bL),j<i->xs[j]? = some z->pr z=false) (λi=>xs.length - i) 0 ?_ ⟨Z0 _,λj z h=>ω⟩ λi d=>?_
 ·exact wC
 obtain⟨d,b⟩:=d;by_cases c:i<xs.length
 ·obtain⟨y,a⟩ : ∃y,xs[i]? = some y:=⟨_,I3 c⟩
  repeat'(first|refine gE ?_|(conv=>whnf);first|refine Fv.mk (k:=.one) (rcs:=[B (pr y)]) ⟨y,Z2 a,rfl,rfl,rfl⟩ ?_|refine Bf.P (λe=>?_) (λe=>?_))
  ·exact C1 (λz=>[I z]) (eD a ‹_› b).symm
  (conv=>whnf)
  refine CG (i+1) ⟨ω,iE a (by assumption) b⟩ ω ?_;exact wC
 repeat'(first|refine gE ?_|fail)
 exact C1 (λz=>[I z]) (gQ ω b).symm
def wD:zzA 117 false [.val none [.s .S []],.fn (kI Tryz.prog (nl (some 5) (bL.enc .S) lB []))] .one [.s .S []]:=by
 have a:zzA 270 false [.val none [.s .S []],.fn (kI Tryz.prog (nl (some 5) (bL.enc .S) lB []))] .one [I (-1)]:=Av [] lB (by decide);refine fO 42 [] Tryz.func117 rfl ?_ (.inr ⟨⟨.inr rfl,trivial⟩,trivial⟩)
 repeat'(first|refine gB ?_|fail)
 rfl
def n8:zzA 41 false [.val none [.s .S []]] .one [.s .S []]:=by
 refine fO 7 [] Tryz.func41 rfl ?_ (.inr ⟨⟨.inr rfl,trivial⟩,trivial⟩)
 repeat'(first|refine gP ?_|(conv=>whnf);first|refine CU (λr a=>by cases a) (λr a=>by cases a) (λ_ r a=>by cases a) (by simp) (by simp) rfl ?_|refine Cq.mk (nl (some 5) (bL.enc .S) lB []) (pK default).has (λL k rcs b=>?_) ?_|refine CB (wD) ?_)
 ·obtain⟨y,-,rfl,rfl,rfl⟩:=b
  exact pK y
 rfl
def Bg:List bL->List Int
 | []=>[]
 | a::l=>a.b0::a.y::a.N::a.At::a.Value::Bg l
def Eu:∀l:List bL,(Bg l).length=l.length*5
 | []=>rfl
 | a::l=>by simp[Bg,Eu l];omega
def Lg:∀l b:List bL,Bg (l++b)=Bg l++Bg b
 | [],_=>rfl
 | a::l,b=>by simp[Bg,Lg l b]
def LU:∀(l:List bL)(i j:Nat)(c:Int),i<l.length->[(nth l i).b0,(nth l i).y,(nth l i).N,(nth l i).At,(nth l i).Value][j]? = some c->(Bg l)[i*5+j]? = some c
 | [],_,_,_,h,_=>by simp at h
 | a::l,0,j,c,_,h=>by
  have d:j<5:=by have:=(O3.1 h).1;simpa using this
  rw[Nat.zero_mul,W9];obtain rfl|rfl|rfl|rfl|rfl:j=0\/j=1\/j=2\/j=3\/j=4:=ω
  all_goals exact h
 | a::l,i+1,j,c,b,h=>by
  rw[show(i+1)*5+j=i*5+j+1+1+1+1+1 by omega];simp only[Bg,List.getElem?_cons_succ];exact LU l i j c (by simpa using b) h
def su(l:List bL){c:Int}(a:i<l.length)(h:[(nth l i).b0,(nth l i).y,(nth l i).N,(nth l i).At,(nth l i).Value][j]? = some c):m6 (Bg l) (i*5+j)=c:=by
 unfold m6;rw[Y3,LU l i j c a h];rfl
def Mg(l:List bL):∀k,k<=l.length->eX (Bg l) k=Bg (jF (l.take k))/\cI (Bg l) k=(jF (l.take k)).length
 | 0,_=>⟨rfl,rfl⟩
 | k+1,h=>by
  obtain⟨b,c⟩:=Mg l k ω;have a:=su l (i:=k) (j:=0) ω rfl;have d:=su l (i:=k) (j:=1) ω rfl;have e:=su l (i:=k) (j:=2) ω rfl;have f:=su l (i:=k) (j:=3) ω rfl;have g:=su l (i:=k) (j:=4) ω rfl;rw[Nat.add_zero]at a;have n:ss (m6 (Bg l) (k*5))=lB (nth l k):=by
   rw[a];unfold ss lB;rw[Y6];simp
  rw[GF ω];simp only[eX,cI,n];split
  ·exact⟨b,c⟩
  rw[Lg,b,c,X4];refine⟨?_,rfl⟩
  congr 1
  simp only[Kf,a,d,e,f,g];rfl
def uC(acts:List bL)(hl:acts.length<=1048576):zzA 41 false [.val none (fh .S acts)] .one (fh .S (jF acts)):=by
 cases acts with
 | nil=>exact n8
 | cons a0 l0=>
  refine⟨n8.has,λw S vs hS V=>?_⟩
  match vs,V with
  | [v],⟨V,_⟩=>
   have B:=br.rep1 (show br w S NO none [C.s .S ((a0::l0).map (bL.enc .S))] v from V);generalize W:a0::l0=acts at *;have l:0<acts.length:=by rw[<-W];simp
   generalize d:C.s .S (acts.map (bL.enc .S))=cc at B;cases B with
   | nil _ o a ho=>simp at d;rw[d.2]at l;simp at l
   | own _ o g k n J K u f ho X R L hp hF hu hf Y hc=>cases d;exact absurd ho (by simp[dQ.ok])
   | S _ g p k n J K u X R L M hc=>
    simp only[C.s.injEq,true_and]at d;subst d;have Z:k=5:=by
     have:=R (bL.enc .S (nth acts 0)) (List.mem_map_of_mem (au l));rw[<-this];rfl
    subst Z;rw[O1]at X;subst X;have O:oQ w w.heap.size (some ⟨g,p,none⟩) acts.length 5 (Bg acts):=by
     refine⟨Eu acts,λ_=>⟨g,p,rfl,hS _ _ (M 0 ω).1,λq F=>?_⟩⟩;have Y:q / 5<acts.length:=ω
     have e:q / 5*5+q % 5=q:=ω
     obtain⟨c,t⟩ : ∃c,[(nth acts (q / 5)).b0,(nth acts (q / 5)).y,(nth acts (q / 5)).N,(nth acts (q / 5)).At,(nth acts (q / 5)).Value][q % 5]? = some c:=⟨_,I3 (show q % 5<5 by omega)⟩
     have D:=su acts Y t;rw[e]at D;have G:=hc (q / 5) (q % 5) (bL.enc .S (nth acts (q / 5))) (I c) (aa (ax Y)) (by
       have:bL.enc .S (nth acts (q / 5))=[(nth acts (q / 5)).b0,(nth acts (q / 5)).y,(nth acts (q / 5)).N,(nth acts (q / 5)).At,(nth acts (q / 5)).Value].map λx=>I x:=rfl
       rw[this,S4,t];rfl)
     rw[e]at G;have h3:=(M q F).2;rw[D];show cel w g (p+q)=_;rw[h3];generalize u q=y at G;cases G;rfl
    refine(MN g p acts.length J (Bg acts) w O hl).mono λe w1 hr=>?_
    obtain⟨A,c,he,⟨hl2,P⟩,hb⟩:=hr;obtain⟨k1,k2⟩:=Mg acts acts.length (O4 _);rw[I7]at k1 k2;rw[k1,k2]at hl2 P;rw[k2]at he;have R:=bw.of_below hb NO;refine⟨_,he,R,NO,λb o=>b<w1.heap.size/\w.heap.size<=b,λ_ _ h=>h.elim,λb o h=>.inr h,λ_ _ h=>h.elim,rfl,row1 ?_⟩;show dK w1 _ NO (.s .S ((jF acts).map (bL.enc .S))) _;rcases P with⟨hv,hz⟩|⟨T,cap',cur,hv,hg,hh,hnc,hm,hsz,E⟩
    ·rw[hv]
     have:jF acts=[]:=List.length_eq_zero_iff.1 hz;rw[this];exact .nil NO .S none trivial
    rw[hv];have hlt:T<w1.heap.size:=(Z4.1 hh).1;have Q:∀q,q<(jF acts).length*5->cel w1 T (0+q)=some (.int .i64 (m6 (Bg (jF acts)) q)):=λq F=>by
     have D:(cur.toList.take ((jF acts).length*5))[q]? = ((Bg (jF acts)).map IW)[q]?:=by rw[E]
     rw[List.getElem?_take,CD F,Array.getElem?_toList,S4]at D;rw[W9];show w1.cell? ⟨T,q,none⟩ = _;unfold World.cell?;rw[hh];have G:q<(Bg (jF acts)).length:=by rw[Eu];exact F
     rw[I3 G]at D;simp only[O7]at D;unfold m6;rw[Y3,I3 G];simpa using D
    refine .S NO T 0 5 (jF acts).length cap' _ (λq=>.int .i64 (m6 (Bg (jF acts)) q)) (O1 ..) (aS λ_=>rfl) hnc (λq F=>⟨⟨hlt,hg⟩,Q q F⟩) λi j r c H t=>?_
    rw[S4]at H;cases U:(jF acts)[i]? with
    | none=>rw[U]at H;cases H
    | some a=>
     rw[U]at H;simp only[O7,I1]at H;subst H;have ha:nth (jF acts) i=a:=bk U;have hil:=(O3.1 U).1;have e5:bL.enc .S a=[a.b0,a.y,a.N,a.At,a.Value].map λx=>I x:=rfl
     rw[e5,S4]at t;cases h6:[a.b0,a.y,a.N,a.At,a.Value][j]? with
     | none=>rw[h6]at t;cases t
     | some x=>
      rw[h6]at t;simp only[O7,I1]at t;subst t;rw[su (jF acts) hil (by rw[ha];exact h6)];exact .v _ _ rfl
   | _=>cases d
def F6:∀{a b:List db},a.Pairwise (λx y=>x.Id<y.Id)->b.Pairwise (λx y=>x.Id<y.Id)->(∀x,x∈a↔x∈b)->a=b
 | [],[],_,_,_=>rfl
 | [],y::b,_,_,h=>by have:=(h y).2 (X2 ..);cases this
 | x::a,[],_,_,h=>by have:=(h x).1 (X2 ..);cases this
 | x::a,y::b,d,f,h=>by
  rw[List.pairwise_cons]at d f;have g:x=y:=by
   rcases List.mem_cons.1 ((h x).1 (X2 ..)) with e|e
   ·exact e
   rcases List.mem_cons.1 ((h y).2 (X2 ..)) with i|i
   ·exact i.symm
   have j:=f.1 x e;have k:=d.1 y i;omega
  subst g;rw[F6 d.2 f.2 λz=>?_];constructor
  ·intro c
   rcases List.mem_cons.1 ((h z).1 (S7 _ c)) with e|e
   ·subst e;have:=d.1 z c;omega
   exact e
  intro c;rcases List.mem_cons.1 ((h z).2 (S7 _ c)) with e|e
  ·subst e;have:=f.1 z c;omega
  exact e
def xV(c:fg h=true):h.O.Pairwise λo d=>o.Id≠d.Id:=by
 rw[List.pairwise_iff_getElem];intro i j a b f e;refine Vd c a b ω ?_;rw[bk (I3 a),bk (I3 b)];exact e
def vM{h:ac}(e:fg h=true):∀n:Nat,(ic h n).Pairwise λx y=>x.Id<y.Id
 | 0=>List.Pairwise.nil
 | n+1=>by
  rw[ic,List.pairwise_append];refine⟨vM e n,?_,λx i y j=>?_⟩
  ·rw[List.pairwise_map]
   refine List.Pairwise.imp_of_mem ?_ ((xV e).filter _);intro o f g k a;have b:=(I6.1 g).2;have c:=(I6.1 k).2;unfold dP at b c;rw[C0]at b c;exact absurd (b.trans c.symm) a
  obtain⟨o,-,⟨m,l,g⟩,rfl⟩:=pj.1 i;obtain⟨f,d,rfl⟩:=C6.1 j;have:=(I6.1 d).2;unfold dP at this;rw[C0]at this;show o.Id<f.Id;omega
def yz(a:fg h=true){zs:List db}(e:zs.Perm (h.O.map (ng h.G)))(f:zs.Pairwise λx y=>x.Id<=y.Id):zs=gz h:=by
 have g:=Ly a;unfold gz;rw[CD a];refine F6 ?_ (vM a _) λx=>?_
 ·have c:zs.Pairwise λx y=>x.Id≠y.Id:=by
   refine(e.pairwise_iff (fun {x y} h=>Ne.symm h)).2 ?_;rw[List.pairwise_map];exact(xV a).imp λh=>h
  exact(f.and c).imp λh=>ω
 rw[e.mem_iff,pj,C6];constructor
 ·rintro⟨o,b,d⟩
  have:=g o b;exact⟨o,b,⟨o.Id.toNat,ω,ω⟩,d⟩
 rintro⟨o,b,-,d⟩
 exact⟨o,b,d⟩
end Go.Proofs.YtiopgblagimpmaaGreat.Ab
/-
 DERIVED: THE SHELF's CONTRACTS AT THIS DUMP, IN PLAIN WORDS (tools/lay-plain.mjs out of 'TryzShelf2.lean', which tools/lay-shelf.mjs wrote): THE SAME DECLARATIONS UNDER THE SAME NAMES: 'import', 'namespace', 'open', 'def', 'theorem' AND NOTHING ELSE: no command of the shelf's: FOR A HAND-IN. Each laying: the table of numbers ('.._ren') and one theorem, a field a fact of the dump's own or the kernel's comparison; each contract: ONE APPLICATION.
-/
namespace Go.Proofs
open Go.Shelf
def Tryz.sortFact_ren:Go.Shelf.Ren:=⟨fun|6=>94|15=>251|14=>250|28=>400|29=>401|20=>392|21=>393|22=>394|23=>395|24=>396|25=>397|26=>398|27=>399|46=>497|47=>498|48=>499|49=>500|50=>501|57=>564|n=>n,fun|22=>77|24=>168|25=>170|3=>3|39=>304|0=>0|53=>415|55=>417|4=>4|46=>409|45=>408|50=>142|5=>5|9=>9|66=>470|70=>474|76=>507|77=>151|n=>n,fun|n=>n⟩
def Tryz.sortFact:Go.Proofs.SlLaysF0.n6 Tryz.prog Tryz.sortFact_ren:={
  mixed:=by kernel_rfl
  f6:=⟨Tryz.f94.name,by decide,Tryz.func94.trans (congrArg some (by kernel_rfl))⟩
  f14:=⟨Tryz.f250.name,by decide,Tryz.func250.trans (congrArg some (by kernel_rfl))⟩
  f15:=Tryz.func251.trans (congrArg some (by kernel_rfl))
  f20:=⟨Tryz.f392.name,by decide,Tryz.func392.trans (congrArg some (by kernel_rfl))⟩
  f21:=⟨Tryz.f393.name,by decide,Tryz.func393.trans (congrArg some (by kernel_rfl))⟩
  f22:=⟨Tryz.f394.name,by decide,Tryz.func394.trans (congrArg some (by kernel_rfl))⟩
  f23:=⟨Tryz.f395.name,by decide,Tryz.func395.trans (congrArg some (by kernel_rfl))⟩
  f24:=⟨Tryz.f396.name,by decide,Tryz.func396.trans (congrArg some (by kernel_rfl))⟩
  f25:=⟨Tryz.f397.name,by decide,Tryz.func397.trans (congrArg some (by kernel_rfl))⟩
  f26:=⟨Tryz.f398.name,by decide,Tryz.func398.trans (congrArg some (by kernel_rfl))⟩
  f27:=⟨Tryz.f399.name,by decide,Tryz.func399.trans (congrArg some (by kernel_rfl))⟩
  f28:=Tryz.func400.trans (congrArg some (by kernel_rfl))
  f29:=Tryz.func401.trans (congrArg some (by kernel_rfl))
  f46:=⟨Tryz.f497.name,by decide,Tryz.func497.trans (congrArg some (by kernel_rfl))⟩
  f47:=Tryz.func498.trans (congrArg some (by kernel_rfl))
  f48:=Tryz.func499.trans (congrArg some (by kernel_rfl))
  f49:=⟨Tryz.f500.name,by decide,Tryz.func500.trans (congrArg some (by kernel_rfl))⟩
  f50:=⟨Tryz.f501.name,by decide,Tryz.func501.trans (congrArg some (by kernel_rfl))⟩
  f57:=⟨Tryz.f564.name,by decide,Tryz.func564.trans (congrArg some (by kernel_rfl))⟩
  t0:=Tryz.underlying0
  a0:=Tryz.isAgg0
  z0:=Tryz.sizeOf0
  v0:=Tryz.zeroValue0
  t3:=Tryz.underlying3
  a3:=Tryz.isAgg3
  z3:=Tryz.sizeOf3
  v3:=Tryz.zeroValue3
  t4:=Tryz.underlying4
  a4:=Tryz.isAgg4
  z4:=Tryz.sizeOf4
  v4:=Tryz.zeroValue4
  t5:=Tryz.underlying5
  a5:=Tryz.isAgg5
  z5:=Tryz.sizeOf5
  v5:=Tryz.zeroValue5
  t9:=Tryz.underlying9
  a9:=Tryz.isAgg9
  z9:=Tryz.sizeOf9
  v9:=Tryz.zeroValue9
  t22:=Tryz.underlying77
  a22:=Tryz.isAgg77
  z22:=Tryz.sizeOf77
  v22:=Tryz.zeroValue77
  t25:=Tryz.underlying170
  a25:=Tryz.isAgg170
  z25:=Tryz.sizeOf170
  v25:=Tryz.zeroValue170
  t39:=Tryz.underlying304
  a39:=Tryz.isAgg304
  z39:=Tryz.sizeOf304
  v39:=Tryz.zeroValue304
  t45:=Tryz.underlying408
  a45:=Tryz.isAgg408
  z45:=Tryz.sizeOf408
  v45:=Tryz.zeroValue408
  t46:=Tryz.underlying409
  a46:=Tryz.isAgg409
  z46:=Tryz.sizeOf409
  v46:=Tryz.zeroValue409
  t50:=Tryz.underlying142
  a50:=Tryz.isAgg142
  z50:=Tryz.sizeOf142
  v50:=Tryz.zeroValue142
  t53:=Tryz.underlying415
  a53:=Tryz.isAgg415
  z53:=Tryz.sizeOf415
  v53:=Tryz.zeroValue415
  t55:=Tryz.underlying417
  a55:=Tryz.isAgg417
  z55:=Tryz.sizeOf417
  v55:=Tryz.zeroValue417
  t66:=Tryz.underlying470
  a66:=Tryz.isAgg470
  z66:=Tryz.sizeOf470
  v66:=Tryz.zeroValue470
  t70:=Tryz.underlying474
  a70:=Tryz.isAgg474
  z70:=Tryz.sizeOf474
  v70:=Tryz.zeroValue474
  t76:=Tryz.underlying507
  a76:=Tryz.isAgg507
  z76:=Tryz.sizeOf507
  v76:=Tryz.zeroValue507
  t77:=Tryz.underlying151
  a77:=Tryz.isAgg151
  z77:=Tryz.sizeOf151
  v77:=Tryz.zeroValue151}
end Go.Proofs
namespace Go.Proofs.YtiopgblagimpmaaGreat.Ab
open Go.RowKit
set_option maxRecDepth 20000
set_option maxHeartbeats 4000000
def clp(z:Int):Int:=if z<0 then 0 else if 1000000<z then 1000000 else z
def Ri(z:Int):0<=clp z/\clp z<=1000000:=by unfold clp;split<;>(try split)<;>omega
def EF{z:Int}(h:0<=z/\z<=1000000):clp z=z:=by unfold clp;rw[CC ω,CC ω]
def rA(x:db):List Value:=[.int .i64 (clp x.Id),.int .i64 x.q,.int .i64 x.c5]
def Kx(x y:db):Int:=clp x.Id - clp y.Id
def VW(x y:db):Go.Proofs.ltOf Kx x y=decide (clp x.Id<clp y.Id):=by
 unfold Go.Proofs.ltOf Kx;rw[decide_eq_decide];omega
def Wb:Go.Sort.SWO (Go.Proofs.ltOf Kx) where
 irrefl x:=by rw[VW];simp
 trans x y z h1 h2:=by rw[VW]at *;simp at *;omega
 ntrans x y z h1 h2:=by rw[VW]at *;simp at *;omega
def Rs(x y:db)(W:World):Calls Tryz.prog 95 #[.agg #[.int .i64 (clp x.Id),.int .i64 x.q,.int .i64 x.c5],.agg #[.int .i64 (clp y.Id),.int .i64 y.q,.int .i64 y.c5]] W λe w'=>e=.returned (.int .i64 (Kx x y))/\∃q c,w'=Sort.grow (W.drewN q) c:=by
 have g:=Ri x.Id;have h:=Ri y.Id;have d:IntKind.i64.wrap (clp x.Id - clp y.Id)=Kx x y:=fJ ω ω;generalize Kx x y=r at d |-;generalize clp x.Id=a at d |-;generalize clp y.Id=b at d |-
 go_enter Tryz.func95,Tryz.ntmps95
 go_wp2
 go_ret
 refine⟨?_,0,_,by rw[Sort.alloc_eq_grow,Sort.alloc_eq_grow,Sort.grow_grow];rfl⟩
 rfl
def H1{w w':World}{g n:Nat}{d:Array Value}{a:Array Obj}{c:Array Value}{e:TypeId}{j:Nat × Nat}(k:w.heap[g]? = some (.cells c e j))(o:w'=Sort.grow (Sort.putRow id (Sort.ahead w n) g 0 d) a) :
  w'.os=w.os/\w'.tape=w.tape/\w'.output=w.output/\w.heap.size<=w'.heap.size/\(∀b,b<w.heap.size->b≠g->w'.heap[b]? = w.heap[b]?)/\w'.heap[g]? = some (.cells (Sort.putCells id 0 d c) e j):=by
 subst o;have f:g<w.heap.size:=(Z4.1 k).1;have l:∀b,b<w.heap.size->(Sort.grow (Sort.putRow id (Sort.ahead w n) g 0 d) a).heap[b]? = if g=b then(w.heap[b]?).map (Sort.onCells (Sort.putCells id 0 d)) else w.heap[b]?:=λb h=>by
  rw[Sort.heap_grow_old _ _ (by simpa[Sort.putRow,Sort.mapBlock,Sort.ahead] using h)];show(w.heap.modify g _)[b]? = _;rw[Array.getElem?_modify]
 refine⟨rfl,rfl,rfl,?_,λb h i=>?_,?_⟩
 ·show w.heap.size<=((w.heap.modify g _)++a).size
  simp
 ·rw[l b h,CC λe=>i e.symm]
 rw[l g f,CD rfl,k];rfl
def Qz(d:Array Value)(c:Array Value)(q:Nat):(Sort.putCells id 0 d c)[q]? = if q<d.size then(c[q]?).map (λ_=>d[q]!) else c[q]?:=by
 unfold Sort.putCells;rw[Array.getElem?_mapIdx];by_cases h:q<d.size
 ·rw[CD h]
  cases c[q]? with
  | none=>rfl
  | some y=>simp[h]
 rw[CC h];cases c[q]? with
 | none=>rfl
 | some y=>simp[h]
def rK:Value:=.func (.func 95) #[] #[]
def G0(xs:List db)(q:Nat):Value:=(rA (nth xs (q / 3)))[q % 3]!
def Ee{xs:List db}{i j:Nat}(a:j<3):G0 xs (i*3+j)=(rA (nth xs i))[j]!:=by
 unfold G0;rw[show(i*3+j) / 3=i by omega,show(i*3+j) % 3=j by omega]
def xu(d:Array db)(i:Nat):d[i]! = nth d.toList i:=by
 unfold nth;rw[Y3,Array.getElem?_toList,getElem!_def];cases d[i]?<;>rfl
def Gw(d:Array db){q:Nat}(a:q<d.size*3):(Sort.flatK rA 3 d)[q]! = G0 d.toList q:=by
 rw[Sort.get_flatK _ _ _ _ a,xu];rfl
def zi(xs ys:List db)(hr:∀x∈xs,0<=x.Id/\x.Id<=1000000)(hl:xs.length<=1048576*64)(hys:∀zs:List db,zs.Perm xs->zs.Pairwise (λx y=>x.Id<=y.Id)->zs=ys) :
  zzB 94 false [.mut none (gg .own xs),.val none [.v rK]] [.mut none (gg .own ys),.val none [.v rK]] (.tup []) []:=by
 refine⟨⟨_,Tryz.func94,by kernel_rfl,by kernel_rfl⟩,λw S V vs hS hV hVV hA=>?_⟩
 match vs,hA with
 | [v,v2],⟨hA,hA2,_⟩=>
  have hv2:v2=rK:=by
   obtain⟨-,u,rfl,l⟩:=(show br w S NO none [C.v rK] v2 from hA2)
   obtain⟨f,G,-,-⟩:=l;have:=G 0 _ rfl;have hz:u 0=rK:=by
    generalize u 0=z at this;cases this
    rfl
   exact hz
  subst hv2;have T:=br.rep1 (show br w S (V 0) none [C.s .own (xs.map (db.enc .own))] v from hA);generalize Q:C.s .own (xs.map (db.enc .own))=cc at T;cases T with
  | nil _ o a ho=>
   cases U:xs with
   | cons x xs'=>rw[U]at Q;cases Q
   | nil=>
    have hy0:ys=[]:=(hys [] (by rw[U]) List.Pairwise.nil).symm;refine(AnyF.slices_SortFunc_none Tryz.sortFact a 0 rK w).mono λe w' ⟨he,Y⟩=>?_
    subst Y;refine⟨.tuple #[],he,CY _ _,NO,λ_=>NO,NO,λ_ _ h=>h.elim,λ_ _ _ h=>h.elim,λ_ _ h=>h.elim,λ_ _ _ _ _ h=>h.elim,λ_ _ _ h=>h.elim,λ_ _ h=>h.elim,λ_ _ _ h=>h.elim,⟨#[],rfl,trivial,rfl⟩,cK.nil _ _ _ _,⟨⟨rfl,λ_=>.slice a 0 0,rfl,row1 (by rw[hy0];exact .nil _ .own _ trivial)⟩,trivial,trivial⟩⟩
  | own _ o g k n L rows u f ho hn hk M hpos hF hu hf hd hc=>
   cases Q;have hnx:n=xs.length:=by rw[<-hn,O1]
   have hx0:0<xs.length:=ω
   have hk3:k=3:=by
    have:=hk (db.enc .own xs[0]) (C6.2 ⟨_,List.getElem_mem hx0,rfl⟩);exact this.symm
   subst hk3 hnx;have N:∀q,q<xs.length*3->cel w g q=some (G0 xs q):=λq p=>by
    have G:=hu q p;have J:q / 3<xs.length:=ω
    have l:(xs.map (db.enc .own))[q / 3]? = some (db.enc .own (nth xs (q / 3))):=by rw[S4,ax J];rfl
    have Z:=EF (hr _ (au J));have h3:q % 3=0\/q % 3=1\/q % 3=2:=ω
    have H:q / 3*3+q % 3=q:=ω
    unfold G0 rA;rw[G,Z];rcases h3 with e|e|e
    ·have B:=hc (q / 3) 0 _ (I (nth xs (q / 3)).Id) l rfl
     rw[e];rw[e]at H;rw[H]at B;generalize u q=z at B;cases B
     rfl
    ·have B:=hc (q / 3) 1 _ (I (nth xs (q / 3)).q) l rfl
     rw[e];rw[e]at H;rw[H]at B;generalize u q=z at B;cases B
     rfl
    have B:=hc (q / 3) 2 _ (I (nth xs (q / 3)).c5) l rfl;rw[e];rw[e]at H;rw[H]at B;generalize u q=z at B;cases B
    rfl
   have hgs:g<w.heap.size:=(hV 0 g 0 (hF 0 ω).1).1;obtain⟨c,e0,fr,hg,-⟩:=Sort.cells_of_cell? (N 0 ω);have hH:Sort.HoldsK rA 3 w g 0 xs.toArray:=λq p=>by
    have hq':q<xs.length*3:=by simpa using p
    refine⟨?_,?_⟩
    ·rw[Gw _ (by simpa using hq'),W9];exact N q hq'
    rw[W9];exact C1 Prod.fst (hF q (O5 hq' (Z9 3 M))).2.2
   have W:=AnyQ.slices_SortFunc Tryz.sortFact 3 Tryz.isAgg168 Tryz.sizeOf168 rA (λ_=>rfl) (λx v hv=>by simp[rA]at hv;rcases hv with rfl|rfl|rfl<;>rfl) Kx Wb 95 #[] g 0 L xs.toArray w (enters_of Tryz.func95 (by kernel_rfl) rfl) (λ_ _ _ _ x y=>Rs x y _) hH hgs (by simp;omega);rw[show xs.toArray.size=xs.length from by simp]at W;refine Calls.mono (show Calls Tryz.prog 94 #[.slice (some ⟨g,0,none⟩) xs.length L,rK] w _ from W) λe w' ⟨he,K,m,os,hp,hsd,Y⟩=>?_
   obtain⟨q1,q2,q3,q4,q5,q6⟩:=H1 hg (show w'=Sort.grow (Sort.putRow id (Sort.ahead w m) g 0 (Sort.flatK rA 3 K)) os from Y);obtain⟨p1,-,p3⟩:=hp;have hsz:K.size=xs.length:=by simpa using p1
   have hzl:K.toList.length=xs.length:=by simpa using hsz
   have D:K.toList.Perm xs:=by
    have G:(K.extract 0 xs.length).toList=K.toList:=by rw[<-hsz];simp
    have B:(xs.toArray.extract 0 xs.length).toList=xs:=by simp
    rwa [G,B]at p3
   have R:∀y∈K.toList,0<=y.Id/\y.Id<=1000000:=λy hy=>hr y (D.mem_iff.1 hy)
   have O:K.toList.Pairwise λx y=>x.Id<=y.Id:=by
    rw[List.pairwise_iff_getElem];intro i j J E hij;have G:=hsd i j (Z0 _) hij ω;rw[xu,xu,bk (I3 J),bk (I3 E),VW,EF (R _ (List.getElem_mem J)),EF (R _ (List.getElem_mem E))]at G;have:=of_decide_eq_false G;omega
   have hzy:=hys _ D O;generalize hzz:K.toList=zs at hzl D R O hzy;subst hzy;have P:∀q,cel w g q=c[q]?:=λq=>by show World.cell? w _=_;unfold World.cell?;simp[hg]
   have F:∀q,cel w' g q=if q<xs.length*3 then(c[q]?).map (λ_=>G0 zs q) else c[q]?:=λq=>by
    have G:=Qz (Sort.flatK rA 3 K) c q;have B:(Sort.flatK rA 3 K).size=xs.length*3:=by rw[Sort.size_flatK,hsz]
    rw[B]at G;have h3:cel w' g q=(Sort.putCells id 0 (Sort.flatK rA 3 K) c)[q]?:=by show World.cell? w' _=_;unfold World.cell?;simp[q6]
    rw[h3,G];by_cases p:q<xs.length*3
    ·rw[CD p,CD p,Gw _ ω,hzz]
    rw[CC p,CC p]
   have d:∀q,q<xs.length*3->cel w' g q=some (G0 zs q):=λq p=>by
    have G:=N q p;rw[P]at G;rw[F,CD p,G,O7]
   have X:∀q,fro w' g q=fro w g q:=λq=>by
    refine Prod.ext ?_ ?_
    ·show World.frozen? w' _=World.frozen? w _
     unfold World.frozen?;simp[q6,hg]
    show mp w' g=mp w g;unfold mp;rw[q6,hg];simp only[Sort.putCells,Array.size_mapIdx]
   have hother:∀b,b<w.heap.size->b≠g->∀o,cel w' b o=cel w b o/\fro w' b o=fro w b o:=λb hb hne o=>by
    have hb':=q5 b hb hne;refine⟨?_,Prod.ext ?_ ?_⟩
    ·show World.cell? w' _=World.cell? w _
     unfold World.cell?;simp only[hb']
    ·show World.frozen? w' _=World.frozen? w _
     unfold World.frozen?;simp only[hb']
    show mp w' b=mp w b;unfold mp;rw[hb']
   have hcap3:∀q,q<xs.length*3->q<L*3:=λq p=>O5 p (Z9 3 M)
   have hkeep:bw (λb o=>∃i,V i b o) w w':=by
    refine⟨q1,q2,q3,q4,λb hb hn=>q5 b hb λe=>?_,λb o hb hn=>?_,λb o hb hn=>?_⟩
    ·subst e;exact hn 0 ⟨0,(hF 0 ω).1⟩
    ·by_cases e:b=g
     ·subst e
      have ho:¬o<xs.length*3:=λh=>hn ⟨0,(hF o (hcap3 o h)).1⟩
      rw[F,CC ho,P]
     exact(hother b hb e o).1
    by_cases e:b=g
    ·subst e;exact X o
    exact(hother b hb e o).2
   refine⟨.tuple #[],he,hkeep,NO,Wx (V 0),NO,λ_ _ h=>h.elim,λi b o h=>?_,λ_ _ h=>h.elim,λi i' hne b o h h'=>?_,λ_ _ _ h=>h.elim,λ_ _ h=>h.elim,λ_ _ _ _ h=>h.elim,⟨#[],rfl,trivial,rfl⟩,cK.nil _ _ _ _,⟨⟨rfl,λ_=>.slice (some ⟨g,0,none⟩) xs.length L,rfl,row1 ?_⟩,trivial,trivial⟩⟩
   ·cases i with
    | zero=>exact .inl ⟨0,h⟩
    | succ i=>exact h.elim
   ·cases i with
    | zero=>
     cases i' with
     | zero=>exact hne rfl
     | succ i'=>exact h'.elim
    | succ i=>exact h.elim
   show dK w' _ (V 0) _ _;refine .own _ .own g 3 xs.length L _ (λq=>(cel w' g q).getD undef) (λ_=>NO) trivial (by rw[O1,hzl]) (λr hr=>by obtain⟨z,-,rfl⟩:=C6.1 hr;rfl) M hpos (λq p=>?_) (λq p=>?_) (λ_ _ _ _ h=>h.elim) (λ_ _ _ _ _ _ _ h=>h.elim) (λi j r c2 J E=>?_)
   ·obtain⟨a1,⟨z,a2,a3⟩,a4⟩:=hF q p
    refine⟨a1,?_,(X q).trans a4⟩;by_cases hqx:q<xs.length*3
    ·refine⟨_,d q hqx,?_⟩
     have h3:q % 3=0\/q % 3=1\/q % 3=2:=ω
     unfold G0 rA;rcases h3 with e|e|e<;>rw[e]<;>rfl
    rw[F,CC hqx,<-P];exact⟨z,a2,a3⟩
   ·rw[d q p];rfl
   rw[S4]at J;have hil:i<zs.length:=by
    rcases Nat.lt_or_ge i zs.length with h|h
    ·exact h
    rw[X3 h]at J;cases J
   rw[ax hil]at J;simp only[O7,I1]at J;subst J;have Z:=EF (R _ (au hil))
   match j,E with
   | 0,E=>
    simp only[db.enc,List.getElem?_cons_zero,I1]at E;subst E;simp only[d (i*3+0) ω,Option.getD_some,Ee (show 0<3 by omega),rA,Z];exact .v _ _ rfl
   | 1,E=>
    simp only[db.enc,List.getElem?_cons_succ,List.getElem?_cons_zero,I1]at E;subst E;simp only[d (i*3+1) ω,Option.getD_some,Ee (show 1<3 by omega),rA];exact .v _ _ rfl
   | 2,E=>
    simp only[db.enc,List.getElem?_cons_succ,List.getElem?_cons_zero,I1]at E;subst E;simp only[d (i*3+2) ω,Option.getD_some,Ee (show 2<3 by omega),rA];exact .v _ _ rfl
   | j+3,E=>simp[db.enc]at E
  | _=>cases Q
set_option maxHeartbeats 2000000
def tj(h:ac)(l:ac.sml h):zzA 30 false [.val (some 24) (ac.enc .S h)] .one (gg .own (gz h)):=by
 have c:=cr h l;rw[dz]at c;have p:h.O.length<=1048576:=l.2.2.2.2.1.1;cases a:fg h<;>rw[a]at c
 ·rw[show gz h=[] by unfold gz;rw[a];rfl]
  refine fP 53 [(94,[1,0])] [] Tryz.func30 rfl ?_ (.inr (zM _))
  repeat'((conv=>whnf);first|with_reducible (first|refine Lm ?_|refine Wm ω ?_|refine Bn ?_|refine js.wk rfl ?_)|refine Bt ?_|refine Bu ?_|refine CB (c) ?_)
  exact⟨rfl,trivial⟩
 have n:=DB a;have d:=Ly a;have r:=L0 a;refine fP 53 [(94,[1,0])] [] Tryz.func30 rfl ?_ (.inr (zM _))
 repeat'((conv=>whnf);first|with_reducible (first|refine Lm ?_|refine Wm ω ?_|refine Bn ?_|refine js.wk rfl ?_)|refine Bt ?_|refine Bu ?_|refine CB (c) ?_)
 (conv=>whnf)
 refine CH (ι:=Nat) (λi=>[(1,.H .box (ac.enc .S h)),(3,.H .one (gg .own ((h.O.take i).map (ng h.G)))),(14,.H .one (ml .S h.O)),(15,.H .one [I (h.O.length)]),(16,.H .one [I ((i:Nat):Int)])]) (λi=>i<=h.O.length) (λi=>h.O.length - i) (0) ?_ (Z0 _) λi H=>?_
 ·exact wB
 by_cases e:i<h.O.length
 ·have g:=ax e
  obtain⟨J,K,L,M,N,O,-⟩:=wZ a e;have t:=DY h (nth h.O i).Addr (nth h.O i).q n ω ω;have u:=fY h.G (nth h.O i).Addr (nth h.O i).q.toNat
  repeat'(first|refine gE ?_|fail)
  (conv=>whnf)
  refine CH (ι:=Nat) (λq=>[(1,.H .box (ac.enc .S h)),(3,.H .one (gg .own ((h.O.take i).map (ng h.G)))),(14,.H .one (ml .S h.O)),(15,.H .one [I (h.O.length)]),(16,.H .one [I ((i:Nat):Int)]),(5,.H .box (aU.enc .S (nth h.O i))),(6,.H .one [I (A8 (cellsOf h.G (nth h.O i).Addr (nth h.O i).q.toNat) q)]),(25,.H .one (aJ .own (cellsOf h.G (nth h.O i).Addr (nth h.O i).q.toNat))),(26,.H .one [I ((nth h.O i).q.toNat)]),(27,.H .one [I ((q:Nat):Int)])]) (λq=>q<=(nth h.O i).q.toNat) (λq=>(nth h.O i).q.toNat - q) (0) ?_ (Z0 _) λq P=>?_
  ·exact wB
  have w:=Ty (cellsOf h.G (nth h.O i).Addr (nth h.O i).q.toNat) q;by_cases y:q<(nth h.O i).q.toNat
  ·have j:=Hu h.G (nth h.O i).Addr y
   have B:=M4 n ((nth h.O i).Addr+(q:Int));have D:=Q5 (k:=(q:Int)+1) B ω;have b:(A8 (cellsOf h.G (nth h.O i).Addr (nth h.O i).q.toNat) q+((q:Int)+1)*ew h.G ((nth h.O i).Addr+(q:Int))).tmod 9973=A8 (cellsOf h.G (nth h.O i).Addr (nth h.O i).q.toNat) (q+1):=by
    rw[fV ω,A8,bk j]
   repeat'(first|refine gE ?_|(conv=>whnf);first|refine CQ (by decide) ?_|refine CS b ?_)
   ((conv=>whnf);refine CG (q+1) ω ω ?_;(exact wB))
  obtain rfl:q=(nth h.O i).q.toNat:=ω
  repeat'(first|refine gE ?_|(conv=>whnf);refine Ap.sl (aS λ_=>rfl) rfl (by simp;omega) (by decide) rfl ?_)
  (conv=>whnf)
  refine CG (i+1) ω ω ?_;rw[fk e]
  (repeat'(first|exact trivial|rfl|exact CL rfl (CL (C1 (C.s dQ.own) (by simp[db.enc,ng])) trivial)|refine CL ?_ ?_))
 obtain rfl:i=h.O.length:=ω
 rw[I7]
 repeat'(first|refine gE ?_|(conv=>whnf);refine CK (zi (h.O.map (ng h.G)) (gz h) (λx g=>by obtain⟨o,E,rfl⟩:=C6.1 g;have:=d o E;exact⟨by show 0<=o.Id;omega,by show o.Id<=1000000;omega⟩) (by rw[O1];omega) (λzs F G=>yz a F G)) (.inl rfl) ?_)
 rfl
def PR(a b c d e f:Int):VV Tryz.prog .neq 168 [.int .i64 a,.int .i64 b,.int .i64 c] [.int .i64 d,.int .i64 e,.int .i64 f] (!(a == d&&(b == e&&(c == f)))):=by
 refine⟨λx y w=>?_⟩;rw[Sem.run_bind,run_eqGuard_agg w .neq _ x y _ _ (by kernel_rfl)];simp only[Result.andThen_ok];rw[run_neq_struct,run_equalIn_agg w _ _ _ _ (by kernel_rfl) (by kernel_rfl)];simp only[Program.fieldsOf,Tryz.underlying168];simp only[Op.eqFields];simp[part,Sem.run_bind,run_equalIn_int _ _ _ _ _ _ _ Tryz.underlying3];by_cases g:a=d<;>by_cases h:b=e<;>by_cases i:c=f<;>simp[g,h,i]
def J9(a:List db)(d:a.length<=1048576):zzA 96 false [.val none (gg .S a),.val none (gg .S a)] .one [B true]:=by
 refine fO 26 [(6,9,[16,17,18,19,20,21,22,23,24])] Tryz.func96 rfl ?_
 repeat'(first|refine gB ?_|fail)
 (conv=>whnf)
 refine CH (ι:=Nat) (λi=>[(0,.H .one (gg .S a)),(1,.H .one (gg .S a)),(12,.H .one [I ((a.length:Nat):Int)]),(13,.H .one [I ((i:Nat):Int)])]) (λi=>i<=a.length) (λi=>a.length - i) (0) ?_ (Z0 _) λi e=>?_
 ·exact wC
 by_cases c:i<a.length
 ·have b:=ax c
  repeat'(first|refine gE ?_|(conv=>whnf);first|refine UN.mk (PR _ _ _ _ _ _) ?_|refine Bf.t (by simp only[beq_self_eq_true,Bool.and_self]) ?_)
  ((conv=>whnf);refine CG (i+1) ω ω ?_;(exact wC))
 repeat'(first|refine gE ?_|fail)
 rfl
def AF(a:List db)(b:a.length<=1048576):zzA 31 false [.val none (gg .S a),.val none (gg .S a)] .one [B true]:=by
 have c:=J9 a b;refine fO 8 [] Tryz.func31 rfl ?_
 repeat'(first|refine gP ?_|fail)
 rfl
def RZ{acts:List bL}(h:(jF acts).length=acts.length):∀a∈acts,lB a=false:=by
 unfold jF at h;rw[List.length_filter_eq_length_iff]at h;intro a b;have:=h a b;simpa using this
def Invisible_law(zs:List Int)(Q:zs.length<=9223372036854775807/\∀y∈zs,0<=y/\y<=255):zzA 10 false [.val none (Vt zs)] .one [B true]:=by
 have p:=U7 zs Q.1;by_cases R:(zs.length:Int) > 1048576
 ·rw[O0 R]at p
  refine fO 82 [(11,16,[59,60,61,62,63,64,65,66,67,68,69,70,71,72,73,74])] Tryz.func10 rfl ?_
  repeat'(first|refine gP ?_|fail)
  rfl
 rw[X0 R]at p;have X:lV zs:=⟨ω,Q.2⟩
 have Y:(wJ zs).i<=zs.length:=Z0 _;obtain⟨K,Z⟩:=FK Y;have q:=PV zs (wJ zs);obtain⟨a1,a2⟩:=QD (zs:=zs) (c:=ou zs) Z;have cD:=EA zs X;generalize pz zs (wJ zs)=b at *;generalize (sJ zs (ou zs)).1=acts at *;have d:H0 {b with a2:=32,X:=32}:=⟨⟨show 1<=32 by decide,show 32<=32 by decide⟩,⟨show 1<=32 by decide,show 32<=32 by decide⟩,K.t,K.l,K.r⟩
 have j:kj ({b with a2:=32,X:=32} : bJ).w:=q;have hpl:(jF acts).length<=acts.length:=List.length_filter_le ..;have M:=tq {b with a2:=32,X:=32} acts d j ω;have S:=uC acts ω;have N:=tq {b with a2:=32,X:=32} (jF acts) d j ω;have u:=wR {b with a2:=32,X:=32} acts acts.length;have C:=wR {b with a2:=32,X:=32} (jF acts) (jF acts).length;have T:=oZ acts (kY {b with a2:=32,X:=32} acts acts.length).2 ω u;have hpc:=D9 acts (kY {b with a2:=32,X:=32} acts acts.length).2 acts.length;have J:=DU (Fd acts (kY {b with a2:=32,X:=32} acts acts.length).2 acts.length) (kY {b with a2:=32,X:=32} (jF acts) (jF acts).length).2 ω ω;change ar _ _ _ [.val (some 5) [I 32,I 32,I b.c3,I b.c0,.s .S (b.w.map (rI .S))],_] _ _ at M N;by_cases o:Fd acts (kY {b with a2:=32,X:=32} acts acts.length).2 acts.length=(kY {b with a2:=32,X:=32} (jF acts) (jF acts).length).2
 ·rw[O0 o]at J
  have D:=Tu acts o;have e:=uB d acts acts.length;have E:=K3 d acts acts.length;have n:=Fz d acts acts.length;have g:=uB d (jF acts) (jF acts).length;have k:=K3 d (jF acts) (jF acts).length;have h:=Fz d (jF acts) (jF acts).length;unfold rfs at n h;have O:=(e.fit (by rw[n];exact j)).1;have F:=(g.fit (by rw[h];exact j)).1;have G:=NQ e.inv g.inv E.rs k.rs D;have hfl:=Nu e.inv;have hno:=e.inv.lens.objs;have P:=tj (kY {b with a2:=32,X:=32} acts acts.length).1.Z O;have U:=tj (kY {b with a2:=32,X:=32} (jF acts) (jF acts).length).1.Z F;rw[<-G]at U;have c8:=AF (gz (kY {b with a2:=32,X:=32} acts acts.length).1.Z) ω;have V:=cr (kY {b with a2:=32,X:=32} acts acts.length).1.Z O;rw[dz,e.inv.to]at V;have H:=KD (gz (kY {b with a2:=32,X:=32} acts acts.length).1.Z);clear o D e E n g k h O F G;generalize gz (kY {b with a2:=32,X:=32} acts acts.length).1.Z=L at *;generalize Fd acts (kY {b with a2:=32,X:=32} acts acts.length).2 acts.length=pc at *;generalize (kY {b with a2:=32,X:=32} acts acts.length).1=w at *;generalize (kY {b with a2:=32,X:=32} acts acts.length).2=cs at *;generalize (kY {b with a2:=32,X:=32} (jF acts) (jF acts).length).1=x at *;generalize (kY {b with a2:=32,X:=32} (jF acts) (jF acts).length).2=ds at *;refine fO 82 [(11,16,[59,60,61,62,63,64,65,66,67,68,69,70,71,72,73,74])] Tryz.func10 rfl ?_
  repeat'(first|refine gB ?_|(conv=>whnf);first|refine Cl.sh M rfl ?_|refine Cl.sh N rfl ?_|refine CN (T) ⟨⟨rfl,rfl⟩,⟨rfl,dm _⟩,trivial⟩ ?_|refine CN (J) ⟨⟨rfl,dm _⟩,⟨rfl,dm _⟩,trivial⟩ ?_|refine CN (c8) ⟨⟨rfl,H⟩,⟨rfl,H⟩,trivial⟩ ?_)
  all_goals first|rfl|exact C1 (λz=>[B z]) (O0 ω)
 rw[X0 o]at J;have hlt:(jF acts).length<acts.length:=by
  refine Classical.byContradiction λhn=>o ?_
  have W:=RZ (acts:=acts) ω;have h4:jF acts=acts:=List.filter_eq_self.2 λa ha=>by rw[W a ha];rfl
  rw[Mj W u acts.length (O4 _),Y9 ω,h4]
 have P:=vi acts ω;have hpo:=B9 (jF acts);clear o;generalize Fd acts (kY {b with a2:=32,X:=32} acts acts.length).2 acts.length=pc at *;generalize (kY {b with a2:=32,X:=32} acts acts.length).1=w at *;generalize (kY {b with a2:=32,X:=32} acts acts.length).2=cs at *;generalize (kY {b with a2:=32,X:=32} (jF acts) (jF acts).length).1=x at *;generalize (kY {b with a2:=32,X:=32} (jF acts) (jF acts).length).2=ds at *;refine fO 82 [(11,16,[59,60,61,62,63,64,65,66,67,68,69,70,71,72,73,74])] Tryz.func10 rfl ?_
 repeat'(first|refine gB ?_|(conv=>whnf);first|refine Ln.mk C ?_|refine Cl.sh M rfl ?_|refine Cl.sh N rfl ?_|refine CN (T) ⟨⟨rfl,rfl⟩,⟨rfl,dm _⟩,trivial⟩ ?_|refine CN (J) ⟨⟨rfl,dm _⟩,⟨rfl,dm _⟩,trivial⟩ ?_)
 all_goals first|rfl|exact C1 (λz=>[B z]) (O0 ω)
open Go.RowKit Go.ChangeShapes Go.WideShapes Go.Deep
def ALL(w:World):ah:=λb _=>b<w.heap.size
def VT{H:Type}(e:TypeId × Value->H)(P:Program)(w:World)(t n:Nat){α:Type}(enc:α->List C)(b:α->Prop):Prop:=
 ∀(fuel:Nat)(cs:List Value)(x:DataW H × List MemPlace),DataW.trod e P w 0 (λ_=>true) true fuel t cs=some x->cs.length=n/\∃a,b a/\(enc a).length=n/\cK w (ALL w) NO (enc a) (λj=>cs.getD j undef)
section
variable{H:Type}{e:TypeId × Value->H}{P:Program}{w:World}
variable{u:Nat->Value}
def DN{S F:ah}{c:C}(h:dK w S F c (u 0)):cK w S F [c] u:=
 ⟨λ_=>F,λj e a=>by cases j with
   | zero=>simp at a;subst a;exact h
   | succ j=>simp at a,λ_ _ _ _ h=>h,λj f a b d=>by simp at a b;omega⟩
def pick{α β:Type}(n:Nat){Q:Nat->β->Prop}(h:∀i,i<n->∃b,Q i b):∃l:List β,l.length=n/\∀i b,l[i]? = some b->Q i b:=by
 induction n with
 | zero=>exact⟨[],rfl,λi b h=>by simp at h⟩
 | succ n c=>
  obtain⟨l,d,e⟩:=c λi a=>h i ω
  obtain⟨b,f⟩:=h n ω;refine⟨l++[b],by simp[d],λi g a=>?_⟩;by_cases j:i<n
  ·rw[O6 ω]at a;exact e i g a
  rw[S6 ω]at a;have:i - l.length=0:=by
   have:=(O3.1 a).1;simp at this;omega
  rw[this]at a;simp at a;subst a;rw[show i=n by omega];exact f
theorem Pz{t T n:Nat}{α:Type}{enc:α->List C}{U:α->Prop}(V:VT e P w T n enc U)(ht:P.underlying t=some (.slice T))(hn:P.cellsOf T=n)(p:0<n) :
  VT e P w t 1 (λxs:List α=>[.s .S (xs.map enc)]) (λxs=>xs.length<=9223372036854775807/\∀y∈xs,U y):=by
 intro fuel cs x h;rcases open_slice ht h with⟨rfl,-⟩|⟨k,len,cap,m,n',D,Pl,rfl,-,hl,hm,K,-,u⟩
 ·exact⟨rfl,[],⟨by simp,by simp⟩,rfl,DN (.nil _ _ _ trivial)⟩
 simp only[if_true]at K;subst K;have L:0<m->k.spot=none:=λW=>by
  obtain⟨E,M,N⟩:=u 0 W;rw[hn]at M;obtain⟨_,X,F⟩:=World.cells?_some M;have:=F 0 p;rw[I3 ω]at this;have:=World.cell?_spot this;simpa[Addr.add] using this
 have key:∀i,i<len->∃a,U a/\(enc a).length=n/\(∀d,d<n->∃z,cel w k.block (k.off+(i*n+d))=some z)/\k.spot=none/\cK w (ALL w) NO (enc a) (λd=>(cel w k.block (k.off+(i*n+d))).getD undef):=λi hil=>by
  have g:=L ω;obtain⟨E,M,N⟩:=u i ω;rw[hn]at M;obtain⟨h1,a,h3,h4,h5⟩:=V _ _ _ N;obtain⟨_,X,F⟩:=World.cells?_some M;have O:∀d,k.add d = ⟨k.block,k.off+d,none⟩:=λd=>by
   obtain⟨b,o,sp⟩:=k;simp only at g;subst g;unfold Addr.add;split<;>simp_all
  have A:∀d,d<n->cel w k.block (k.off+(i*n+d))=E[d]?:=λd J=>by
   have:=F d J;rw[Go.Deep.add_add,O]at this;exact this
  refine⟨a,h3,h4,λd J=>⟨_,by rw[A d J,I3 ω]⟩,g,h5.congr λd J=>?_⟩;show(cel w k.block (k.off+(i*n+d))).getD undef=E.getD d undef;rw[A d ω,List.getD]
 obtain⟨l,Q,B⟩:=pick (α:=α) len key;refine⟨rfl,l,⟨by simp only[maxLen]at hm;omega,λy R=>?_⟩,rfl,DN ?_⟩
 ·obtain⟨i,G⟩:=List.mem_iff_getElem?.1 R
  exact(B i y G).1
 show dK w (ALL w) NO (.s .S (l.map enc)) (.slice (some k) len m);by_cases h0:len=0
 ·subst h0
  have:l=[]:=IA Q;subst this;by_cases Y:m=0
  ·subst Y;exact .nil _ _ _ trivial
  have g:=L ω;obtain⟨b,o,sp⟩:=k;simp only at g;subst g;exact .S _ b o n 0 m [] (λ_=>undef) rfl (λr Z=>by simp at Z) hl (λq hq=>by simp at hq) (λi j r c u=>by simp at u)
 obtain⟨y0,hy0⟩ : ∃y,l[0]? = some y:=⟨_,I3 ω⟩
 have g:=(B 0 y0 hy0).2.2.2.1;obtain⟨b,o,sp⟩:=k;simp only at g;subst g;refine .S _ b o n len m (l.map enc) (λq=>(cel w b (o+q)).getD undef) (by simpa using Q) (λr Z=>?_) hl (λq hq=>?_) (λi j r c u hj=>?_)
 ·obtain⟨y,R,rfl⟩:=C6.1 Z
  obtain⟨i,G⟩:=List.mem_iff_getElem?.1 R;exact(B i y G).2.1
 ·have hqd:q / n<len:=(Nat.div_lt_iff_lt_mul p).2 hq
  obtain⟨y,R⟩ : ∃y,l[q / n]? = some y:=⟨_,I3 ω⟩
  obtain⟨z,S⟩:=(B _ y R).2.2.1 (q % n) (Nat.mod_lt _ p);have J:q / n*n+q % n=q:=by rw[Nat.mul_comm];exact Nat.div_add_mod q n
  rw[J]at S;exact⟨Vg S,by simp only at S |-;rw[S];rfl⟩
 rw[S4]at u;cases H:l[i]? with
 | none=>rw[H]at u;cases u
 | some y=>
  rw[H]at u;simp only[O7,I1]at u;subst u;obtain⟨f,h1,h2,-⟩:=(B i y H).2.2.2.2;have hjl:=(O3.1 hj).1;exact(h1 j c hj).mono (λ_ _ h=>h) (h2 j hjl)
def row_val{S F:ah}{x:Value}(h:cK w S F [.v x] u):u 0=x:=by
 obtain⟨f,a,-⟩:=h;have:=a 0 _ rfl;cases this
 rfl
end
open Go.RowKit Go.ChangeShapes Go.WideShapes
section
variable{H:Type}{e:TypeId × Value->H}{P:Program}{w:World}
def T7{t:Nat}(b:P.underlying t=some (.int .u8)):VT e P w t 1 rU (λz=>0<=z/\z<=255):=by
 intro fuel cs x h;obtain⟨n,rfl,-,a⟩:=DataW.trod_int b h;refine⟨rfl,n,?_,rfl,DN (.v _ _ rfl)⟩;simp only[Lit.wf,I0,C0]at a;exact a
def op_ByteS:VT e Tryz.prog w 22 1 (λzs:List Int=>[.s .S (zs.map rU)]) (λzs=>zs.length<=9223372036854775807/\∀y∈zs,0<=y/\y<=255):=Pz (T7 Tryz.underlying5) Tryz.underlying22 (by kernel_rfl) (by decide)
end
end Go.Proofs.YtiopgblagimpmaaGreat.Ab
