/- Jobs: what objects hold is kept at every step. No condition. -/
import Derived.Test.YtiopgblagimpmaaGreatKkc
import Derived.Test.YtiopgblagimpmaaGreatKki
import Derived.Test.YtiopgblagimpmaaGreatKkh
import Derived.Test.YtiopgblagimpmaaGreatKkg
import Derived.Test.YtiopgblagimpmaaGreatKkf
import Derived.ProofKit
import Derived.OpenShut
import Derived.Deep.Slices
import Derived.Deep.Fields
import Derived.ChangeSame
import Derived.WideShapes
set_option linter.unusedVariables false
set_option linter.defProp false
set_option linter.unusedSimpArgs false
set_option linter.constructorNameAsVariable false
namespace Go.Proofs.YtiopgblagimpmaaGreat.Ab
structure JP(h:ac):Prop where
 km:(af (tbl h) h.Y.X.a3).j≠0
 mm:(af (tbl h) h.Y.X.a0).j≠0
 kf:(af (tbl h) h.Y.X.a3).e=(bF h.F h.Y.X.a3:Nat)
 mf:(af (tbl h) h.Y.X.a0).e=(bF h.F h.Y.X.a0:Nat)
 ne:bF h.F h.Y.X.a3≠bF h.F h.Y.X.a0
 pe:h.Y.X.a3≠h.Y.X.a0
 k2:CI h->(af (tbl h) h.Y.X.a3).j≠1
variable{E:List Int}{h:ac}
def JP.of(g:bc h E)(i:JI h)(j:h.q=true):JP h:=by
 obtain⟨k,b⟩:=g.jobM j;have a:=(cW.1 (g.job j).1).1;unfold fk at a;simp only[I0,C0]at a;have c:=a.2.2.2.2.2;have l:=m8 g.ker k;have n:=m8 g.ker b;obtain⟨t,u,o⟩:=me k;obtain⟨w,y,q⟩:=me b;refine⟨k,b,l,n,λe=>c ?_,c,λr p=>?_⟩
 ·have d:(af (tbl h) h.Y.X.a3).e=(bF h.F h.Y.X.a3:Nat):=l
  have f:(af (tbl h) h.Y.X.a0).e=(bF h.F h.Y.X.a0:Nat):=n;rw[o]at d;rw[q]at f b;have:=i.sk j h.Y.X.a0.toNat b (by rw[d,f,e]);omega
 rw[o]at p;have:=(r.m1 _ p).2.1;omega
def hJ(h:ac)(k:ah)(j:cz):ac:={h with F:=k,q:=true,Y:=j}
def hE(h:ac)(k:ah):ac:={h with F:=k,q:=false,Y:=⟨⟨0,0,[]⟩,0,0⟩}
def Q1(a:h.q=true):mStep h=if over (eE h.F h.Y).2=true then hE h (eE h.F h.Y).1 else hJ h (eE h.F h.Y).1 (eE h.F h.Y).2:=by
 unfold mStep hE hJ;split
 ·rfl
 rw[a]
variable{h':ac}
def ye(g:bc h E)(l:h'.O=h.O)(n:∀p,(af (tbl h) p).j≠0->(af (tbl h') p).j≠0/\(af (tbl h') p).e=(af (tbl h) p).e)(q:∀o∈h.O,∀f c,sf h o f c->cl h'.F f c=cl h.F f c):Kp h h':=λo e=>by
 rw[l]at e;refine⟨e,λj i r=>?_⟩;have b:=(db g e (k:=j) ⟨i,ω⟩).1;have a:=At.mk' g.ker b;obtain⟨t,u⟩:=n _ b;have d:At h'.F (o.Addr+j) (df h.F (o.Addr+j)) ((o.Addr+j) % 16).toNat:=⟨t,u.trans a.f,a.c⟩
 rw[d.cell,a.cell];exact q o e _ _ ⟨j,i,r,a⟩
variable{c:Nat}{o:bu}
def AB(b:∀p,(af (tbl h) p).j≠0->(af (tbl h') p).j≠0/\(af (tbl h') p).e=(af (tbl h) p).e){f:Nat}(d:sf h o f c):sf h' o f c:=by
 obtain⟨j,e,g,a⟩:=d;obtain⟨i,k⟩:=b _ a.m;exact⟨j,e,g,i,k.trans a.f,a.c⟩
variable{p:Int}{k:ah}
def uH{m:Int}(b:(af k.G.Q p).j≠0)(q:Int):af (kb k p m).G.Q q=if q=p then {af k.G.Q p with j:=m} else af k.G.Q q:=by
 obtain⟨c,d,g⟩:=me b;have f:(kb k p m).G.Q.K.length=k.G.Q.K.length:=by unfold kb;simp
 unfold af;rw[f];by_cases e:0<=q/\q<k.G.Q.K.length
 ·rw[CE e,CE e]
  unfold kb;simp only[bB];by_cases a:q=p
  ·rw[CE a,CE ⟨ω,ω⟩,CE ⟨c,d⟩]
  rw[CC a,CC ω]
 rw[CC e,CC e,CC ω]
def KK{t:aM}{q:Nat}(h:(nth t.K q).j≠0):af t (q:Int)=nth t.K q:=by
 have:=rc h;unfold af;rw[CE ⟨ω,ω⟩];rfl
def CI.ended(l:bc h E)(n:CI h)(u:h.q=true)(r:h.Y.b=0)(g:∀f c,cl k f c=cl h.F f c)(i:∀p,(af (tbl h) p).j≠0->(af k.G.Q p).j≠0/\(af k.G.Q p).e=(af (tbl h) p).e)(h1:∀q:Nat,(nth k.G.Q.K q).j≠1):CI (hE h k)/\Kp h (hE h k):=by
 refine⟨⟨λf c a b=>?_,λe=>(by cases e),λe=>(by cases e),λe=>(by cases e),λe=>(by cases e),λq t=>absurd t (h1 q),λe=>(by cases e)⟩,ye l rfl i λo j f c _=>g f c⟩;change cl k f c≠0 at b;rw[g]at b;rcases n.z f c a b with⟨o,j,d⟩|⟨-,-,e⟩
 ·exact .inl ⟨o,j,AB i d⟩
 rw[r]at e;cases e
def MN{p:cn}(h:fk p=true){i:Nat} : ∀{j:Nat},i<j->j<p.T.length->nth p.T i<nth p.T j
 | 0,a,_=>absurd a (Nat.not_lt_zero i)
 | j+1,a,d=>by
  have b:=h;unfold fk at b;simp only[I0]at b;have c:=fG b.1 d;unfold nv at c;rw[C0]at c;have f:nth p.T j<nth p.T (j+1):=c.2.2.resolve_left ω;by_cases e:i=j
  ·rw[e];exact f
  have:=MN h (i:=i) (j:=j) ω ω;omega
def tE(k:ah)(a:Nat)(b v:Int)(f c:Nat):cl (setCell k a b v) f c=cl k f c\/(cl (setCell k a b v) f c=v/\f=a/\c=b.toNat):=by
 unfold cl setCell;simp only[bB];by_cases e:a=f/\f<k.G.W.T.length
 ·rw[CE e,bB]
  by_cases d:b.toNat=c/\c<(nth k.G.W.T a).length
  ·rw[CE d];exact .inr ⟨rfl,e.1.symm,d.1.symm⟩
  rw[CC d,e.1];exact .inl rfl
 rw[CC e];exact .inl rfl
variable{v:Int}
def rS(c:aD k=true){a:Int}(e:(af k.G.Q p).j≠0)(g:0<=a/\a<=15):cl (setCell k (bF k p) a v) (bF k p) a.toNat=v:=by
 have d:=(gM c e).1;have b:=(vH c (f:=bF k p) d).1;unfold cl setCell;show nth (nth (List.set _ _ _) _) _=v;rw[bB];rw[CE ⟨rfl,d⟩,bB,CE ⟨rfl,by rw[b];omega⟩]
def JD{b:Int}{j:cz}{f:Nat}(d:sf h o f c):sf (hJ h (setCell h.F (bF h.F p) b v) j) o f c:=by
 obtain⟨x,e,g,a⟩:=d;exact⟨x,e,g,⟨a.m,a.f,a.c⟩⟩
def LG{j:cz}(a:bc h [])(b:JI h)(q:CI h)(l:h.q=true)(r:JP h){d:Int}(n:d∈h.Y.X.T)(v:Int):Kp h (hJ h (setCell h.F (bF h.F h.Y.X.a3) d v) j):=by
 obtain⟨k,t,e⟩:=aR n;have u:=fU (cW.1 (a.job l).1).1 t;refine ye a rfl (λp w=>⟨w,rfl⟩) λo y f c i=>?_
 rcases tE h.F (bF h.F h.Y.X.a3) d v f c with g|⟨-,A,B⟩
 ·exact g
 exfalso;refine tP a b q l (kH a y i) ω ?_ (by rw[A];exact r.kf);rw[B,Int.toNat_of_nonneg ω];exact n
def CI.copied(r:bc h [])(t:JI h)(b:CI h)(k:h.q=true)(n:JP h)(N:h.Y.b0=1)(O:0<=h.Y.b/\h.Y.b<h.Y.X.T.length):CI (hJ h (pQ h.F h.Y.X.a0 h.Y.X.a3 (nth h.Y.X.T h.Y.b.toNat)) {h.Y with b:=h.Y.b+1})/\Kp h (hJ h (pQ h.F h.Y.X.a0 h.Y.X.a3 (nth h.Y.X.T h.Y.b.toNat)) {h.Y with b:=h.Y.b+1}):=by
 have d:h.Y.b.toNat<h.Y.X.T.length:=ω
 have l:=au d;have u:=fU (cW.1 (r.job k).1).1 d;have i:h.Y.X.T.take (h.Y.b+1).toNat=h.Y.X.T.take h.Y.b.toNat++[nth h.Y.X.T h.Y.b.toNat]:=by
  rw[show(h.Y.b+1).toNat=h.Y.b.toNat+1 by omega,X7,ar d];rfl
 unfold pQ;have w:=rS r.ker (p:=h.Y.X.a3) (v:=nth (nth h.F.G.W.T (bF h.F h.Y.X.a0)) (nth h.Y.X.T h.Y.b.toNat).toNat) n.km u;have j:=tE h.F (bF h.F h.Y.X.a3) (nth h.Y.X.T h.Y.b.toNat) (nth (nth h.F.G.W.T (bF h.F h.Y.X.a0)) (nth h.Y.X.T h.Y.b.toNat).toNat);refine⟨⟨λf c y H=>?_,λ_ c a=>?_,λ_=>b.jd k,λ_=>b.jc k,λ_=>⟨λe=>absurd e (by show ¬h.Y.b0=0;omega),λe=>absurd e (by show ¬h.Y.b0=2;omega)⟩,λq J=>?_,λ_ _=>b.m2 k ω⟩,LG r t b k n l _⟩
 ·rcases j f c with g|⟨-,A,B⟩
  ·have C:cl h.F f c≠0:=by rw[<-g];exact H
   rcases b.z f c y C with⟨o,K,L⟩|⟨M,D,E⟩
   ·exact .inl ⟨o,K,JD L⟩
   refine .inr ⟨rfl,D,?_⟩;show(c:Int)∈h.Y.X.T.take (h.Y.b+1).toNat;rw[i];exact t4.2 (.inl E)
  refine .inr ⟨rfl,?_,?_⟩
  ·show(af (tbl h) h.Y.X.a3).e=f;rw[A];exact n.kf
  show(c:Int)∈h.Y.X.T.take (h.Y.b+1).toNat;rw[i,B,Int.toNat_of_nonneg ω];exact t4.2 (.inr (C2.2 rfl))
 ·change (c:Int)∈h.Y.X.T.take (h.Y.b+1).toNat at a
  show cl (setCell h.F (bF h.F h.Y.X.a3) _ _) (bF h.F h.Y.X.a3) c=cl (setCell h.F (bF h.F h.Y.X.a3) _ _) (bF h.F h.Y.X.a0) c;have F:cl (setCell h.F (bF h.F h.Y.X.a3) (nth h.Y.X.T h.Y.b.toNat) (nth (nth h.F.G.W.T (bF h.F h.Y.X.a0)) (nth h.Y.X.T h.Y.b.toNat).toNat)) (bF h.F h.Y.X.a0) c=cl h.F (bF h.F h.Y.X.a0) c:=by
   rcases j (bF h.F h.Y.X.a0) c with g|⟨-,A,-⟩
   ·exact g
   exact absurd A.symm n.ne
  rw[F];by_cases G:(c:Int)=nth h.Y.X.T h.Y.b.toNat
  ·have:c=(nth h.Y.X.T h.Y.b.toNat).toNat:=ω
   rw[this,w];rfl
  rw[i]at a;rcases t4.1 a with a|a
  ·rcases j (bF h.F h.Y.X.a3) c with g|⟨-,-,B⟩
   ·rw[g];exact b.jv k c a
   exact absurd (by rw[B,Int.toNat_of_nonneg ω]) G
  exact absurd (C2.1 a) G
 obtain⟨M,D,E⟩:=b.m1 q J;exact⟨rfl,D,E⟩
def CI.undone(y:bc h [])(A:JI h)(b:CI h)(r:h.q=true)(l:JP h)(p3:h.Y.b0=3)(hp:0<h.Y.b):CI (hJ h {h.F with G:=(gg h.F.G (h.Y.X.a3*16+nth h.Y.X.T (h.Y.b - 1).toNat) 0).1} {h.Y with b:=h.Y.b - 1})/\Kp h (hJ h {h.F with G:=(gg h.F.G (h.Y.X.a3*16+nth h.Y.X.T (h.Y.b - 1).toNat) 0).1} {h.Y with b:=h.Y.b - 1}):=by
 obtain⟨t,-,-,n0,n1⟩:=cW.1 (y.job r).1;have a:(h.Y.b - 1).toNat<h.Y.X.T.length:=ω
 have u:=au a;have B:=fU t a;have O:=(me l.km).1;have P:(h.Y.X.a3*16+nth h.Y.X.T (h.Y.b - 1).toNat) / 16=h.Y.X.a3:=ω
 have Q:(h.Y.X.a3*16+nth h.Y.X.T (h.Y.b - 1).toNat) % 16=nth h.Y.X.T (h.Y.b - 1).toNat:=ω
 have C:(af h.F.G.Q h.Y.X.a3).j≠0:=l.km;have D:(af h.F.G.Q h.Y.X.a3).j≠1:=l.k2 b;have R:({h.F with G:=(gg h.F.G (h.Y.X.a3*16+nth h.Y.X.T (h.Y.b - 1).toNat) 0).1} : ah)=setCell h.F (bF h.F h.Y.X.a3) (nth h.Y.X.T (h.Y.b - 1).toNat) 0:=by
  unfold gg;rw[P,Q,CC C,CC D]
  rfl
 rw[R];have n:=tE h.F (bF h.F h.Y.X.a3) (nth h.Y.X.T (h.Y.b - 1).toNat) 0;have w:h.Y.X.T.take h.Y.b.toNat=h.Y.X.T.take (h.Y.b - 1).toNat++[nth h.Y.X.T (h.Y.b - 1).toNat]:=by
  rw[show h.Y.b.toNat=(h.Y.b - 1).toNat+1 by omega,X7,ar a];rfl
 have E:nth h.Y.X.T (h.Y.b - 1).toNat∉h.Y.X.T.take (h.Y.b - 1).toNat:=λF=>by
  obtain⟨k,S,T⟩:=aR F;rw[O2]at S;have G:nth (h.Y.X.T.take (h.Y.b - 1).toNat) k=nth h.Y.X.T k:=by
   refine bq ?_;rw[List.getElem?_take,CE ω];exact ar ω
  rw[G]at T;have:=MN t (i:=k) (j:=(h.Y.b - 1).toNat) ω a;omega
 refine⟨⟨λf c H J=>?_,λ_ c p=>?_,λ_=>b.jd r,λ_=>b.jc r,λ_=>⟨λe=>absurd e (by show ¬h.Y.b0=0;omega),λe=>absurd e (by show ¬h.Y.b0=2;omega)⟩,λq U=>?_,λ_ _=>b.m2 r ω⟩,LG y A b r l u _⟩
 ·rcases n f c with g|⟨V,-,-⟩
  ·have K:cl h.F f c≠0:=by rw[<-g];exact J
   rcases b.z f c H K with⟨o,W,X⟩|⟨Y,L,d⟩
   ·exact .inl ⟨o,W,JD X⟩
   rw[w]at d;rcases t4.1 d with d|d
   ·exact .inr ⟨rfl,L,d⟩
   exfalso;have ec:=C2.1 d;have M:f=bF h.F h.Y.X.a3:=by have:=l.kf;omega
   refine J ?_;show cl (setCell h.F (bF h.F h.Y.X.a3) _ 0) f c=0;rw[M,show c=(nth h.Y.X.T (h.Y.b - 1).toNat).toNat by omega];exact rS y.ker l.km B
  exact absurd V J
 ·change (c:Int)∈h.Y.X.T.take (h.Y.b - 1).toNat at p
  show cl (setCell h.F (bF h.F h.Y.X.a3) _ 0) (bF h.F h.Y.X.a3) c=cl (setCell h.F (bF h.F h.Y.X.a3) _ 0) (bF h.F h.Y.X.a0) c;have N:cl (setCell h.F (bF h.F h.Y.X.a3) (nth h.Y.X.T (h.Y.b - 1).toNat) 0) (bF h.F h.Y.X.a0) c=cl h.F (bF h.F h.Y.X.a0) c:=by
   rcases n (bF h.F h.Y.X.a0) c with g|⟨-,Z,-⟩
   ·exact g
   exact absurd Z.symm l.ne
  rw[N];rcases n (bF h.F h.Y.X.a3) c with g|⟨-,-,g2⟩
  ·rw[g]
   exact b.jv r c (by rw[w];exact t4.2 (.inl p))
  exact absurd (by rw[show nth h.Y.X.T (h.Y.b - 1).toNat=(c:Int) by omega];exact p) E
 obtain⟨Y,L,d⟩:=b.m1 q U;exact⟨rfl,L,d⟩
def CI.meshed(F:bc h [])(D:JI h)(G:CI h)(H:h.q=true)(d:JP h)(hn:h.Y.b=h.Y.X.T.length)(L:h.F.Calls≠100000)(R:(sJ h.F h.Y.X.a0 h.Y.X.a3).2=true):CI (hE h (sJ h.F h.Y.X.a0 h.Y.X.a3).1)/\Kp h (hE h (sJ h.F h.Y.X.a0 h.Y.X.a3).1):=by
 have A:=ER F.ker (p:=h.Y.X.a0) (o:=h.Y.X.a3) d.mm R;obtain⟨m1,m2,m3⟩:=me d.mm;obtain⟨k1,k2,k3⟩:=me d.km;have M:=(A 0).1;generalize N:(sJ h.F h.Y.X.a0 h.Y.X.a3).1=K at *;have J:∀q:Int,af K.G.Q q=if q=h.Y.X.a0 then⟨2,(af (tbl h) h.Y.X.a3).e⟩ else af (tbl h) q:=λq=>by
  unfold af;rw[M];by_cases e:0<=q/\q<h.F.G.Q.K.length
  ·rw[CE e,(A q.toNat).2]
   by_cases B:q=h.Y.X.a0
   ·rw[CE B,CE ω,CE ⟨k1,k2⟩];rfl
   rw[CC B,CC ω,CE (show 0<=q/\q<(tbl h).K.length from e)];rfl
  rw[CC e,CC (show ¬q=h.Y.X.a0 by unfold tbl at m2;omega),CC (show ¬(0<=q/\q<(tbl h).K.length) from e)]
 have l:∀f c,cl K f c=cl h.F f c\/(cl K f c=0/\f=bF h.F h.Y.X.a0):=λf c=>by
  unfold sJ at N R;by_cases e:refd h.F=true
  ·rw[CE e]at R;cases R
  rw[CC e]at N;simp only at N;rw[<-N];rcases Mp (vG (cu h.F) h.Y.X.a0.toNat ⟨2,(nth (cu h.F).G.Q.K h.Y.X.a3.toNat).e⟩) (nth (cu h.F).G.Q.K h.Y.X.a0.toNat).e f c with g|⟨S,T,-⟩
  ·exact .inl g
  refine .inr ⟨S,?_⟩;rw[<-T];have h3:nth (cu h.F).G.Q.K h.Y.X.a0.toNat=af h.F.G.Q h.Y.X.a0:=m3.symm;rw[h3];rfl
 have n:h.Y.X.T.take h.Y.b.toNat=h.Y.X.T:=O9 ω;have O:∀p:Int,(af (tbl h) p).j≠0->(af (tbl h) p).e=(bF h.F h.Y.X.a0:Nat)->p=h.Y.X.a0:=λp j C=>by
  obtain⟨p1,p2,p3⟩:=me j;have P:=d.mf;rw[p3]at j C;rw[m3]at P;have:=D.sm H p.toNat j (by rw[C,P]);omega
 have U:∀c,cl K (bF h.F h.Y.X.a3) c=cl h.F (bF h.F h.Y.X.a3) c:=λc=>by
  rcases l (bF h.F h.Y.X.a3) c with g|⟨-,g⟩
  ·exact g
  exact absurd g d.ne
 have place:∀o∈h.O,∀x:Int,0<=x->x<o.y->∀f c:Nat,At h.F (o.Addr+x) f c->(f≠bF h.F h.Y.X.a0->At K (o.Addr+x) f c)/\(f=bF h.F h.Y.X.a0->At K (o.Addr+x) (bF h.F h.Y.X.a3) c/\(c:Int)∈h.Y.X.T):=λo r x u w f c a=>by
  constructor
  ·intro hne
   have j:(o.Addr+x) / 16≠h.Y.X.a0:=λe=>by
    have:=a.f;rw[e]at this;have h3:(af h.F.G.Q h.Y.X.a0).e=_:=d.mf;omega
   exact⟨by rw[J,CC j];exact a.m,by rw[J,CC j];exact a.f,a.c⟩
  intro he;have j:=O _ a.m (by rw[<-he];exact a.f);refine⟨⟨by rw[J,CE j];show(2:Int)≠0;decide,by rw[J,CE j];exact d.kf,a.c⟩,?_⟩;obtain⟨-,-,b,hb,-,V,-⟩:=D.sp H;have y:c<16:=by have:=a.c;omega
  obtain⟨e1,B,-⟩:=yP F (kH F r ⟨x,u,w,a⟩) hb (by rw[V];exact D.sm H) (by rw[V,he];exact d.mf);refine G.jc H b hb V c y ?_;rw[B];exact e1.2.2.2
 refine⟨⟨λf c y E=>?_,λe=>(by cases e),λe=>(by cases e),λe=>(by cases e),λe=>(by cases e),λq hq=>?_,λe=>(by cases e)⟩,λo r=>⟨r,λx u w=>?_⟩⟩
 ·change cl K f c≠0 at E
  rcases l f c with g|⟨g,-⟩
  rotate_left
  ·exact absurd g E
  rw[g]at E;have W:f≠bF h.F h.Y.X.a0:=λe=>by
   refine E ?_;rw[<-g,e];have X:aD K=true:=by
    rw[<-N];exact RI F.ker L d.mm d.km (Ne.symm d.pe)
   refine qD X (λp j C=>?_) c;rw[J]at j C;by_cases B:p=h.Y.X.a0
   ·rw[CE B]at C
    have h1:(af (tbl h) h.Y.X.a3).e=(bF h.F h.Y.X.a0:Nat):=C;have h2:=d.kf;exact d.ne ω
   rw[CC B]at j C;exact B (O p j C)
  rcases G.z f c y E with⟨o,r,x,u,w,a⟩|⟨-,q2,q3⟩
  ·exact .inl ⟨o,r,x,u,w,(place o r x u w f c a).1 W⟩
  rw[n]at q3;have Q:f=bF h.F h.Y.X.a3:=by have:=d.kf;omega
  rw[Q,G.jv H c (by rw[n];exact q3)]at E;rcases G.z _ c y E with⟨o,r,x,u,w,a⟩|⟨-,r2,-⟩
  ·exact .inl ⟨o,r,x,u,w,by rw[Q];exact((place o r x u w _ c a).2 rfl).1⟩
  exact absurd (by have:=d.kf;omega) d.ne
 ·have i:(nth K.G.Q.K q).j=1:=hq
  have:=KK (t:=K.G.Q) (q:=q) (by rw[i];decide);rw[J]at this;by_cases e:(q:Int)=h.Y.X.a0
  ·rw[CE e]at this
   rw[<-this]at i;exact absurd i (by show ¬(2:Int)=1;decide)
  rw[CC e]at this;rw[<-this]at i;obtain⟨a1,a2,a3⟩:=me (t:=tbl h) (p:=(q:Int)) (by rw[i];decide);rw[a3]at i;exact absurd (by have:=(G.m1 _ i).2.1;omega) e
 have Y:=(db F r (k:=x) ⟨u,ω⟩).1;have a:=At.mk' F.ker Y;obtain⟨S,T⟩:=place o r x u w _ _ a;show fQ K (o.Addr+x)=fQ h.F (o.Addr+x);by_cases e:df h.F (o.Addr+x)=bF h.F h.Y.X.a0
 ·obtain⟨Z,g4⟩:=T e
  rw[Z.cell,a.cell,U,e];exact G.jv H _ (by rw[n];exact g4)
 have Z:=S e;rw[Z.cell,a.cell];rcases l (df h.F (o.Addr+x)) ((o.Addr+x) % 16).toNat with g|⟨-,g⟩
 ·exact g
 exact absurd g e
def CI.mStep{h:ac}(w:bc h [])(l:JI h)(a:CI h)(d:h.q=true):CI (mStep h)/\Kp h (mStep h):=by
 have C:=JP.of w l d;have Z:=l.ph d;obtain⟨jn0,jn2⟩:=a.jn d;obtain⟨-,-,-,n0,n1⟩:=cW.1 (w.job d).1;rw[Q1 d];have stay:∀(k:ah)(j:cz),k.G=h.F.G->j.X=h.Y.X->j.b=h.Y.b->(j.b0=0↔h.Y.b0=0)->(j.b0=2->j.b=j.X.T.length)->CI (hJ h k j)/\Kp h (hJ h k j):=λk j M u N O e5=>by
  have J:tbl (hJ h k j)=tbl h:=by unfold tbl hJ;rw[M]
  have L:∀f c,cl k f c=cl h.F f c:=λf c=>by unfold cl;rw[M]
  have D:∀o f c,sf h o f c->sf (hJ h k j) o f c:=λo f c=>AB (λp E=>by rw[J];exact⟨E,rfl⟩)
  refine⟨⟨λf c F K=>?_,λ_ c g=>?_,λ_=>?_,λ_=>?_,λ_=>⟨λe=>?_,e5⟩,λq i=>?_,λ_ e=>?_⟩,ye w rfl (λp E=>by rw[J];exact⟨E,rfl⟩) λo _ f c _=>L f c⟩
  ·change cl k f c≠0 at K
   rw[L]at K;rcases a.z f c F K with⟨o,P,Q⟩|⟨q1,R,G⟩
   ·exact .inl ⟨o,P,D o f c Q⟩
   refine .inr ⟨rfl,?_,?_⟩
   ·rw[J];show(af (tbl h) j.X.a3).e=f;rw[u];exact R
   show(c:Int)∈j.X.T.take j.b.toNat;rw[u,N];exact G
  ·change (c:Int)∈j.X.T.take j.b.toNat at g
   show cl k (bF k j.X.a3) c=cl k (bF k j.X.a0) c;rw[u,N]at g;rw[u,L,L];unfold bF;rw[M];exact a.jv d c g
  ·show ∀s∈h.J,s.R=j.X.a3->_
   rw[show(hJ h k j).Y.X=h.Y.X from u,u];exact a.jd d
  ·show ∀s∈h.J,s.R=j.X.a0->_
   rw[show(hJ h k j).Y.X=h.Y.X from u,u];exact a.jc d
  ·exact(show j.b=h.Y.b from N).trans (jn0 (O.1 e))
  ·rw[J]at i
   obtain⟨q1,R,G⟩:=a.m1 q i;exact⟨rfl,by show(q:Int)=j.X.a0;rw[u];exact R,λe=>G (O.1 e)⟩
  rw[J];show(af (tbl h) j.X.a0).j=1;rw[u];exact a.m2 d λx=>e (O.2 x)
 have prot:∀H:Int,H=1\/H=2->∀p,(af (tbl h) p).j≠0->(af (kb (cu h.F) h.Y.X.a0 H).G.Q p).j≠0/\(af (kb (cu h.F) h.Y.X.a0 H).G.Q p).e=(af (tbl h) p).e:=λH hmo p E=>by
  rw[uH (k:=cu h.F) C.mm];by_cases e:p=h.Y.X.a0
  ·rw[CE e,e]
   exact⟨by show H≠0;omega,rfl⟩
  rw[CC e];exact⟨E,rfl⟩
 unfold eE;by_cases b:jmay h.F h.Y=true;rotate_left
 ·rw[CC b]
  rw[CC (by rw[show over (h.F,h.Y).2=over h.Y from rfl,show over h.Y=false from X0 ω];decide)];exact stay h.F h.Y rfl rfl rfl Iff.rfl jn2
 rw[CE b];unfold jstep;by_cases A:h.Y.b0=0
 ·rw[CE A]
  have n:=jn0 A;simp only;unfold fI;by_cases B:refd h.F=true
  ·rw[CE B]
   simp only[Bool.false_eq_true,if_false];rw[CE (show over {h.Y with b0:=5} = true from O0 (.inr rfl))];refine CI.ended w a d n (λ_ _=>rfl) (λp E=>⟨E,rfl⟩) λq i=>(a.m1 q i).2.2 A
  rw[CC B];simp only[if_true];rw[CC (by rw[show over {h.Y with b0:=1} = false from X0 (by show ¬((1:Int)=4\/(1:Int)=5);decide)];decide)];have D:∀o f c,sf h o f c->sf (hJ h (kb (cu h.F) h.Y.X.a0 1) {h.Y with b0:=1}) o f c:=λo f c=>AB (prot 1 (.inl rfl))
  refine⟨⟨λf c F K=>?_,λ_ c g=>?_,λ_=>a.jd d,λ_=>a.jc d,λ_=>⟨λe=>absurd e (by show ¬(1:Int)=0;decide),λe=>absurd e (by show ¬(1:Int)=2;decide)⟩,λq i=>?_,λ_ _=>?_⟩,ye w rfl (prot 1 (.inl rfl)) λ_ _ _ _ _=>rfl⟩
  ·rcases a.z f c F K with⟨o,P,Q⟩|⟨-,-,G⟩
   ·exact .inl ⟨o,P,D o f c Q⟩
   rw[n]at G;cases G
  ·change (c:Int)∈h.Y.X.T.take h.Y.b.toNat at g
   rw[n]at g;cases g
  ·refine⟨rfl,?_,by show ¬(1:Int)=0;decide⟩
   show(q:Int)=h.Y.X.a0;refine Classical.byContradiction λS=>?_
   have y:(nth (kb (cu h.F) h.Y.X.a0 1).G.Q.K q).j=1:=i;have:=KK (t:=(kb (cu h.F) h.Y.X.a0 1).G.Q) (q:=q) (by rw[y];decide);rw[uH (k:=cu h.F) C.mm,CC S]at this;rw[<-this]at y;obtain⟨a1,a2,T⟩:=me (t:=tbl h) (p:=(q:Int)) (by show(af h.F.G.Q q).j≠0;have:(af h.F.G.Q q).j=1:=y;rw[this];decide);have r:(af (tbl h) q).j=1:=y;rw[T]at r;exact(a.m1 _ r).2.2 A
  show(af (kb (cu h.F) h.Y.X.a0 1).G.Q h.Y.X.a0).j=1;rw[uH (k:=cu h.F) C.mm,CE rfl]
 rw[CC A];by_cases U:h.Y.b0=1
 ·rw[CE U]
  by_cases V:h.Y.b=h.Y.X.T.length
  ·rw[CE V]
   simp only;rw[CC (by rw[show over {h.Y with b0:=2} = false from X0 (by show ¬((2:Int)=4\/(2:Int)=5);decide)];decide)];exact stay h.F {h.Y with b0:=2} rfl rfl rfl ⟨λe=>absurd e (by show ¬(2:Int)=0;decide),λe=>absurd e A⟩ λ_=>V
  rw[CC V];simp only;rw[CC (by rw[show over {h.Y with b:=h.Y.b+1} = false from X0 (by show ¬(h.Y.b0=4\/h.Y.b0=5);omega)];decide)];exact CI.copied w l a d C U ω
 rw[CC U];by_cases W:h.Y.b0=2
 ·rw[CE W]
  simp only;cases B:(sJ h.F h.Y.X.a0 h.Y.X.a3).2 with
  | false=>
   simp only[Bool.false_eq_true,if_false];rw[CC (by rw[show over {h.Y with b0:=3} = false from X0 (by show ¬((3:Int)=4\/(3:Int)=5);decide)];decide)];rw[KM B];exact stay (cu h.F) {h.Y with b0:=3} rfl rfl rfl ⟨λe=>absurd e (by show ¬(3:Int)=0;decide),λe=>absurd e A⟩ λe=>absurd e (by show ¬(3:Int)=2;decide)
  | true=>
   rw[CE rfl];rw[CE (show over {h.Y with b0:=4} = true from O0 (.inl rfl))];exact CI.meshed w l a d C (jn2 W) (by unfold jmay at b;simp only[I0,C0]at b;exact b.1.2) B
 rw[CC W];have Y:h.Y.b0=3:=ω
 rw[CE Y];by_cases X:0<h.Y.b
 ·rw[CE X]
  simp only;rw[CC (by rw[show over {h.Y with b:=h.Y.b - 1} = false from X0 (by show ¬(h.Y.b0=4\/h.Y.b0=5);omega)];decide)];exact CI.undone w l a d C Y X
 rw[CC X];have n:h.Y.b=0:=ω
 simp only;unfold fI;by_cases B:refd h.F=true
 ·rw[CE B]
  simp only[Bool.false_eq_true,if_false];rw[CC (by rw[show over {h.Y with b0:=3} = false from X0 (by show ¬((3:Int)=4\/(3:Int)=5);decide)];decide)];exact stay (cu h.F) {h.Y with b0:=3} rfl rfl rfl ⟨λe=>absurd e (by show ¬(3:Int)=0;decide),λe=>absurd e A⟩ λe=>absurd e (by show ¬(3:Int)=2;decide)
 rw[CC B];simp only[if_true];rw[CE (show over {h.Y with b0:=5} = true from O0 (.inr rfl))];refine CI.ended w a d n (λ_ _=>rfl) (prot 2 (.inr rfl)) λq i=>?_
 have:=KK (t:=(kb (cu h.F) h.Y.X.a0 2).G.Q) (q:=q) (by rw[i];decide);rw[uH (k:=cu h.F) C.mm]at this;by_cases e:(q:Int)=h.Y.X.a0
 ·rw[CE e]at this
  rw[<-this]at i;exact absurd i (by show ¬(2:Int)=1;decide)
 rw[CC e]at this;rw[<-this]at i;obtain⟨a1,a2,T⟩:=me (t:=tbl h) (p:=(q:Int)) (by have:(af (tbl h) q).j=1:=i;rw[this];decide);have r:(af (tbl h) q).j=1:=i;rw[T]at r;exact e (by have:=(a.m1 _ r).2.1;omega)
variable{n:Nat}
def Ea{s:aA} : (c:Int)∈uG s n↔c<n/\t7 s c=true:=by
 unfold uG;simp only[O5,X5,List.mem_range];constructor
 ·rintro⟨a,⟨b,d⟩,e⟩
  have:a=c:=ω
  subst this;exact⟨b,d⟩
 rintro⟨b,d⟩;exact⟨c,⟨b,d⟩,rfl⟩
def Ux{a b:aA}(c:meshable a b=true){i:Int}(h:bf a.a9 i=true):bf b.a9 i=false:=by
 unfold meshable at c;simp only[I0,C0]at c;obtain⟨-,-,-,d⟩:=c;rw[<-S7];intro e;have f:=(fw _ _).1 h;have g:=(fw _ _).1 e;have:=C1 (λn=>Nat.testBit n i.toNat) d;simp only[Nat.testBit_and,Nat.zero_testBit]at this;rw[f.2.2.2,g.2.2.2]at this;cases this
def MY(a:bc h E){s u:aA}(b:s∈h.J)(c:u∈h.J)(e:s.R=u.R):s=u:=by
 obtain⟨i,d,rfl⟩:=aR b;obtain⟨j,g,rfl⟩:=aR c;rw[cX (f:=(·.R)) a.L.nd d g e]
def CI.begun(B:bc h E)(C:CI h)(D:h.q=false){a b:aA}(F:a∈h.J)(G:b∈h.J)(l:meshable a b=true)(sd:Int):CI {h with b3:=sd,q:=true,Y:=ur (dl a b)}:=by
 have n:∃x∈h.J,∃y∈h.J,(dl a b).a3=x.R/\(dl a b).a0=y.R/\(dl a b).T=uG y 16/\meshable x y=true:=by
  unfold dl;split
  ·exact⟨b,G,a,F,rfl,rfl,rfl,by rw[iH];exact l⟩
  exact⟨a,F,b,G,rfl,rfl,rfl,l⟩
 obtain⟨x,M,y,N,H,J,r,d⟩:=n;generalize dl a b=p at H J r;have ecl:x.d=y.d:=by
  unfold meshable at d;simp only[I0,C0]at d;exact d.2.1
 refine⟨λf c g O=>?_,λ_ c j=>absurd j (by show ¬(c:Int)∈p.T.take (0:Int).toNat;simp),λ_ s t n c g j=>?_,λ_ s t n c g u=>?_,λ_=>⟨λ_=>rfl,λe=>absurd e (by show ¬(0:Int)=2;decide)⟩,λq P=>?_,λ_ e=>absurd rfl e⟩
 ·rcases C.z f c g O with⟨o,Q,w⟩|⟨K,-⟩
  ·exact .inl ⟨o,Q,w⟩
  rw[D]at K;cases K
 ·have k:=MY B t M (n.trans H)
  subst k;have i:(c:Int)∈p.T:=j;rw[r]at i;have A:=(Ea.1 i).2;unfold t7 at A;rw[<-ecl]at A;rw[iH]at d;exact Ux d A
 ·have k:=MY B t N (n.trans J)
  subst k;show(c:Int)∈p.T;rw[r];exact Ea.2 ⟨g,u⟩
 have L:=(C.m1 q P).1;rw[D]at L;cases L
def CI.started{h:ac}(f:bc h [])(a:CI h)(j:h.q=false):CI (started h).1/\Kp h (started h).1:=by
 have g:=f.nums;unfold cx at g;rw[C0]at g;have d:=my (bp h) (show 0<=h.b3/\h.b3<=1073741823 by omega);cases e:jF (bp h) h.b3 with
 | nil=>
  have c:Ab.started h=({h with b3:=(shuf (bp h).length h.b3).2},false):=by unfold Ab.started;rw[e]
  rw[c];exact⟨⟨a.z,a.jv,a.jd,a.jc,a.jn,a.m1,a.m2⟩,Ca h⟩
 | cons q n=>
  obtain⟨o,p,k⟩:=d q (by rw[e];exact X2 ..);have c:Ab.started h=({h with b3:=(shuf (bp h).length h.b3).2,q:=true,Y:=ur (dl (nth (bp h) q.A.toNat) (nth (bp h) q.B.toNat))},true):=by unfold Ab.started;rw[e]
  rw[c];have b:∀s∈bp h,s∈h.J:=λs l=>ot h (v4 _) s (List.mem_of_mem_take l)
  exact⟨CI.begun f a j (b _ (au (xs:=bp h) (i:=q.A.toNat) ω)) (b _ (au (xs:=bp h) (i:=q.B.toNat) ω)) k _,Ca h⟩
def UP(k:ah)(a:Int)(f c:Nat):∀m,cl (zK k a m) f c=cl k f c\/(cl (zK k a m) f c=0/\∃j:Nat,j<m/\f=df k (a+j)/\c=((a+j) % 16).toNat)
 | 0=>.inl rfl
 | m+1=>by
  have e:df (zK k a m) (a+m)=df k (a+m):=by unfold df;rw[(oQ k a m).1]
  rcases tp (zK k a m) (a+m) 0 f c with g|⟨b,h,d⟩
  ·rcases UP k a f c m with i|⟨b,j,h,d⟩
   ·exact .inl (g.trans i)
   exact .inr ⟨g.trans b,j,ω,d⟩
  exact .inr ⟨b,m,ω,by rw[<-e];exact h,d⟩
def Hr{k:ah}(h:aD k=true){a:Int} : ∀{m:Nat},(∀j:Nat,j<m->(af k.G.Q ((a+j) / 16)).j≠0)->∀j:Nat,j<m->cl (zK k a m) (df k (a+j)) ((a+j) % 16).toNat=0
 | 0,_,_,c=>absurd c (Nat.not_lt_zero _)
 | m+1,d,j,c=>by
  have f:=Rt h (a:=a) (m:=m) λj c=>d j ω
  have i:=(oQ k a m).1;have e:∀b,df (zK k a m) b=df k b:=λb=>by unfold df;rw[i]
  rcases tp (zK k a m) (a+m) 0 (df k (a+j)) ((a+j) % 16).toNat with g|⟨l,-⟩
  ·by_cases n:j=m
   ·subst n
    have:=D9 f (a:=a+j) (v:=0) (by rw[i];exact d j ω);rw[e]at this;exact this
   exact g.trans (Hr h (λj c=>d j ω) j ω)
  exact l
def DN(a:bc h E)(e:o∈h.O){k:Nat}(b:k<h.M.length)(n:o.Addr=16*(nth h.M k).R):o.y=(nth h.M k).y:=by
 have f:=aW (a.L.lok _ (au b));rcases a.oow _ e with⟨s,g,c,-⟩|⟨l,d,p,i⟩
 ·exact absurd (show s.R=(nth h.M k).R+((0:Nat):Int) by have:=c.1;have:=c.2.1;omega) (a.L.dis s g _ (au b) 0 ω)
 obtain⟨m,j,rfl⟩:=aR d;have:=a.L.one m k j b 0 0 (by have:=aW (a.L.lok _ d);omega) ω ω;subst this;exact i.symm
variable{i:Nat}{α:Type}
def vg[Inhabited α]{xs:List α}{y z:α}(c:i<xs.length):z∈xs.set i y↔z=y\/∃j,j<xs.length/\j≠i/\nth xs j=z:=by
 refine⟨eL,?_⟩
 rintro(rfl|⟨j,d,b,rfl⟩)
 ·have a:=au (xs:=xs.set i z) (i:=i) (by rw[I2];exact c)
  rw[bB,CE ⟨rfl,c⟩]at a;exact a
 have a:=au (xs:=xs.set i y) (i:=j) (by rw[I2];exact d);rw[bB,CC (λx=>b x.1.symm)]at a;exact a
def CI.trimH{h:ac}{i k:Nat}{size:Int}(l:bc h [])(hc:CI h)(V:i<h.O.length)(r:k<h.M.length)(W:(nth h.O i).Addr=16*(nth h.M k).R)(hz:9<=size/\size<=(nth h.M k).y):CI (trimH h i k size)/\∀o∈h.O,∀j:Int,0<=j->j<o.y->(o=nth h.O i->j<size)->fQ (trimH h i k size).F (o.Addr+j)=fQ h.F (o.Addr+j):=by
 obtain⟨b1,b2⟩:=vM l r;have M:=l.L.lok _ (au r);have hlp:=aW M;have hsz:=DN l (au V) r W;have h8:=M;unfold bR at h8;rw[C0]at h8;have N:aD (lE h k size)=true:=z7 l r hz (v4 _);have D:(lE h k size).G.Q=h.F.G.Q:=(oQ h.F _ _).1;have hN:((dP (nth h.M k) size:Nat):Int)=(nth h.M k).a4 - (size+15) / 16:=by unfold dP;omega
 have hte:((tbl h).K.length:Int)=(h.F.G.Q.K.length:Int):=rfl;have kl:=KL.unmN N (p:=(nth h.M k).R+(size+15) / 16) ω (dP (nth h.M k) size) (by rw[D];omega);have ker:=io N ((nth h.M k).R+(size+15) / 16) (dP (nth h.M k) size);have A:=(eZ (lE h k size) ((nth h.M k).R+(size+15) / 16) (dP (nth h.M k) size)).1;have hcz:=UP h.F (16*(nth h.M k).R+size);have hca:=Hr l.ker (a:=16*(nth h.M k).R+size) (m:=(16*((size+15) / 16) - size).toNat) λj O=>kO l r ⟨ω,ω⟩
 have E:(Ab.trimH h i k size).F=unmN (lE h k size) ((nth h.M k).R+(size+15) / 16) (dP (nth h.M k) size):=rfl;have F:(Ab.trimH h i k size).O=h.O.set i {nth h.O i with y:=size}:=rfl;have P:(Ab.trimH h i k size).J=h.J:=rfl;have Q:(Ab.trimH h i k size).Y=h.Y:=rfl;have R:(Ab.trimH h i k size).q=h.q:=rfl;generalize Ab.trimH h i k size=h' at E F P Q R |-;have G:∀f c,cl (lE h k size) f c=cl h.F f c\/(cl (lE h k size) f c=0/\∃b:Int,16*(nth h.M k).R+size<=b/\b<16*((nth h.M k).R+(size+15) / 16)/\At h.F b f c):=λf c=>by
  rcases hcz f c (16*((size+15) / 16) - size).toNat with g|⟨g,j,w,B,j3⟩
  ·exact .inl g
  refine .inr ⟨g,16*(nth h.M k).R+size+j,ω,ω,?_⟩;have:=At.mk' l.ker (kO l r (a:=16*(nth h.M k).R+size+j) ⟨ω,ω⟩);rw[B,j3];exact this
 have hzv:∀(f c:Nat)(b:Int),16*(nth h.M k).R+size<=b->b<16*((nth h.M k).R+(size+15) / 16)->At h.F b f c->cl (lE h k size) f c=0:=λf c b H X d=>by
  have:=hca (b - (16*(nth h.M k).R+size)).toNat ω;rw[show 16*(nth h.M k).R+size+((b - (16*(nth h.M k).R+size)).toNat:Nat)=b by omega]at this;have e:=At.mk' l.ker d.m;obtain⟨u1,u2⟩:=e.uniq d;rw[u1,u2]at this;exact this
 have pout:∀q:Int,¬((nth h.M k).R+(size+15) / 16<=q/\q<(nth h.M k).R+(nth h.M k).a4)->af h'.F.G.Q q=af h.F.G.Q q:=λq Y=>by
  rw[E,kl.out q ω,D]
 rw[<-E]at kl ker A;generalize lE h k size=kz at *;have onL:∀b:Int,16*(nth h.M k).R<=b->b<16*((nth h.M k).R+(nth h.M k).a4)->∀f c:Nat,At h.F b f c->PS h (nth h.O i).Addr f c:=λb H X f c d=>.inr ⟨_,au r,W,b,H,X,d⟩
 have only:∀o∈h.O,∀f c:Nat,sf h o f c->PS h (nth h.O i).Addr f c->o=nth h.O i:=λo t f c H X=>by
  have e:=xQ l (kH l t H) X;obtain⟨m,lm,rfl⟩:=aR t;rw[cX (f:=(·.Addr)) (dw l.osr) lm V e]
 have noS:∀s∈h.J,¬((nth h.M k).R<=s.R/\s.R<(nth h.M k).R+(nth h.M k).a4):=λs J hr=>l.L.dis s J _ (au r) (s.R - (nth h.M k).R).toNat ω ω
 have same:∀f c:Nat,cl h'.F f c≠0->cl h.F f c=cl h'.F f c:=λf c C=>by
  rcases kl.cel f c with e|e
  ·rcases G f c with g|⟨g,-⟩
   ·rw[e,g]
   exact absurd (e.trans g) C
  exact absurd e.1 C
 have stay:∀o∈h.O,∀j:Int,0<=j->j<o.y->(o=nth h.O i->j<size)->∀f c:Nat,At h.F (o.Addr+j) f c->At h'.F (o.Addr+j) f c/\cl h'.F f c=cl h.F f c:=λo t j w B O f c d=>by
  have y:sf h o f c:=⟨j,w,B,d⟩
  have n:af h'.F.G.Q ((o.Addr+j) / 16)=af h.F.G.Q ((o.Addr+j) / 16):=by
   refine pout _ λZ=>?_
   have e:=only o t f c y (onL _ ω ω f c d);have:=O e;rw[e,W]at Z;omega
  have u:At h'.F (o.Addr+j) f c:=⟨by rw[n];exact d.m,by rw[n];exact d.f,d.c⟩
  refine⟨u,?_⟩;rcases kl.cel f c with e|⟨-,e⟩
  ·rcases G f c with g|⟨-,b,g1,g2,S⟩
   ·rw[e,g]
   exfalso;have eo:=only o t f c y (onL b ω ω f c S);have hjs:=O eo;have Y:=mY l (au r) (b:=b) ω ω S d.m d.f;have c1:=d.c;have c2:=S.c;rw[eo,W]at Y c1;omega
  exact absurd u.f (e _ u.m)
 refine⟨hc.keep Q R (λq Y=>?_) (λhm=>?_) (λf c _ C=>.inl (same f c C)) (λo t f c h16 y C=>?_) (λhm c _=>?_) (λ_ s' hs' _=>⟨s',by rw[<-P];exact hs',rfl,rfl,λ_ h=>h⟩),λo t j w B O=>?_⟩
 ·have hq':(nth h'.F.G.Q.K q).j=1:=Y
  have:=kl.md A q ω;rw[D]at this;show(nth h.F.G.Q.K q).j=1;rw[<-this];exact hq'
 ·obtain⟨-,⟨a,ha,T⟩,b,hb,eb⟩:=l.job hm
  exact⟨pout _ λZ=>noS a ha ω,pout _ λZ=>noS b hb ω⟩
 ·obtain⟨j,w,B,d⟩:=y
  by_cases e:o=nth h.O i/\size<=j
  ·exfalso
   obtain⟨e,ej⟩:=e;subst e;by_cases ej2:j<16*((size+15) / 16)
   ·have:=hzv f c ((nth h.O i).Addr+j) ω ω d
    rcases kl.cel f c with g|g
    ·exact C (g.trans this)
    exact C g.1
   refine C (qD ker (λp K hf=>?_) c);by_cases er:(nth h.M k).R+(size+15) / 16<=p/\p<(nth h.M k).R+(nth h.M k).a4
   ·exact K (kl.ins p er.1 ω)
   rw[pout p er]at K hf;have:=mY l (au r) (b:=(nth h.O i).Addr+j) ω ω d K hf;omega
  have st:=stay o t j w B (λU=>by have:¬size<=j:=λx=>e ⟨U,x⟩;omega) f c d;by_cases U:o=nth h.O i
  ·refine⟨{nth h.O i with y:=size},by rw[F];exact(vg V).2 (.inl rfl),j,w,?_,?_⟩
   ·have:¬size<=j:=λx=>e ⟨U,x⟩
    show j<size;omega
   have H:=st.1;rw[U]at H;exact H
  refine⟨o,?_,j,w,B,st.1⟩;rw[F];obtain⟨m,lm,rfl⟩:=aR t;exact(vg V).2 (.inr ⟨m,lm,λx=>U (by rw[x]),rfl⟩)
 ·have key:∀s∈h.J,cl h'.F (bF h.F s.R) c=cl h.F (bF h.F s.R) c:=λs J=>by
   have n:(af (tbl h) s.R).j≠0:=by rw[l.pe J];exact(l.mapped J).2.2
   rcases kl.cel (bF h.F s.R) c with e|⟨-,e⟩
   ·rcases G (bF h.F s.R) c with g|⟨-,b,g1,g2,S⟩
    ·rw[e,g]
    have:=mY l (au r) (b:=b) ω ω S (q:=s.R) n (m8 l.ker n);exact absurd (show(nth h.M k).R<=s.R/\s.R<(nth h.M k).R+(nth h.M k).a4 by omega) (noS s J)
   have K:=pout s.R λZ=>noS s J ω
   refine absurd ?_ (e s.R (by rw[K];exact n));rw[K];exact m8 l.ker n
  obtain⟨-,⟨a,ha,T⟩,b,hb,eb⟩:=l.job hm;rw[<-T,<-eb];exact⟨key a ha,key b hb⟩
 have d:=At.mk' l.ker (db l t (k:=j) ⟨w,ω⟩).1;obtain⟨s1,s2⟩:=stay o t j w B O _ _ d;rw[s1.cell,d.cell,s2]
def GB[Inhabited α](n j:Nat)(y:α):nth (List.replicate n y) j=y\/nth (List.replicate n y) j=default:=by
 by_cases h:j<n
 ·exact .inl (dN h)
 right
 unfold nth;rw[X3,O3 (by rw[Y4];omega)];rfl
def CI.newHeap(p f t:Nat)(lim:Int)(a:List Int):CI (newHeap p f t lim a):=by
 refine⟨λg c b d=>absurd ?_ d,λe=>(by cases e),λe=>(by cases e),λe=>(by cases e),λe=>(by cases e),λq h=>absurd h ?_,λe=>(by cases e)⟩
 ·show nth (nth (List.replicate f (List.replicate 16 (0:Int))) g) c=0
  rcases GB f g (List.replicate 16 (0:Int)) with e|e<;>rw[e]
  ·exact Eb _ _
  rfl
 show ¬(nth (List.replicate p (⟨0,0⟩ : bm)) q).j=1;rcases GB p q (⟨0,0⟩ : bm) with e|e<;>rw[e]
 ·decide
 decide
def iZ(k:ah)(o:bu):bJ:=⟨o.Id,cellsOf k o.Addr o.y.toNat⟩
structure RS(w:br):Prop where
 nx:w.b5.b=w.a.b
 asc:w.b5.O.Pairwise λa b=>a.Id<b.Id
 mem:∀y,y∈w.b5.O↔∃o∈w.a.O,y=iZ w.a.F o
def rT{b:ah}{a:Int}(h:∀j:Int,0<=j->j<n->fQ b (a+j)=fQ k (a+j)):cellsOf b a n=cellsOf k a n:=by
 unfold cellsOf;refine List.map_congr_left λj c=>?_
 have:=List.mem_range.1 c;exact h j ω ω
def gC{a:ah}(h:∀j:Int,0<=j->j<o.y->fQ a (o.Addr+j)=fQ k (o.Addr+j)):iZ a o=iZ k o:=by
 unfold iZ;rw[rT λj b c=>h j b ω]
def Vv[Inhabited α]{R:α->α->Prop}{xs:List α}(h:xs.Pairwise R){j:Nat}(a:i<j)(b:j<xs.length):R (nth xs i) (nth xs j):=by
 have:=List.pairwise_iff_getElem.1 h i j ω b a;rw[show nth xs i=xs[i] from bq (C3 ω),show nth xs j=xs[j] from bq (C3 b)];exact this
def RS.at{w:br}(b:RS w){o:bu}(c:o∈w.a.O):∃j:Nat,j<w.b5.O.length/\pZ w.b5 o.Id=(j:Nat)/\nth w.b5.O j=iZ w.a.F o:=by
 obtain⟨j,a,e⟩:=aR ((b.mem _).2 ⟨o,c,rfl⟩);refine⟨j,a,dE (ar a) (O0 (by rw[e];rfl)) λm z d f=>X0 ?_,e⟩;have g:=Vv b.asc d a;rw[bq f,e]at g;have h:(iZ w.a.F o).Id=o.Id:=rfl;omega
variable{w:br}
def RS.lt(a:RS w)(b:bc w.a []):∀y∈w.b5.O,1<=y.Id/\y.Id<w.b5.b:=λy c=>by
 obtain⟨o,d,rfl⟩:=(a.mem y).1 c;have:=b.onu o d;rw[a.nx];show 1<=o.Id/\o.Id<w.a.b;omega
def RS.keep(b:RS w)(d:h'.O=w.a.O)(c:Kp w.a h')(e:h'.b=w.a.b):RS ⟨h',w.b5⟩:=by
 refine⟨b.nx.trans e.symm,b.asc,λy=>(b.mem y).trans ?_⟩;show _↔∃o∈h'.O,y=iZ h'.F o
 constructor
 ·rintro⟨o,f,rfl⟩
  have a:o∈h'.O:=by rw[d];exact f
  exact⟨o,a,(gC (c o a).2).symm⟩
 rintro⟨o,a,rfl⟩
 exact⟨o,(c o a).1,gC (c o a).2⟩
def RS.alloc(e:RS w)(i:bc w.a []){x:bu}(d:VL w.a h' x)(k:x.Id=w.a.b)(g:h'.b=w.a.b+1)(l:1<=x.y/\x.y<=1000):RS ⟨h',jT w.b5 x.y⟩:=by
 unfold jT;rw[CE l];have h:iZ h'.F x = ⟨w.b5.b,List.replicate x.y.toNat 0⟩:=by
  unfold iZ;rw[k,e.nx]
  congr 1
  refine List.eq_replicate_iff.2 ⟨lc ..,λb f=>?_⟩;unfold cellsOf at f;obtain⟨j,n,rfl⟩:=O5.1 f;have:=List.mem_range.1 n;exact d.ze j ω ω
 refine⟨by show w.b5.b+1=h'.b;rw[g,e.nx],?_,λy=>?_⟩
 ·refine List.pairwise_append.2 ⟨e.asc,List.pairwise_singleton _ _,λa p b f=>?_⟩
  rw[C2.1 f];exact(e.lt i a p).2
 show y∈w.b5.O++[_]↔∃o∈h'.O,y=iZ h'.F o
 rw[t4,C2,e.mem];constructor
 ·rintro(⟨o,c,rfl⟩|rfl)
  ·exact⟨o,(d.mem o).2 (.inr c),(gC (d.ke o c)).symm⟩
  exact⟨x,(d.mem x).2 (.inl rfl),h.symm⟩
 rintro⟨o,c,rfl⟩
 rcases(d.mem o).1 c with rfl|c
 ·exact .inr h
 exact .inl ⟨o,c,gC (d.ke o c)⟩
def RS.free(a:RS w)(p:bc w.a [])(h:i<w.a.O.length)(k:h'.O=dele w.a.O i)(l:Kp w.a h')(r:h'.b=w.a.b):RS ⟨h',kG w.b5 (nth w.a.O i).Id⟩:=by
 obtain⟨j,t,u,n⟩:=a.at (au h);unfold kG;rw[u,CC ω];simp only[Y3];refine⟨a.nx.trans r.symm,a.asc.sublist (fD _ _),λy=>?_⟩;show y∈dele w.b5.O j↔∃o∈h'.O,y=iZ h'.F o
 rw[dz];constructor
 ·rintro⟨m,c,A,rfl⟩
  obtain⟨o,d,e⟩:=(a.mem _).1 (au c);have b:o∈h'.O:=by
   rw[k];obtain⟨q,g,rfl⟩:=aR d;refine dz.2 ⟨q,g,λx=>A ?_,rfl⟩;subst x;exact cX (f:=(·.Id)) (dw a.asc) c t (by rw[e,n])
  exact⟨o,b,e.trans (gC (l o b).2).symm⟩
 rintro⟨o,b,rfl⟩
 obtain⟨d,B⟩:=l o b;rw[gC B];obtain⟨m,c,e⟩:=aR ((a.mem _).2 ⟨o,d,rfl⟩);refine⟨m,c,λx=>?_,e⟩;subst x;rw[k]at b;obtain⟨q,g,C,rfl⟩:=dz.1 b;exact C (cX (f:=(·.Id)) p.oid g h (C1 bJ.Id (e.symm.trans n)))
def RS.upd(d:RS w)(A:bc w.a [])(B:i<w.a.O.length){x':bu}(C:x'.Id=(nth w.a.O i).Id)(k:∀o,o∈h'.O↔o=x'\/∃m,m<w.a.O.length/\m≠i/\nth w.a.O m=o)(t:∀m,m<w.a.O.length->m≠i->iZ h'.F (nth w.a.O m)=iZ w.a.F (nth w.a.O m))(D:h'.b=w.a.b){j:Nat}(l:j<w.b5.O.length)(n:nth w.b5.O j=iZ w.a.F (nth w.a.O i)):RS ⟨h',{w.b5 with O:=w.b5.O.set j (iZ h'.F x')}⟩:=by
 refine⟨d.nx.trans D.symm,?_,λy=>?_⟩
 ·have u:(w.b5.O.map (·.Id)).Pairwise (λa b=>a<b):=List.pairwise_map.2 d.asc
  rw[<-lN (f:=(·.Id)) (y:=iZ h'.F x') l (by rw[n];exact C)]at u;exact List.pairwise_map.1 u
 show y∈w.b5.O.set j _↔∃o∈h'.O,y=iZ h'.F o
 rw[vg l];constructor
 ·rintro(rfl|⟨m,h,p,rfl⟩)
  ·exact⟨x',(k x').2 (.inl rfl),rfl⟩
  obtain⟨o,r,e⟩:=(d.mem _).1 (au h);obtain⟨q,c,rfl⟩:=aR r;have g:q≠i:=λx=>p (by subst x;exact cX (f:=(·.Id)) (dw d.asc) h l (by rw[e,n]))
  exact⟨_,(k _).2 (.inr ⟨q,c,g,rfl⟩),e.trans (t q c g).symm⟩
 rintro⟨o,r,rfl⟩
 rcases(k o).1 r with rfl|⟨q,c,g,rfl⟩
 ·exact .inl rfl
 rw[t q c g];obtain⟨m,h,e⟩:=aR ((d.mem _).2 ⟨_,au c,rfl⟩);refine .inr ⟨m,h,λx=>g ?_,e⟩;subst x;exact cX (f:=(·.Id)) A.oid c B (C1 bJ.Id (e.symm.trans n))
def RS.store(l:RS w)(g:bc w.a [])(h:JI w.a)(n:CI w.a)(a:i<w.a.O.length){j:Int}(p:0<=j/\j<=(nth w.a.O i).y - 1)(r:0<=v/\v<=999)(t:(af (tbl w.a) (((nth w.a.O i).Addr+j) / 16)).j≠1):RS ⟨{w.a with F:=ew w.a.F ((nth w.a.O i).Addr+j) v},fe w.b5 (nth w.a.O i).Id j v⟩:=by
 obtain⟨-,d⟩:=CI.store (v:=v) g h n a p t;obtain⟨b,u,A,k⟩:=l.at (au a);have B:(nth w.b5.O b).T.length=(nth w.a.O i).y.toNat:=by rw[k];exact lc ..
 have C:fe w.b5 (nth w.a.O i).Id j v = {w.b5 with O:=w.b5.O.set b ⟨(nth w.b5.O b).Id,(nth w.b5.O b).T.set j.toNat v⟩}:=by
  unfold fe;rw[A];simp only[Y3];rw[CE ⟨ω,ω,r⟩]
 have D:(⟨(nth w.b5.O b).Id,(nth w.b5.O b).T.set j.toNat v⟩ : bJ)=iZ (ew w.a.F ((nth w.a.O i).Addr+j) v) (nth w.a.O i):=by
  rw[k];unfold iZ;simp only
  congr 1
  refine List.ext_getElem (by simp[cellsOf]) λq K E=>?_
  rw[lc]at E;rw[List.getElem_set];simp only[cellsOf,List.getElem_map,List.getElem_range];have:=d _ (au a) q ω ω;rw[this];by_cases e:j.toNat=q
  ·rw[CE e,CE ⟨rfl,ω⟩]
  rw[CC e,CC (λx=>e ω)]
 rw[C,D];refine RS.upd l g a (h':={w.a with F:=ew w.a.F ((nth w.a.O i).Addr+j) v}) rfl (λo=>?_) (λm c F=>?_) rfl u k
 ·show o∈w.a.O↔_
  constructor
  ·intro G
   obtain⟨m,c,rfl⟩:=aR G;by_cases e:m=i
   ·subst e;exact .inl rfl
   exact .inr ⟨m,c,e,rfl⟩
  rintro(rfl|⟨m,c,-,rfl⟩)
  ·exact au a
  exact au c
 refine gC λx H J=>?_
 show fQ (ew w.a.F _ v) _=_;rw[d _ (au c) x H J,CC (λy=>F (cX (f:=(·.Addr)) (dw g.osr) c a (by rw[y.1])))]
variable{m:Nat}
def FU(k:ah)(a:Int)(h:m<=n):(cellsOf k a n).take m=cellsOf k a m:=by
 unfold cellsOf;rw[<-C5,List.take_range,Nat.min_eq_left h]
variable{size:Int}
def RS.trim(g:RS w)(d:bc w.a [])(p:CI w.a){k:Nat}(a:i<w.a.O.length)(h:k<w.a.M.length)(l:(nth w.a.O i).Addr=16*(nth w.a.M k).R)(q:9<=size/\size<=(nth w.a.M k).y):RS ⟨trimH w.a i k size,gn w.b5 (nth w.a.O i).Id size⟩:=by
 obtain⟨-,c⟩:=CI.trimH d p a h l q;have r:=DN d (au a) h l;obtain⟨b,t,u,e⟩:=g.at (au a);have A:(nth w.b5.O b).T.length=(nth w.a.O i).y.toNat:=by rw[e];exact lc ..
 have B:gn w.b5 (nth w.a.O i).Id size = {w.b5 with O:=w.b5.O.set b ⟨(nth w.b5.O b).Id,(nth w.b5.O b).T.take size.toNat⟩}:=by
  unfold gn;rw[u];simp only[Y3];rw[CE ⟨ω,ω,ω⟩]
 have C:(⟨(nth w.b5.O b).Id,(nth w.b5.O b).T.take size.toNat⟩ : bJ)=iZ (trimH w.a i k size).F {nth w.a.O i with y:=size}:=by
  rw[e];unfold iZ;simp only;rw[FU _ _ ω]
  congr 1
  refine(rT λj D H=>?_).symm;exact c _ (au a) j D ω λ_=>ω
 rw[B,C];refine RS.upd g d a (h':=trimH w.a i k size) (x':={nth w.a.O i with y:=size}) rfl (λo=>vg a) (λm n E=>?_) rfl t e;refine gC λx F G=>c _ (au n) x F G λy=>absurd (cX (f:=(·.Addr)) (dw d.osr) n a (by rw[y])) E
def GO(h:ac)(i:Nat)(a:Int):(freeS h i a).b=h.b:=by unfold freeS;split<;>rfl
def Ta(t:Nat)(h:ac)(a:Int):(recyc t h a).b=h.b:=by
 unfold recyc;split
 ·rfl
 exact GO h (sX h a) a
def v6(t:Nat):∀(az:List Int)(h:ac),(recycs t h az).b=h.b
 | [],_=>rfl
 | a::az,h=>(v6 t az (recyc t h a)).trans (Ta t h a)
def wd:∀(az:List Int)(h:ac),(freeAs h az).b=h.b
 | [],_=>rfl
 | a::az,h=>(wd az (freeA h a)).trans (GO h (sX h a) a)
def wg(t:Nat)(h:ac):∀k,(flushN t h k).1.b=h.b/\(flushN t h k).1.O=h.O
 | 0=>⟨rfl,rfl⟩
 | k+1=>by
  obtain⟨a,b⟩:=wg t h k;exact⟨(wd _ _).trans a,(fy _ _).2.1.trans b⟩
def Jv(h:ac)(t i:Nat):(GK h t i).b=h.b/\(GK h t i).O=dele h.O i:=⟨v6 _ _ _,(fW _ _ _).2.1⟩
def Ke(h:ac)(t i:Nat):(freeT h t i).1.b=h.b/\(((freeT h t i).2=0/\(freeT h t i).1.O=dele h.O i)\/((freeT h t i).2=5/\(freeT h t i).1=h)):=by
 unfold freeT
 repeat' split
 ·exact⟨rfl,.inl ⟨rfl,rfl⟩⟩
 ·exact⟨rfl,.inr ⟨rfl,rfl⟩⟩
 ·exact⟨(Jv h t i).1,.inl ⟨rfl,(Jv h t i).2⟩⟩
 ·exact⟨rfl,.inl ⟨rfl,rfl⟩⟩
 exact⟨rfl,.inr ⟨rfl,rfl⟩⟩
def Lo(h:ac):∀n,(stN h n).1.b=h.b/\(stN h n).1.O=h.O
 | 0=>⟨rfl,rfl⟩
 | n+1=>by
  obtain⟨a,b⟩:=Lo h n;unfold stN;split
  ·exact⟨a,b⟩
  exact⟨a,b⟩
def CI.stN{h:ac}(a:bc h [])(b:JI h)(c:CI h):∀n,CI (stN h n).1/\Kp h (stN h n).1
 | 0=>⟨c,Ca h⟩
 | n+1=>by
  obtain⟨g,i⟩:=wh a b n;obtain⟨d,f⟩:=CI.stN a b c n;unfold Ab.stN;split
  ·rename_i e
   unfold uy at e;rw[I0]at e;obtain⟨j,k⟩:=CI.mStep g i d e.1;exact⟨j,f.trans k⟩
  exact⟨d,f⟩
def oV(h:ac):(started h).1.b=h.b/\(started h).1.O=h.O:=by
 unfold started;split<;>exact⟨rfl,rfl⟩
structure CW(w:br):Prop where
 ci:CI w.a
 rs:RS w
def CW.keep(h:CW w){g:ac}(a:CI g/\Kp w.a g)(b:g.O=w.a.O)(c:g.b=w.a.b):CW ⟨g,w.b5⟩:=⟨a.1,h.rs.keep b a.2 c⟩
def CW.obj(h:tM w m)(c:CW w)(a:fj)(b:i<w.a.O.length):CW (nK w a i).1:=by
 unfold nK;split
 ·unfold re
  split
  ·exact c
  split
  ·rename_i q
   unfold pD at q;have l:=CI.freeT (t:=a.a5.toNat) h.inv h.ji c.ci b ω;obtain⟨r,u⟩:=Ke w.a a.a5.toNat i;refine⟨l.1,?_⟩;show RS ⟨(freeT w.a a.a5.toNat i).1,if _ then _ else _⟩;rcases u with⟨f,d⟩|⟨f,d⟩
   ·rw[CE f];exact c.rs.free h.inv b d l.2 r
   rw[CC (by rw[f];decide),d];exact c.rs
  exact c
 split
 ·unfold ow
  split
  ·exact c
  rename_i g;split
  ·exact c
  rename_i n;split
  ·exact c
  rename_i j;have g:=Classical.not_not.1 g;have j:=Classical.not_not.1 j;exact⟨(CI.store h.inv h.ji c.ci b g n).1,RS.store c.rs h.inv h.ji c.ci b g j n⟩
 unfold qY;split
 ·rename_i e
  obtain⟨-,f,d⟩:=e;obtain⟨o,y,A⟩:=gq _ _ f;have k:=of_decide_eq_true y;have p:=k.symm.trans (Int.mul_comm _ _);exact⟨(CI.trimH h.inv c.ci b o p d).1,RS.trim c.rs h.inv c.ci b o p d⟩
 exact c
def CW.thread(h:tM w m)(c:CW w)(a:fj):CW ⟨(g9 w.a a).1,w.b5⟩:=by
 have b:=c.ci;unfold g9;split
 ·split
  ·exact CW.keep (g:={w.a with w:=gJ w.a.w a.a5.toNat}) c ⟨⟨b.z,b.jv,b.jd,b.jc,b.jn,b.m1,b.m2⟩,Ca w.a⟩ rfl rfl
  exact c
 split
 ·exact c
 rename_i e;have e:=Classical.not_not.1 e;obtain⟨-,i⟩:=e;unfold pD at i;split
 ·exact c.keep (CI.collect (t:=a.a5.toNat) h.inv b ω) (fW _ _ _).2.1 (v6 _ _ _)
 have j:a.a5.toNat<w.a.S.length:=ω
 have f:=CI.flushN h.inv j b (v4 4);have d:=wg a.a5.toNat w.a 4;generalize flushN a.a5.toNat w.a 4=r at f d |-;exact CW.keep (g:=r.1) c f d.2 d.1
def CW.act(h:tM w m)(c:CW w)(a:fj):CW (mN w a).1:=by
 unfold mN;split
 ·have b:=CI.allocH (t:=a.a5) (size:=a.N) h.inv h.ji c.ci
  refine⟨b.ci,?_⟩;show RS ⟨(allocH w.a a.a5 a.N).1,if _ then _ else _⟩;split
  ·rename_i e
   obtain⟨d,f,g,i,-⟩:=b.yes e;exact RS.alloc (x:=⟨w.a.b,(allocH w.a a.a5 a.N).2.1,a.N,a.a5⟩) c.rs h.inv d rfl f ⟨g,i⟩
  rename_i e;obtain⟨j,k,l,-⟩:=b.no e;exact c.rs.keep j k l
 split
 ·split
  ·exact c
  rename_i e;exact c.obj h a (gq _ _ (by unfold rO at e;omega)).1
 split
 ·exact c.thread h a
 split
 ·unfold pw
  split
  ·rename_i e
   exact c.keep (CI.tick h.inv c.ci e.2.1.1 e.2.2) (fy _ _).2.1 (wd _ _)
  exact c
 split
 ·unfold pk
  split
  ·exact c
  rename_i e;exact c.keep (CI.started h.inv c.ci (by simpa using e)) (oV _).2 (oV _).1
 split
 ·exact c.keep (CI.stN h.inv h.ji c.ci _) (Lo _ _).2 (Lo _ _).1
 exact c
def Pt(c:cS):CW (world0 c):=⟨CI.newHeap ..,rfl,List.Pairwise.nil,λy=>⟨λh=>(by cases h),λ⟨_,h,_⟩=>(by cases h)⟩⟩
def Q4{c:cS}(h:H4 c)(acts:List fj):∀n,CW (Bi c acts n).1
 | 0=>Pt c
 | n+1=>(Q4 h acts n).act (vL h acts n) _
def HO(zs:List Int):CW (drawn zs):=Q4 (qS (Z0 _)).1 _ _
def zO(h:ac)(t n:Int):cls (allocH h t n).1<=cls h+63:=by
 have a:cls h<=cls h+63:=ω
 unfold allocH;split
 ·exact a
 split
 ·exact a
 split
 ·exact a
 rename_i c;split
 ·exact a
 split
 ·have:=P8 h t.toNat (aL n).toNat
  split
  ·show cls (smallA h t.toNat (aL n).toNat).1<=_;omega
  show cls (smallA h t.toNat (aL n).toNat).1<=_;omega
 have d:(gQ n:Int)<=63:=by unfold gQ;omega
 unfold largeA;split
 ·exact a
 have b:=HF h.F (ay h.o (gQ n:Nat)).2.1 (gQ n);unfold cls;split
 ·exact X6 b ω
 exact X6 (Z6 (kn _ _ _).1) (X6 b ω)
def Na{h:ac}(a:bc h [])(b:JI h):∀n:Nat,cls (stN h n).1<=cls h+n
 | 0=>by show cls h<=cls h+((0:Nat):Int);omega
 | n+1=>by
  obtain⟨c,f⟩:=wh a b n;have d:=Na a b n;unfold stN;split
  ·rename_i e
   unfold uy at e;rw[I0,C0]at e;have:=(oY c e.1).2.1;unfold cls at d |-;simp only;omega
  omega
def NE(h:tM w m)(a:fj):cls (mN w a).1.a<=cls w.a+63:=by
 have b:cls w.a<=cls w.a+63:=ω
 unfold mN;split
 ·exact zO _ _ _
 split
 ·split
  ·exact b
  unfold nK;split
  ·unfold re
   split
   ·exact b
   split
   ·exact X6 (Z6 (Q6 _ _ _)) b
   exact b
  split
  ·unfold ow
   split
   ·exact b
   split
   ·exact b
   split<;>exact b
  unfold qY;split
  ·exact X6 (Z6 (((kn _ _ _).1).trans (oQ _ _ _).2.1)) b
  exact b
 split
 ·unfold g9
  split
  ·split<;>exact b
  split
  ·exact b
  split
  ·exact X6 (Z6 (fW _ _ _).2.2.1) b
  exact X6 (Z6 (DS _ _ _)) b
 split
 ·unfold pw
  split
  ·exact X6 (Z6 (fy _ _).2.2.1) b
  exact b
 split
 ·unfold pk
  split
  ·exact b
  show cls (started w.a).1<=_;unfold cls;rw[(qU h.inv).2.1];exact b
 split
 ·rename_i e
  have:=Na h.inv h.ji a.N.toNat;show cls (stN w.a a.N.toNat).1<=_;omega
 exact b
def Mr{c:cS}(h:H4 c)(acts:List fj):∀n:Nat,cls (Bi c acts n).1.a<=63*n
 | 0=>by show(0:Int)<=63*((0:Nat):Int);decide
 | n+1=>by
  have a:=Mr h acts n;have b:=NE (vL h acts n) (nth acts n);show cls (mN (Bi c acts n).1 (nth acts n)).1.a<=_;omega
def ND(zs:List Int):(drawn zs).a.F.Calls<=2520/\(drawn zs).a.b<=41:=by
 have a:(uK zs).i<=zs.length:=Z0 _;obtain⟨b,d⟩:=qS a;have g:=bQ zs (eO zs) (n:=41) (by decide);obtain⟨e,-,-⟩:=q9 (zs:=zs) (c:=eO zs) d (n:=(bC zs (eO zs) 41).1.toNat) ω;have f:=Mr b (mh zs (eO zs)).1 (mh zs (eO zs)).1.length;have h:(mh zs (eO zs)).1.length<=40:=by
  show(mF zs (eO zs) _).1.length<=40;rw[e];omega
 have j:=(yA zs).ref.nx.2;have k:=(HO zs).rs.nx;refine⟨?_,ω⟩;show cls (Bi _ _ _).1.a<=_;exact X6 f ω
def wX{t:Int}(d:h.b<1000000)(e:h.F.Calls<=90000)(b:0<=t/\t<=h.S.length - 1)(c:1<=size/\size<=1000):(h.b1<iw h+size/\allocH h t size=(h,-1,3))\/(¬h.b1<iw h+size/\((allocH h t size).2.2=0\/(allocH h t size).2.2=4)):=by
 unfold allocH;rw[CC ω,CC (z5 b),CC (z5 c)];by_cases a:h.b1<iw h+size
 ·rw[CE a];exact .inl ⟨a,rfl⟩
 rw[CC a];refine .inr ⟨a,?_⟩;split
 ·split
  ·exact .inr rfl
  exact .inl rfl
 unfold largeA;split
 ·exact .inr rfl
 split
 ·exact .inl rfl
 exact .inr rfl
def sm{α:Type}(f:α->Int):List α->Int
 | []=>0
 | a::l=>f a+sm f l
open Go.RowKit
set_option maxRecDepth 20000
set_option maxHeartbeats 4000000
set_option maxHeartbeats 2000000
def E1{a:List Bool}{j:Nat}(d:nth a j=true):∀n,n<=a.length->gz (a.set j false) n=gz a n - (if j<n then 1 else 0)
 | 0,_=>by rw[CC ω];rfl
 | n+1,h=>by
  have c:=E1 d n ω;by_cases e:j=n
  ·subst e
   rw[oh (by rw[bB,CE ⟨rfl,ω⟩]),kF d,c,CC ω,CE ω];omega
  have f:nth (a.set j false) n=nth a n:=by rw[bB,CC (λx=>e x.1)]
  cases b:nth a n with
  | true=>
   rw[kF (f.trans b),kF b,c];split<;>split<;>omega
  | false=>
   rw[oh (f.trans b),oh b,c];split<;>split<;>omega
def yl{b a:List Bool} : ∀n,(∀f,f<n->nth a f=true->nth b f=true)->gz a n<=gz b n
 | 0,_=>Y6 _
 | n+1,h=>by
  have c:=yl n λf d=>h f ω
  cases e:nth a n with
  | true=>rw[kF e,kF (h n ω e)];omega
  | false=>
   rw[oh e];show _<=gz b n+_;split<;>omega
def xP(a:aD k=true):cq k.G.W=gz k.G.W.a1 k.G.W.a1.length:=by
 unfold cq;rw[CE (aC.1 a).2.1]
def AR(w:bc h [])(b:JI h)(j:h.q=true):(eE h.F h.Y).1.G.W.a1=if m9 h=true then h.F.G.W.a1.set (bF h.F h.Y.X.a0) false else h.F.G.W.a1:=by
 have c:=JP.of w b j;have D:=b.ph j;unfold m9 eE;by_cases a:jmay h.F h.Y=true;rotate_left
 ·rw[CC a,CC (by simp only[C0];omega)]
 rw[CE a];unfold jstep;by_cases y:h.Y.b0=0
 ·rw[CE y]
  have l:decide ((if(fI h.F h.Y.X.a0 1).2=true then(1:Int) else 5)=4)=false:=by split<;>decide
  show(fI h.F h.Y.X.a0 1).1.G.W.a1=if decide ((if(fI h.F h.Y.X.a0 1).2=true then(1:Int) else 5)=4)=true then _ else _
  rw[l,CC (by decide)];unfold fI;split<;>rfl
 rw[CC y];by_cases A:h.Y.b0=1
 ·rw[CE A]
  split
  ·rw[CC (by simp)]
  rw[CC (by simp only[C0];omega)];rfl
 rw[CC A];by_cases B:h.Y.b0=2
 ·rw[CE B]
  simp only;have C:h.F.Calls≠100000:=by unfold jmay at a;simp only[I0,C0]at a;exact a.1.2
  cases d:(sJ h.F h.Y.X.a0 h.Y.X.a3).2 with
  | false=>
   rw[CC (by simp),KM d];rfl
  | true=>
   rw[CE (by simp)];have f:=ER w.ker (p:=h.Y.X.a0) (o:=h.Y.X.a3) c.mm d;unfold sJ at d |-;by_cases e:refd h.F=true
   ·rw[CE e]at d;cases d
   rw[CC e];simp only;obtain⟨L,M,E⟩:=me c.mm;obtain⟨N,O,G⟩:=me c.km;have H:(nth h.F.G.Q.K h.Y.X.a0.toNat).e=(bF h.F h.Y.X.a0:Nat):=by
    rw[show nth h.F.G.Q.K h.Y.X.a0.toNat=nth (tbl h).K h.Y.X.a0.toNat from rfl,<-E];exact c.mf
   have J:(nth h.F.G.Q.K h.Y.X.a3.toNat).e=(bF h.F h.Y.X.a3:Nat):=by
    rw[show nth h.F.G.Q.K h.Y.X.a3.toNat=nth (tbl h).K h.Y.X.a3.toNat from rfl,<-G];exact c.kf
   unfold fY;rw[CE ?_]
   ·show h.F.G.W.a1.set _ false=_
    rw[H,Y3]
   refine Classical.byContradiction λn=>?_
   obtain⟨q,P,r,g⟩:=du.1 (Nat.pos_of_ne_zero n);have i:=(f q).2;unfold sJ at i;rw[CC e]at i;simp only at i;have t:∀(k:ah)(F:Int),(fY k F).G.Q=k.G.Q:=λk F=>by unfold fY;split<;>rfl
   rw[t]at i;rw[i]at r g;by_cases u:(q:Int)=h.Y.X.a0
   ·rw[CE u]at g
    have Q:(nth h.F.G.Q.K h.Y.X.a3.toNat).e=(nth h.F.G.Q.K h.Y.X.a0.toNat).e:=g;exact c.ne ω
   rw[CC u]at r g;exact u (b.sm j q r g)
 rw[CC B];have K:h.Y.b0=3:=ω
 rw[CE K];split
 ·rw[CC (by simp only[C0];omega)]
  simp only;unfold gg
  repeat' split
  all_goals rfl
 have l:decide ((if(fI h.F h.Y.X.a0 2).2=true then(5:Int) else 3)=4)=false:=by split<;>decide
 show(fI h.F h.Y.X.a0 2).1.G.W.a1=if decide ((if(fI h.F h.Y.X.a0 2).2=true then(5:Int) else 3)=4)=true then _ else _
 rw[l,CC (by decide)];unfold fI;split<;>rfl
def La(b:bc h [])(a:JI h)(c:h.q=true):cq (mStep h).F.G.W=cq h.F.G.W - ((m9 h).toNat:Nat):=by
 obtain⟨d,-⟩:=b.mStep a c;have f:=JP.of b a c;rw[xP d.ker,xP b.ker];have e:=AR b a c;have g:(mStep h).F=(eE h.F h.Y).1:=rfl;rw[g,e];cases j:m9 h with
 | false=>rw[CC (by simp)];show _=_ - ((0:Nat):Int);omega
 | true=>
  obtain⟨k,i,-⟩:=gM b.ker (p:=h.Y.X.a0) f.mm;obtain⟨-,l,n,-⟩:=aZ.1 (aC.1 b.ker).2.1;rw[CE rfl,I2,E1 i _ (v4 _),CE ω]
  rfl
structure MX(h g:ac)(n:Nat):Prop where
 inv:bc g []
 ji:JI g
 ci:CI g
 kp:Kp h g
 ob:g.O=h.O
 nx:g.b=h.b
 fr:g.o=h.o
 pg:fo g=fo h
 rf:g.F.u=h.F.u
 ca:g.S=h.S
 ml:g.w=h.w
 us:cq g.F.G.W=cq h.F.G.W - n
 ul:g.F.G.W.a1.length=h.F.G.W.a1.length
def MX.refl(b:bc h [])(a:JI h)(c:CI h):MX h h 0:=⟨b,a,c,Ca h,rfl,rfl,rfl,rfl,rfl,rfl,rfl,ω,rfl⟩
def MX.trans{h1 c:ac}(a:MX h h1 n)(b:MX h1 c m):MX h c (n+m):=
 ⟨b.inv,b.ji,b.ci,a.kp.trans b.kp,b.ob.trans a.ob,b.nx.trans a.nx,b.fr.trans a.fr,b.pg.trans a.pg,b.rf.trans a.rf,b.ca.trans a.ca,b.ml.trans a.ml,by rw[b.us,a.us];omega,b.ul.trans a.ul⟩
def MX.step(b:bc h [])(a:JI h)(d:CI h)(c:h.q=true):MX h (mStep h) (m9 h).toNat:=by
 obtain⟨e,f⟩:=b.mStep a c;obtain⟨g,i⟩:=CI.mStep b a d c;have s:=JS.of b c;exact⟨e,f,g,i,rfl,rfl,rfl,s.len,s.calls.2.2,rfl,rfl,La b a c,by
   show(eE h.F h.Y).1.G.W.a1.length=_;rw[AR b a c];split<;>simp⟩
def Fo(h:ac):(started h).1.F=h.F/\(started h).1.o=h.o/\(started h).1.S=h.S/\(started h).1.w=h.w:=by
 unfold started;split<;>exact⟨rfl,rfl,rfl,rfl⟩
def MX.started{h:ac}(b:bc h [])(d:CI h)(c:h.q=false):MX h (started h).1 0:=by
 obtain⟨e,f⟩:=zR b c;obtain⟨g,i⟩:=CI.started b d c;obtain⟨a,j,k,l⟩:=Fo h;exact⟨e,f,g,i,(oV h).2,(oV h).1,j,by unfold fo;rw[a],by rw[a],k,l,by rw[a];omega,by rw[a]⟩
def MX.meshSt{h:ac}(b:bc h [])(a:JI h)(c:CI h):MX h (meshSt h).1 0:=by
 unfold Ab.meshSt;split
 ·rename_i e;exact MX.started b c e.1
 exact MX.refl b a c
def My{h:ac}(b:bc h [])(a:JI h)(c:CI h):∀n,MX h (f9 h n).1 (f9 h n).2.toNat/\((f9 h n).2=true->(f9 h n).1.q=false)
 | 0=>⟨MX.refl b a c,λe=>(by cases e)⟩
 | n+1=>by
  obtain⟨s,d⟩:=My b a c n;unfold f9;split
  ·rename_i e
   have g:(f9 h n).2=false:=by
    cases i:(f9 h n).2 with
    | false=>rfl
    | true=>rw[d i]at e;cases e
   rw[g]at s;have t:=MX.step s.inv s.ji s.ci e;have f:=s.trans t;simp only[Bool.toNat_false,C9]at f;refine⟨f,λj=>?_⟩;exact(oY s.inv e).2.2.2.2.1 j
  exact⟨s,d⟩
def Ra(b:bc h [])(a:JI h)(c:CI h):MX h (fin h).1 (fin h).2.toNat:=by
 unfold fin;exact(My b a c 100).1
def Mb{h:ac}(b:bc h [])(a:JI h)(c:CI h):∀n,MX h (ic h n).1 (ic h n).2
 | 0=>by
  have e:ic h 0=((fin h).1,(fin h).2.toNat):=rfl;rw[e];exact Ra b a c
 | n+1=>by
  have s:=Mb b a c n;have t:=MX.meshSt s.inv s.ji s.ci;have d:=s.trans t;unfold ic;split
  ·exact d.trans (Ra t.inv t.ji t.ci)
  exact d
structure t8(k k':ah):Prop where
 len:k'.G.W.a1.length=k.G.W.a1.length
 ent:∀q:Nat,(nth k'.G.Q.K q).j≠0->nth k'.G.Q.K q=nth k.G.Q.K q
def t8.refl(k:ah):t8 k k:=⟨rfl,λ_ _=>rfl⟩
def t8.trans{d f:ah}(a:t8 k d)(b:t8 d f):t8 k f:=⟨b.len.trans a.len,λq c=>by
  have e:=b.ent q c;rw[e]at c |-;exact a.ent q c⟩
def t8.unmap(a:aD k=true)(b:0<=p/\p<k.G.Q.K.length):t8 k (co k p):=by
 refine⟨?_,λq c=>KL.md (KL.unmap a b) (kv _ _).1 q c⟩;unfold co fY lI
 repeat' split
 all_goals first|rfl|simp
def t8.used{c:ah}(d:aD k=true)(a:aD c=true)(l:t8 k c):cq c.G.W<=cq k.G.W:=by
 rw[xP d,xP a,l.len];refine yl _ λf g h=>?_
 rw[(aC.1 a).2.2.2.1 f (by rw[l.len];exact g)]at h;obtain⟨q,j,b,i⟩:=du.1 (of_decide_eq_true h);rw[(aC.1 d).2.2.2.1 f g];have e:=l.ent q b;rw[e]at b i;exact O0 (du.2 ⟨q,rc b,b,i⟩)
def t8.freeS{h:ac}{E:List Int}(b:bc h E){i:Nat}(c:i<h.J.length)(a:Int):t8 h.F (freeS h i a).F:=by
 unfold Ab.freeS;split
 ·have e:(nth (clrS h i a).J i).R=(nth h.J i).R:=by
   unfold clrS;simp only[bB,true_and];rw[CE c];rfl
  show t8 h.F (co h.F (nth (clrS h i a).J i).R);rw[e];obtain⟨d,f,-⟩:=b.mapped (au c);exact t8.unmap b.ker ⟨d,f⟩
 exact t8.refl _
def t8.freeA{h:ac}{E:List Int}{a:Int}(b:bc h (a::E)):t8 h.F (freeA h a).F:=by
 obtain⟨c,d,-⟩:=b.at (b.hin a (X2 ..));exact t8.freeS b c a
def t8.freeAs{E:List Int} : ∀{az:List Int}{h:ac},bc h (az++E)->t8 h.F (freeAs h az).F
 | [],h,_=>t8.refl _
 | a::az,h,b=>(t8.freeA b).trans (t8.freeAs (az:=az) (h:=Ab.freeA h a) b.freeA)
def t8.flushN{t:Nat}{h:ac}(b:bc h [])(c:t<h.S.length):∀{k:Nat},k<=4->t8 h.F (flushN t h k).1.F
 | 0,_=>t8.refl _
 | k+1,i=>by
  have e:=t8.flushN b c (k:=k) ω;obtain⟨d,j,-⟩:=ge b c (k:=k) ω;have a:t<(Ab.flushN t h k).1.S.length:=ω
  have f:=kR (d.cach _ (au a));have g:=d.spilt a (k:=k) ω;exact e.trans (t8.freeAs (h:=spilt (Ab.flushN t h k).1 t k) g)
structure FX(h g:ac):Prop where
 inv:bc g []
 ji:JI g
 ci:CI g
 kp:Kp h g
 ob:g.O=h.O
 nx:g.b=h.b
 rf:g.F.u=h.F.u
 ca:g.S.length=h.S.length
 ml:g.w=h.w
 cl:g.F.Calls=h.F.Calls
 les:t8 h.F g.F
def KT{h:ac}(c:bc h [])(b:JI h)(d:CI h):∀t,t<=h.S.length->FX h (xz h t)
 | 0,_=>⟨c,b,d,Ca h,rfl,rfl,rfl,rfl,rfl,rfl,t8.refl _⟩
 | t+1,y=>by
  have s:=KT c b d t ω;have a:t<(xz h t).S.length:=by rw[s.ca];omega
  have e:xz h (t+1)=(flushN t (xz h t) 4).1:=rfl;rw[e];obtain⟨f,g,i,j,l,A,B⟩:=ge s.inv a (k:=4) (v4 4);obtain⟨n,o⟩:=CI.flushN s.inv a s.ci (v4 4);have p:=JK.flushN s.inv a (v4 4);have q:=(wg t (xz h t) 4).1;have u:=sY (t:=t) (h:=xz h t) 4;have w:=t8.flushN s.inv a (v4 4);generalize flushN t (xz h t) 4=r at *;exact⟨f,s.ji.keep f p,n,s.kp.trans o,j.trans s.ob,q.trans s.nx,u.trans s.rf,g.trans s.ca,l.trans s.ml,i.trans s.cl,s.les.trans w⟩
structure RX(h g:ac):Prop where
 inv:bc g []
 ji:JI g
 ci:CI g
 kp:Kp h g
 ob:g.O=h.O
 nx:g.b=h.b
 rf:g.F.u=h.F.u
 us:cq g.F.G.W<=cq h.F.G.W
 ul:g.F.G.W.a1.length=h.F.G.W.a1.length
def A3(c:bc h [])(b:JI h)(d:CI h)(most:Int):RX h (relieve h most).1:=by
 unfold relieve;split
 ·have f:=KT c b d h.S.length (v4 _)
  have a:=Mb f.inv f.ji f.ci most.toNat;have e:=f.les.used c.ker f.inv.ker;have g:=a.us;refine⟨a.inv,a.ji,a.ci,f.kp.trans a.kp,a.ob.trans f.ob,a.nx.trans f.nx,a.rf.trans f.rf,by simp only;omega,a.ul.trans f.les.len⟩
 exact⟨c,b,d,Ca h,rfl,rfl,rfl,Y6 _,rfl⟩
def D4(h:ac)(i:Nat)(a:Int):(freeS h i a).b1=h.b1:=by unfold freeS;split<;>rfl
def P7(t:Nat)(h:ac)(a:Int):(recyc t h a).b1=h.b1:=by
 unfold recyc;split
 ·rfl
 exact D4 h (sX h a) a
def KD(t:Nat):∀(az:List Int)(h:ac),(recycs t h az).b1=h.b1
 | [],_=>rfl
 | a::az,h=>(KD t az (recyc t h a)).trans (P7 t h a)
def Ad:∀(az:List Int)(h:ac),(freeAs h az).b1=h.b1
 | [],_=>rfl
 | a::az,h=>(Ad az (freeA h a)).trans (D4 h (sX h a) a)
def Bc(t:Nat)(h:ac):∀k,(flushN t h k).1.b1=h.b1
 | 0=>rfl
 | k+1=>(Ad _ _).trans (Bc t h k)
def Mx(h:ac):∀t,(xz h t).b1=h.b1
 | 0=>rfl
 | t+1=>(Bc t (xz h t) 4).trans (Mx h t)
def yY(h:ac):∀n,(f9 h n).1.b1=h.b1
 | 0=>rfl
 | n+1=>by
  have a:=yY h n;unfold f9;split
  ·exact a
  exact a
def Jt(h:ac):(started h).1.b1=h.b1:=by unfold started;split<;>rfl
def Ae(h:ac):(meshSt h).1.b1=h.b1:=by
 unfold meshSt;split
 ·exact Jt h
 rfl
def GG(h:ac):∀n,(ic h n).1.b1=h.b1
 | 0=>yY h 100
 | n+1=>by
  have a:=GG h n;unfold ic;split
  ·exact((yY _ 100).trans (Ae _)).trans a
  exact(Ae _).trans a
def HH(h:ac)(m:Int):(relieve h m).1.b1=h.b1:=by
 unfold relieve;split
 ·exact(GG _ _).trans (Mx h _)
 rfl
def K7(h:ac)(t c:Nat):(smallA h t c).1.b1=h.b1:=by
 unfold smallA
 repeat' split
 all_goals first|rfl|(unfold jw;split<;>rfl)
def LB(h:ac)(t n:Int):(allocH h t n).1.b1=h.b1:=by
 unfold allocH largeA
 repeat' split
 all_goals first|rfl|exact K7 _ _ _
def yv(a:bc h []):0<h.S.length:=by
 obtain⟨⟨b,-,-⟩,-⟩:=dS.1 a.mail;have:=a.nc;omega
structure WA(h:ac)(n:Int)(r:ac × Int × Int):Prop where
 inv:bc r.1 []
 rf:r.1.F.u=h.F.u
 yes:r.2.2=0->0<=r.2.1/\∃k,k<r.1.O.length/\(nth r.1.O k).Id=h.b
 no:r.2.2≠0->r.2.1 = -1
def D8(b:bc h [])(a:JI h)(d:CI h)(t n:Int):WA h n (allocH h t n):=by
 have c:=CI.allocH (t:=t) (size:=n) b a d;have f:=rF h t n;refine⟨(lZ b).1,f,λe=>?_,λe=>(c.no e).2.2.2⟩;obtain⟨g,-,-,-,i⟩:=c.yes e;obtain⟨k,j,l⟩:=aR ((g.mem _).2 (.inl rfl));exact⟨i,k,j,by rw[l]⟩
def KY(c:bc h [])(b:JI h)(d:CI h)(e:fm h.F.u)(m:Nat)(g:m<=20):(relieve h (m:Nat)).1.F.Calls<=h.F.Calls+100*(m+1):=by
 unfold relieve;split
 ·have f:=KT c b d h.S.length (v4 _)
  have a:=(u9 f.inv (by rw[f.rf];exact e) (lf.of f.inv.mail).sml m).calls;have:=f.cl;simp only[Y3];omega
 simp only;omega
def PR(f:bc h [])(a:JI h)(w:CI h)(y:fm h.F.u)(A:h.F.Calls<=2520)(B:h.b<=41){n:Int}(p:1<=n/\n<=1000)(e:(allocH h 0 n).2.2=4):WA h n (allocH (relieve (allocH h 0 n).1 3).1 0 n)/\((allocH (relieve (allocH h 0 n).1 3).1 0 n).2.2=0\/(allocH (relieve (allocH h 0 n).1 3).1 0 n).2.2=4):=by
 have i:=CI.allocH (t:=0) (size:=n) f a w;obtain⟨j,C⟩:=lZ (t:=0) (size:=n) f;have q:=a.keep j C;obtain⟨D,N,r,-⟩:=i.no (by rw[e];decide);have u:(allocH h 0 n).1.F.u=h.F.u:=rF h 0 n;have E:=LB h 0 n;have F:=zO h 0 n;unfold cls at F;have O:=yv f;have l:=wX (h:=h) (t:=0) (size:=n) ω ω ω p;have b:¬h.b1<iw h+n:=by
  rcases l with⟨-,g⟩|⟨g,-⟩
  ·rw[g]at e;exact absurd (show(3:Int)=4 from e) (by decide)
  exact g
 have ci1:=i.ci;clear i;generalize (allocH h 0 n).1=g at *;have x:=A3 j q ci1 3;have G:=KY j q ci1 (by rw[u];exact y) 3 ω;have H:=HH g 3;change (relieve g 3).1.F.Calls<=_ at G;generalize (relieve g 3).1=g2 at *;have m:=D8 x.inv x.ji x.ci 0 n;have J:=yv x.inv;have o:iw g2=iw h:=by unfold iw;rw[x.ob,D]
 have c:=wX (h:=g2) (t:=0) (size:=n) (by rw[x.nx,r];omega) ω ω p;refine⟨⟨m.inv,m.rf.trans (x.rf.trans u),λe=>?_,m.no⟩,?_⟩
 ·obtain⟨K,k,L,M⟩:=m.yes e
  exact⟨K,k,L,by rw[M,x.nx,r]⟩
 rcases c with⟨d,-⟩|⟨-,d⟩
 ·rw[H,E,o]at d;exact absurd d b
 exact d
def ui(zs:List Int):Nat->List Int × js
 | 0=>([],uK zs)
 | n+1=>((ui zs n).1++[(bC zs (ui zs n).2 10000).1],(bC zs (ui zs n).2 10000).2)
def EC(zs:List Int):∀n,(ui zs n).2.i<=zs.length/\(ui zs n).1.length=n/\∀x∈(ui zs n).1,0<=x/\x<10000
 | 0=>⟨Z0 _,rfl,λx a=>by cases a⟩
 | n+1=>by
  obtain⟨b,c,d⟩:=EC zs n;refine⟨bY b _,by show((ui zs n).1++[_]).length=_;rw[C4,c];rfl,λx a=>?_⟩;rcases t4.1 a with a|a
  ·exact d x a
  rw[C2.1 a];exact bQ zs (ui zs n).2 (n:=10000) (by decide)
def xK(zs:List Int)(a:kq zs):zzA 16 false [.val none (Vy zs)] .one (aH .own (ui zs 12).1):=by
 have b:=xd zs a;refine fP 19 [(61,[2,0]),(3000003,[])] [] Tryz.func16 rfl ?_ (.inr (bO _))
 repeat'(first|refine gP ?_|refine Cl.g b (.inr rfl) ?_)
 refine CK (ι:=Nat) (λi=>[(0,.H .one (Vy zs)),(3,.H .box (jr zs (ui zs i).2)),(4,.H .one (aH .own (ui zs i).1)),(5,.H .one [I ((i:Nat):Int)])]) (λi=>i<=12) (λi=>12 - i) (0) ?_ (Z0 _) λi j=>?_
 ·repeat'(first|exact trivial|rfl |exact nL c|exact dG _|refine CN ?_ ?_|(exact Be (by first|omega|(simp only;omega)|(simp;omega))))
 obtain⟨d,k,-⟩:=EC zs i;by_cases l:i<12
 ·have e:=bX zs (ui zs i).2 10000 a d (by decide)
  repeat'(first|refine gE ?_|refine CV cC (λr h=>by rw[C2.1 h];rfl) (by simp[bn,eG]) (by simp;omega) (by simp only[O1];exact zd (by simp;omega) (by decide)) rfl ?_)
  (refine CG (i+1) ω ω ?_)
  repeat'(first|exact trivial|rfl| exact dG _ |exact nL (C1 (C.s dX.own) (by simp[ui,rI]))|refine CN ?_ ?_|(exact Be (by first|omega|(simp only;omega)|(simp;omega))))
 obtain rfl:i=12:=ω
 refine ZE ?_
 rfl
def Hard_law(zs:List Int)(Q:zs.length<=9223372036854775807/\∀y∈zs,0<=y/\y<=255):zzA 5 false [.val none (Vy zs)] .one [B true]:=by
 have C:=Vu zs Q.1;by_cases R:(zs.length:Int) > 1048576
 ·rw[O0 R]at C
  refine fO 71 [] Tryz.func5 rfl ?_
  refine ZP ?_
  rfl
 rw[X0 R]at C;have S:kq zs:=⟨ω,Q.2⟩
 have cD:=(zM zs S).fzR;rw[br.enc_fz]at cD;have cP:=xK zs S;obtain⟨-,pl,pb⟩:=EC zs 12;have g:=yA zs;have o:=HO zs;obtain⟨H,J⟩:=ND zs;have D:=HW zs;obtain⟨T,K⟩:=P2 zs;generalize drawn zs=w at *;generalize (ui zs 12).1=L at *;have h:=ar (xs:=L) (i:=0) ω;have M:=pb _ (au (xs:=L) (i:=0) ω);generalize nth L 0=p at *;have E:=g.inv;have hh:=E.to;have U:=eK (y:=20) M.1;have hpm:=Int.emod_nonneg p (show(20:Int)≠0 by decide);have hpn:=Int.emod_lt_of_pos p (show(0:Int)<20 by decide);generalize p % 20=m at *;obtain⟨cc1,j,G⟩:=qw w.a 0 (1+m) T;obtain⟨cc2,l,N⟩:=Jq w.a 0 (1+m) T K;have V:hO w.a 0 (1+m)=allocH w.a 0 (1+m):=by unfold hO;rw[CE hh]
 rw[V]at G j;have hX:WA w.a (1+m) (se w.a 0 (1+m))/\((se w.a 0 (1+m)).2.2=0\/(se w.a 0 (1+m)).2.2=(allocH w.a 0 (1+m)).2.2):=by
  unfold se;rw[V];split
  ·rename_i e
   obtain⟨q1,q2⟩:=PR E g.ji o.ci D H J (n:=1+m) ω e;have q:dh (relieve (allocH w.a 0 (1+m)).1 3).1=true:=by
    have al:=CI.allocH (t:=0) (size:=1+m) E g.ji o.ci;obtain⟨W,k1⟩:=lZ (t:=0) (size:=1+m) E;exact(A3 W (g.ji.keep W k1) al.ci 3).inv.to
   have e2:hO (relieve (allocH w.a 0 (1+m)).1 3).1 0 (1+m)=allocH (relieve (allocH w.a 0 (1+m)).1 3).1 0 (1+m):=by unfold hO;rw[CE q]
   rw[e2,e];exact⟨q1,q2⟩
  exact⟨D8 E g.ji o.ci 0 (1+m),.inr rfl⟩
 obtain⟨hM,F⟩:=hX;have O:=Fk j;generalize allocH w.a 0 (1+m)=r1 at *;generalize se w.a 0 (1+m)=r2 at *;obtain⟨Y,b,c⟩:=r1;obtain⟨X,a,d⟩:=r2;obtain⟨u,Z,xy,xn⟩:=hM;simp only at G N u Z xy xn F O l;have fs:=(u.fit (by rw[Z];exact D) (lf.of u.mail).sml).sml;have P:=f8 X fs;rw[gW,u.to]at P;have r:=Fk l;by_cases e:d=0
 ·subst e
  obtain⟨ha,k,lk,ek⟩:=xy rfl;have c4:=H5 X w.a.b k fs u.to lk ((Vq u.to lk).1 ek);refine fO 71 [] Tryz.func5 rfl ?_
  repeat'(first|refine gB ?_|refine CQ ω ?_|refine CU U ?_|refine Cl.sh G rfl ?_|refine Cl.sh N rfl ?_|refine CH (c4) ⟨⟨rfl,r⟩,⟨rfl,rfl⟩,trivial⟩ ?_|refine CH (P) ⟨⟨rfl,r⟩,trivial⟩ ?_)
  rfl
 have ha:=xn e;subst ha;obtain rfl:=F.resolve_left e;refine fO 71 [] Tryz.func5 rfl ?_
 repeat'(first|refine gB ?_|refine CQ ω ?_|refine CU U ?_|refine Cl.sh G rfl ?_|refine Cl.sh N rfl ?_|refine CH (P) ⟨⟨rfl,r⟩,trivial⟩ ?_)
 rfl
open Go.RowKit Go.ChangeShapes Go.WideShapes Go.Deep
def ALL(w:World):am:=λb _=>b<w.heap.size
def W4{H:Type}(e:TypeId × Value->H)(P:Program)(w:World)(t n:Nat)(enc:α->List C)(c:α->Prop):Prop:=
 ∀(fuel:Nat)(b:List Value)(x:DataW H × List MemPlace),DataW.trod e P w 0 (λ_=>true) true fuel t b=some x->b.length=n/\∃a,c a/\(enc a).length=n/\cN w (ALL w) NO (enc a) (λj=>b.getD j undef)
section
variable{H:Type}{e:TypeId × Value->H}{P:Program}{w:World}
variable{u:Nat->Value}
def Fw{S F:am}{c:C}(h:dZ w S F c (u 0)):cN w S F [c] u:=
 ⟨λ_=>F,λj e a=>by cases j with
   | zero=>simp at a;subst a;exact h
   | succ j=>simp at a,λ_ _ _ _ h=>h,λj f a b d=>by simp at a b;omega⟩
def pick{α β:Type}(n:Nat){Q:Nat->β->Prop}(h:∀i,i<n->∃b,Q i b):∃l:List β,l.length=n/\∀i b,l[i]? = some b->Q i b:=by
 induction n with
 | zero=>exact⟨[],rfl,λi b h=>by simp at h⟩
 | succ n c=>
  obtain⟨l,d,e⟩:=c λi a=>h i ω
  obtain⟨b,f⟩:=h n ω;refine⟨l++[b],by simp[d],λi g a=>?_⟩;by_cases j:i<n
  ·rw[Y5 ω]at a;exact e i g a
  rw[Z5 ω]at a;have:i - l.length=0:=by
   have:=(I3.1 a).1;simp at this;omega
  rw[this]at a;simp at a;subst a;rw[show i=n by omega];exact f
theorem Tg{t T n:Nat}{α:Type}{enc:α->List C}{U:α->Prop}(V:W4 e P w T n enc U)(ht:P.underlying t=some (.slice T))(hn:P.cellsOf T=n)(p:0<n) :
  W4 e P w t 1 (λxs:List α=>[.s .U (xs.map enc)]) (λxs=>xs.length<=9223372036854775807/\∀y∈xs,U y):=by
 intro fuel cs x h;rcases open_slice ht h with⟨rfl,-⟩|⟨k,len,cap,m,n',D,Pl,rfl,-,hl,hm,K,-,u⟩
 ·exact⟨rfl,[],⟨by simp,by simp⟩,rfl,Fw (.nil _ _ _ trivial)⟩
 simp only[if_true]at K;subst K;have L:0<m->k.spot=none:=λW=>by
  obtain⟨E,M,N⟩:=u 0 W;rw[hn]at M;obtain⟨_,X,F⟩:=World.cells?_some M;have:=F 0 p;rw[C3 ω]at this;have:=World.cell?_spot this;simpa[Addr.add] using this
 have key:∀i,i<len->∃a,U a/\(enc a).length=n/\(∀d,d<n->∃z,cel w k.block (k.off+(i*n+d))=some z)/\k.spot=none/\cN w (ALL w) NO (enc a) (λd=>(cel w k.block (k.off+(i*n+d))).getD undef):=λi hil=>by
  have g:=L ω;obtain⟨E,M,N⟩:=u i ω;rw[hn]at M;obtain⟨h1,a,h3,h4,h5⟩:=V _ _ _ N;obtain⟨_,X,F⟩:=World.cells?_some M;have O:∀d,k.add d = ⟨k.block,k.off+d,none⟩:=λd=>by
   obtain⟨b,o,sp⟩:=k;simp only at g;subst g;unfold Addr.add;split<;>simp_all
  have A:∀d,d<n->cel w k.block (k.off+(i*n+d))=E[d]?:=λd J=>by
   have:=F d J;rw[Go.Deep.add_add,O]at this;exact this
  refine⟨a,h3,h4,λd J=>⟨_,by rw[A d J,C3 ω]⟩,g,h5.congr λd J=>?_⟩;show(cel w k.block (k.off+(i*n+d))).getD undef=E.getD d undef;rw[A d ω,List.getD]
 obtain⟨l,Q,B⟩:=pick (α:=α) len key;refine⟨rfl,l,⟨by simp only[maxLen]at hm;omega,λy R=>?_⟩,rfl,Fw ?_⟩
 ·obtain⟨i,G⟩:=List.mem_iff_getElem?.1 R
  exact(B i y G).1
 show dZ w (ALL w) NO (.s .U (l.map enc)) (.slice (some k) len m);by_cases h0:len=0
 ·subst h0
  have:l=[]:=X9 Q;subst this;by_cases Y:m=0
  ·subst Y;exact .nil _ _ _ trivial
  have g:=L ω;obtain⟨b,o,sp⟩:=k;simp only at g;subst g;exact .U _ b o n 0 m [] (λ_=>undef) rfl (λr Z=>by simp at Z) hl (λq hq=>by simp at hq) (λi j r c u=>by simp at u)
 obtain⟨y0,hy0⟩ : ∃y,l[0]? = some y:=⟨_,C3 ω⟩
 have g:=(B 0 y0 hy0).2.2.2.1;obtain⟨b,o,sp⟩:=k;simp only at g;subst g;refine .U _ b o n len m (l.map enc) (λq=>(cel w b (o+q)).getD undef) (by simpa using Q) (λr Z=>?_) hl (λq hq=>?_) (λi j r c u hj=>?_)
 ·obtain⟨y,R,rfl⟩:=O5.1 Z
  obtain⟨i,G⟩:=List.mem_iff_getElem?.1 R;exact(B i y G).2.1
 ·have hqd:q / n<len:=(Nat.div_lt_iff_lt_mul p).2 hq
  obtain⟨y,R⟩ : ∃y,l[q / n]? = some y:=⟨_,C3 ω⟩
  obtain⟨z,S⟩:=(B _ y R).2.2.1 (q % n) (Nat.mod_lt _ p);have J:q / n*n+q % n=q:=by rw[Nat.mul_comm];exact Nat.div_add_mod q n
  rw[J]at S;exact⟨VB S,by simp only at S |-;rw[S];rfl⟩
 rw[z4]at u;cases H:l[i]? with
 | none=>rw[H]at u;cases u
 | some y=>
  rw[H]at u;simp only[I7,I1]at u;subst u;obtain⟨f,h1,h2,-⟩:=(B i y H).2.2.2.2;have hjl:=(I3.1 hj).1;exact(h1 j c hj).mono (λ_ _ h=>h) (h2 j hjl)
def row_val{S F:am}{x:Value}(h:cN w S F [.v x] u):u 0=x:=by
 obtain⟨f,a,-⟩:=h;have:=a 0 _ rfl;cases this
 rfl
end
open Go.RowKit Go.ChangeShapes Go.WideShapes
section
variable{H:Type}{e:TypeId × Value->H}{P:Program}{w:World}
def TR{t:Nat}(b:P.underlying t=some (.int .u8)):W4 e P w t 1 rU (λz=>0<=z/\z<=255):=by
 intro fuel c x h;obtain⟨n,rfl,-,a⟩:=DataW.trod_int b h;refine⟨rfl,n,?_,rfl,Fw (.v _ _ rfl)⟩;simp only[Lit.wf,I0,C0]at a;exact a
def op_ByteS:W4 e Tryz.prog w 22 1 (λzs:List Int=>[.s .U (zs.map rU)]) (λzs=>zs.length<=9223372036854775807/\∀y∈zs,0<=y/\y<=255):=Tg (TR Tryz.underlying5) Tryz.underlying22 (by kernel_rfl) (by decide)
end
end Go.Proofs.YtiopgblagimpmaaGreat.Ab
