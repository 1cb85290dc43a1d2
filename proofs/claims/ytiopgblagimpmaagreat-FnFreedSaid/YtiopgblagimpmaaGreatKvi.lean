/- Jobs: what objects hold is kept at every step. No condition. -/
import Derived.Test.YtiopgblagimpmaaGreatKvd
import Derived.Test.YtiopgblagimpmaaGreatKvh
import Derived.Test.YtiopgblagimpmaaGreatKvf
import Derived.Test.YtiopgblagimpmaaGreatKvg
import Derived.Test.YtiopgblagimpmaaGreatKve
import Derived.Test.YtiopgblagimpmaaGreatKvc
import Derived.Laws.StructEq
import Derived.ProofKit
import Derived.OpenShut
import Derived.Deep.Slices
import Derived.Deep.Fields
import Derived.ChangeSame
import Derived.WideShapes
set_option linter.unusedVariables false
set_option linter.defProp false
set_option linter.unusedSimpArgs false
set_option linter.constructorNameAsVariable false
namespace Go.Proofs.YtiopgblagimpmaaGreat.Ab
structure JP(h:ab):Prop where
 km:(ac (tbl h) h.Z.Y.a5).j≠0
 mm:(ac (tbl h) h.Z.Y.a4).j≠0
 kf:(ac (tbl h) h.Z.Y.a5).e=(bL h.G h.Z.Y.a5:Nat)
 mf:(ac (tbl h) h.Z.Y.a4).e=(bL h.G h.Z.Y.a4:Nat)
 ne:bL h.G h.Z.Y.a5≠bL h.G h.Z.Y.a4
 pe:h.Z.Y.a5≠h.Z.Y.a4
 k2:CI h->(ac (tbl h) h.Z.Y.a5).j≠1
variable{E:List Int}{h:ab}
def JP.of(g:aT h E)(i:JI h)(j:h.u=true):JP h:=by
 obtain⟨k,b⟩:=g.jobM j;have a:=(d4.1 (g.job j).1).1;unfold eR at a;simp only[I0,C0]at a;have c:=a.2.2.2.2.2;have l:=l7 g.ker k;have n:=l7 g.ker b;obtain⟨t,u,o⟩:=mR k;obtain⟨w,y,q⟩:=mR b;refine⟨k,b,l,n,λe=>c ?_,c,λr p=>?_⟩
 ·have d:(ac (tbl h) h.Z.Y.a5).e=(bL h.G h.Z.Y.a5:Nat):=l
  have f:(ac (tbl h) h.Z.Y.a4).e=(bL h.G h.Z.Y.a4:Nat):=n;rw[o]at d;rw[q]at f b;have:=i.sk j h.Z.Y.a4.toNat b (by rw[d,f,e]);omega
 rw[o]at p;have:=(r.m1 _ p).2.1;omega
def hJ(h:ab)(k:ah)(j:cL):ab:={h with G:=k,u:=true,Z:=j}
def hE(h:ab)(k:ah):ab:={h with G:=k,u:=false,Z:=⟨⟨0,0,[]⟩,0,0⟩}
def Pk(a:h.u=true):mStep h=if over (gR h.G h.Z).2=true then hE h (gR h.G h.Z).1 else hJ h (gR h.G h.Z).1 (gR h.G h.Z).2:=by
 unfold mStep hE hJ;split
 ·rfl
 rw[a]
variable{h':ab}
def wa(g:aT h E)(l:h'.M=h.M)(n:∀p,(ac (tbl h) p).j≠0->(ac (tbl h') p).j≠0/\(ac (tbl h') p).e=(ac (tbl h) p).e)(q:∀o∈h.M,∀f c,qr h o f c->cl h'.G f c=cl h.G f c):Kp h h':=λo e=>by
 rw[l]at e;refine⟨e,λj i r=>?_⟩;have b:=(cT g e (k:=j) ⟨i,ω⟩).1;have a:=At.mk' g.ker b;obtain⟨t,u⟩:=n _ b;have d:At h'.G (o.Addr+j) (co h.G (o.Addr+j)) ((o.Addr+j) % 16).toNat:=⟨t,u.trans a.f,a.c⟩
 rw[d.cell,a.cell];exact q o e _ _ ⟨j,i,r,a⟩
variable{f c:Nat}{o:aY}
def yw(b:∀p,(ac (tbl h) p).j≠0->(ac (tbl h') p).j≠0/\(ac (tbl h') p).e=(ac (tbl h) p).e)(d:qr h o f c):qr h' o f c:=by
 obtain⟨j,e,g,a⟩:=d;obtain⟨i,k⟩:=b _ a.m;exact⟨j,e,g,i,k.trans a.f,a.c⟩
variable{p:Int}{k:ah}
def sF{m:Int}(b:(ac k.F.R p).j≠0)(q:Int):ac (jj k p m).F.R q=if q=p then {ac k.F.R p with j:=m} else ac k.F.R q:=by
 obtain⟨c,d,g⟩:=mR b;have f:(jj k p m).F.R.O.length=k.F.R.O.length:=by unfold jj;simp
 unfold ac;rw[f];by_cases e:0<=q/\q<k.F.R.O.length
 ·rw[CC e,CC e]
  unfold jj;simp only[bw];by_cases a:q=p
  ·rw[CC a,CC ⟨ω,ω⟩,CC ⟨c,d⟩]
  rw[C9 a,C9 ω]
 rw[C9 e,C9 e,C9 ω]
def GS{t:aI}{q:Nat}(h:(nth t.O q).j≠0):ac t (q:Int)=nth t.O q:=by
 have:=td h;unfold ac;rw[CC ⟨ω,ω⟩];rfl
def CI.ended(l:aT h E)(n:CI h)(u:h.u=true)(r:h.Z.b=0)(g:∀f c,cl k f c=cl h.G f c)(i:∀p,(ac (tbl h) p).j≠0->(ac k.F.R p).j≠0/\(ac k.F.R p).e=(ac (tbl h) p).e)(h1:∀q:Nat,(nth k.F.R.O q).j≠1):CI (hE h k)/\Kp h (hE h k):=by
 refine⟨⟨λf c a b=>?_,λe=>(by cases e),λe=>(by cases e),λe=>(by cases e),λe=>(by cases e),λq t=>absurd t (h1 q),λe=>(by cases e)⟩,wa l rfl i λo j f c _=>g f c⟩;change cl k f c≠0 at b;rw[g]at b;rcases n.z f c a b with⟨o,j,d⟩|⟨-,-,e⟩
 ·exact .inl ⟨o,j,yw i d⟩
 rw[r]at e;cases e
def HL{p:cC}(h:eR p=true){i:Nat} : ∀{j:Nat},i<j->j<p.U.length->nth p.U i<nth p.U j
 | 0,a,_=>absurd a (Nat.not_lt_zero i)
 | j+1,a,d=>by
  have b:=h;unfold eR at b;simp only[I0]at b;have c:=eZ b.1 d;unfold mw at c;rw[C0]at c;have f:nth p.U j<nth p.U (j+1):=c.2.2.resolve_left ω;by_cases e:i=j
  ·rw[e];exact f
  have:=HL h (i:=i) (j:=j) ω ω;omega
def qV(k:ah)(a:Nat)(b v:Int)(f c:Nat):cl (setCell k a b v) f c=cl k f c\/(cl (setCell k a b v) f c=v/\f=a/\c=b.toNat):=by
 unfold cl setCell;simp only[bw];by_cases e:a=f/\f<k.F.W.U.length
 ·rw[CC e,bw]
  by_cases d:b.toNat=c/\c<(nth k.F.W.U a).length
  ·rw[CC d];exact .inr ⟨rfl,e.1.symm,d.1.symm⟩
  rw[C9 d,e.1];exact .inl rfl
 rw[C9 e];exact .inl rfl
variable{v:Int}
def qn(c:aA k=true){a:Int}(e:(ac k.F.R p).j≠0)(g:0<=a/\a<=15):cl (setCell k (bL k p) a v) (bL k p) a.toNat=v:=by
 have d:=(gC c e).1;have b:=(tV c (f:=bL k p) d).1;unfold cl setCell;show nth (nth (List.set _ _ _) _) _=v;rw[bw];rw[CC ⟨rfl,d⟩,bw,CC ⟨rfl,by rw[b];omega⟩]
def F6{b:Int}{j:cL}(d:qr h o f c):qr (hJ h (setCell h.G (bL h.G p) b v) j) o f c:=by
 obtain⟨x,e,g,a⟩:=d;exact⟨x,e,g,⟨a.m,a.f,a.c⟩⟩
def Ju{j:cL}(a:aT h [])(b:JI h)(q:CI h)(l:h.u=true)(r:JP h){d:Int}(n:d∈h.Z.Y.U)(v:Int):Kp h (hJ h (setCell h.G (bL h.G h.Z.Y.a5) d v) j):=by
 obtain⟨k,t,e⟩:=aM n;have u:=fZ (d4.1 (a.job l).1).1 t;refine wa a rfl (λp w=>⟨w,rfl⟩) λo y f c i=>?_
 rcases qV h.G (bL h.G h.Z.Y.a5) d v f c with g|⟨-,A,B⟩
 ·exact g
 exfalso;refine sf a b q l (jC a y i) ω ?_ (by rw[A];exact r.kf);rw[B,Int.toNat_of_nonneg ω];exact n
def CI.copied(r:aT h [])(t:JI h)(b:CI h)(k:h.u=true)(n:JP h)(N:h.Z.b2=1)(O:0<=h.Z.b/\h.Z.b<h.Z.Y.U.length):CI (hJ h (ss h.G h.Z.Y.a4 h.Z.Y.a5 (nth h.Z.Y.U h.Z.b.toNat)) {h.Z with b:=h.Z.b+1})/\Kp h (hJ h (ss h.G h.Z.Y.a4 h.Z.Y.a5 (nth h.Z.Y.U h.Z.b.toNat)) {h.Z with b:=h.Z.b+1}):=by
 have d:h.Z.b.toNat<h.Z.Y.U.length:=ω
 have l:=am d;have u:=fZ (d4.1 (r.job k).1).1 d;have i:h.Z.Y.U.take (h.Z.b+1).toNat=h.Z.Y.U.take h.Z.b.toNat++[nth h.Z.Y.U h.Z.b.toNat]:=by
  rw[show(h.Z.b+1).toNat=h.Z.b.toNat+1 by omega,V5,ao d];rfl
 unfold ss;have w:=qn r.ker (p:=h.Z.Y.a5) (v:=nth (nth h.G.F.W.U (bL h.G h.Z.Y.a4)) (nth h.Z.Y.U h.Z.b.toNat).toNat) n.km u;have j:=qV h.G (bL h.G h.Z.Y.a5) (nth h.Z.Y.U h.Z.b.toNat) (nth (nth h.G.F.W.U (bL h.G h.Z.Y.a4)) (nth h.Z.Y.U h.Z.b.toNat).toNat);refine⟨⟨λf c y H=>?_,λ_ c a=>?_,λ_=>b.jd k,λ_=>b.jc k,λ_=>⟨λe=>absurd e (by show ¬h.Z.b2=0;omega),λe=>absurd e (by show ¬h.Z.b2=2;omega)⟩,λq J=>?_,λ_ _=>b.m2 k ω⟩,Ju r t b k n l _⟩
 ·rcases j f c with g|⟨-,A,B⟩
  ·have C:cl h.G f c≠0:=by rw[<-g];exact H
   rcases b.z f c y C with⟨o,K,L⟩|⟨M,D,E⟩
   ·exact .inl ⟨o,K,F6 L⟩
   refine .inr ⟨rfl,D,?_⟩;show(c:Int)∈h.Z.Y.U.take (h.Z.b+1).toNat;rw[i];exact C3.2 (.inl E)
  refine .inr ⟨rfl,?_,?_⟩
  ·show(ac (tbl h) h.Z.Y.a5).e=f;rw[A];exact n.kf
  show(c:Int)∈h.Z.Y.U.take (h.Z.b+1).toNat;rw[i,B,Int.toNat_of_nonneg ω];exact C3.2 (.inr (O1.2 rfl))
 ·change (c:Int)∈h.Z.Y.U.take (h.Z.b+1).toNat at a
  show cl (setCell h.G (bL h.G h.Z.Y.a5) _ _) (bL h.G h.Z.Y.a5) c=cl (setCell h.G (bL h.G h.Z.Y.a5) _ _) (bL h.G h.Z.Y.a4) c;have F:cl (setCell h.G (bL h.G h.Z.Y.a5) (nth h.Z.Y.U h.Z.b.toNat) (nth (nth h.G.F.W.U (bL h.G h.Z.Y.a4)) (nth h.Z.Y.U h.Z.b.toNat).toNat)) (bL h.G h.Z.Y.a4) c=cl h.G (bL h.G h.Z.Y.a4) c:=by
   rcases j (bL h.G h.Z.Y.a4) c with g|⟨-,A,-⟩
   ·exact g
   exact absurd A.symm n.ne
  rw[F];by_cases G:(c:Int)=nth h.Z.Y.U h.Z.b.toNat
  ·have:c=(nth h.Z.Y.U h.Z.b.toNat).toNat:=ω
   rw[this,w];rfl
  rw[i]at a;rcases C3.1 a with a|a
  ·rcases j (bL h.G h.Z.Y.a5) c with g|⟨-,-,B⟩
   ·rw[g];exact b.jv k c a
   exact absurd (by rw[B,Int.toNat_of_nonneg ω]) G
  exact absurd (O1.1 a) G
 obtain⟨M,D,E⟩:=b.m1 q J;exact⟨rfl,D,E⟩
def CI.undone(y:aT h [])(A:JI h)(b:CI h)(r:h.u=true)(l:JP h)(p3:h.Z.b2=3)(hp:0<h.Z.b):CI (hJ h {h.G with F:=(iL h.G.F (h.Z.Y.a5*16+nth h.Z.Y.U (h.Z.b - 1).toNat) 0).1} {h.Z with b:=h.Z.b - 1})/\Kp h (hJ h {h.G with F:=(iL h.G.F (h.Z.Y.a5*16+nth h.Z.Y.U (h.Z.b - 1).toNat) 0).1} {h.Z with b:=h.Z.b - 1}):=by
 obtain⟨t,-,-,n0,n1⟩:=d4.1 (y.job r).1;have a:(h.Z.b - 1).toNat<h.Z.Y.U.length:=ω
 have u:=am a;have B:=fZ t a;have O:=(mR l.km).1;have P:(h.Z.Y.a5*16+nth h.Z.Y.U (h.Z.b - 1).toNat) / 16=h.Z.Y.a5:=ω
 have Q:(h.Z.Y.a5*16+nth h.Z.Y.U (h.Z.b - 1).toNat) % 16=nth h.Z.Y.U (h.Z.b - 1).toNat:=ω
 have C:(ac h.G.F.R h.Z.Y.a5).j≠0:=l.km;have D:(ac h.G.F.R h.Z.Y.a5).j≠1:=l.k2 b;have R:({h.G with F:=(iL h.G.F (h.Z.Y.a5*16+nth h.Z.Y.U (h.Z.b - 1).toNat) 0).1} : ah)=setCell h.G (bL h.G h.Z.Y.a5) (nth h.Z.Y.U (h.Z.b - 1).toNat) 0:=by
  unfold iL;rw[P,Q,C9 C,C9 D]
  rfl
 rw[R];have n:=qV h.G (bL h.G h.Z.Y.a5) (nth h.Z.Y.U (h.Z.b - 1).toNat) 0;have w:h.Z.Y.U.take h.Z.b.toNat=h.Z.Y.U.take (h.Z.b - 1).toNat++[nth h.Z.Y.U (h.Z.b - 1).toNat]:=by
  rw[show h.Z.b.toNat=(h.Z.b - 1).toNat+1 by omega,V5,ao a];rfl
 have E:nth h.Z.Y.U (h.Z.b - 1).toNat∉h.Z.Y.U.take (h.Z.b - 1).toNat:=λF=>by
  obtain⟨k,S,T⟩:=aM F;rw[V1]at S;have G:nth (h.Z.Y.U.take (h.Z.b - 1).toNat) k=nth h.Z.Y.U k:=by
   refine bg ?_;rw[List.getElem?_take,CC ω];exact ao ω
  rw[G]at T;have:=HL t (i:=k) (j:=(h.Z.b - 1).toNat) ω a;omega
 refine⟨⟨λf c H J=>?_,λ_ c p=>?_,λ_=>b.jd r,λ_=>b.jc r,λ_=>⟨λe=>absurd e (by show ¬h.Z.b2=0;omega),λe=>absurd e (by show ¬h.Z.b2=2;omega)⟩,λq U=>?_,λ_ _=>b.m2 r ω⟩,Ju y A b r l u _⟩
 ·rcases n f c with g|⟨V,-,-⟩
  ·have K:cl h.G f c≠0:=by rw[<-g];exact J
   rcases b.z f c H K with⟨o,W,X⟩|⟨Y,L,d⟩
   ·exact .inl ⟨o,W,F6 X⟩
   rw[w]at d;rcases C3.1 d with d|d
   ·exact .inr ⟨rfl,L,d⟩
   exfalso;have ec:=O1.1 d;have M:f=bL h.G h.Z.Y.a5:=by have:=l.kf;omega
   refine J ?_;show cl (setCell h.G (bL h.G h.Z.Y.a5) _ 0) f c=0;rw[M,show c=(nth h.Z.Y.U (h.Z.b - 1).toNat).toNat by omega];exact qn y.ker l.km B
  exact absurd V J
 ·change (c:Int)∈h.Z.Y.U.take (h.Z.b - 1).toNat at p
  show cl (setCell h.G (bL h.G h.Z.Y.a5) _ 0) (bL h.G h.Z.Y.a5) c=cl (setCell h.G (bL h.G h.Z.Y.a5) _ 0) (bL h.G h.Z.Y.a4) c;have N:cl (setCell h.G (bL h.G h.Z.Y.a5) (nth h.Z.Y.U (h.Z.b - 1).toNat) 0) (bL h.G h.Z.Y.a4) c=cl h.G (bL h.G h.Z.Y.a4) c:=by
   rcases n (bL h.G h.Z.Y.a4) c with g|⟨-,Z,-⟩
   ·exact g
   exact absurd Z.symm l.ne
  rw[N];rcases n (bL h.G h.Z.Y.a5) c with g|⟨-,-,g2⟩
  ·rw[g]
   exact b.jv r c (by rw[w];exact C3.2 (.inl p))
  exact absurd (by rw[show nth h.Z.Y.U (h.Z.b - 1).toNat=(c:Int) by omega];exact p) E
 obtain⟨Y,L,d⟩:=b.m1 q U;exact⟨rfl,L,d⟩
def CI.meshed(F:aT h [])(D:JI h)(G:CI h)(H:h.u=true)(d:JP h)(hn:h.Z.b=h.Z.Y.U.length)(L:h.G.Calls≠100000)(R:(vJ h.G h.Z.Y.a4 h.Z.Y.a5).2=true):CI (hE h (vJ h.G h.Z.Y.a4 h.Z.Y.a5).1)/\Kp h (hE h (vJ h.G h.Z.Y.a4 h.Z.Y.a5).1):=by
 have A:=Jd F.ker (p:=h.Z.Y.a4) (o:=h.Z.Y.a5) d.mm R;obtain⟨m1,m2,m3⟩:=mR d.mm;obtain⟨k1,k2,k3⟩:=mR d.km;have M:=(A 0).1;generalize N:(vJ h.G h.Z.Y.a4 h.Z.Y.a5).1=K at *;have J:∀q:Int,ac K.F.R q=if q=h.Z.Y.a4 then⟨2,(ac (tbl h) h.Z.Y.a5).e⟩ else ac (tbl h) q:=λq=>by
  unfold ac;rw[M];by_cases e:0<=q/\q<h.G.F.R.O.length
  ·rw[CC e,(A q.toNat).2]
   by_cases B:q=h.Z.Y.a4
   ·rw[CC B,CC ω,CC ⟨k1,k2⟩];rfl
   rw[C9 B,C9 ω,CC (show 0<=q/\q<(tbl h).O.length from e)];rfl
  rw[C9 e,C9 (show ¬q=h.Z.Y.a4 by unfold tbl at m2;omega),C9 (show ¬(0<=q/\q<(tbl h).O.length) from e)]
 have l:∀f c,cl K f c=cl h.G f c\/(cl K f c=0/\f=bL h.G h.Z.Y.a4):=λf c=>by
  unfold vJ at N R;by_cases e:refd h.G=true
  ·rw[CC e]at R;cases R
  rw[C9 e]at N;simp only at N;rw[<-N];rcases Jl (vI (bY h.G) h.Z.Y.a4.toNat ⟨2,(nth (bY h.G).F.R.O h.Z.Y.a5.toNat).e⟩) (nth (bY h.G).F.R.O h.Z.Y.a4.toNat).e f c with g|⟨S,T,-⟩
  ·exact .inl g
  refine .inr ⟨S,?_⟩;rw[<-T];have h3:nth (bY h.G).F.R.O h.Z.Y.a4.toNat=ac h.G.F.R h.Z.Y.a4:=m3.symm;rw[h3];rfl
 have n:h.Z.Y.U.take h.Z.b.toNat=h.Z.Y.U:=I7 ω;have O:∀p:Int,(ac (tbl h) p).j≠0->(ac (tbl h) p).e=(bL h.G h.Z.Y.a4:Nat)->p=h.Z.Y.a4:=λp j C=>by
  obtain⟨p1,p2,p3⟩:=mR j;have P:=d.mf;rw[p3]at j C;rw[m3]at P;have:=D.sm H p.toNat j (by rw[C,P]);omega
 have U:∀c,cl K (bL h.G h.Z.Y.a5) c=cl h.G (bL h.G h.Z.Y.a5) c:=λc=>by
  rcases l (bL h.G h.Z.Y.a5) c with g|⟨-,g⟩
  ·exact g
  exact absurd g d.ne
 have place:∀o∈h.M,∀x:Int,0<=x->x<o.o->∀f c:Nat,At h.G (o.Addr+x) f c->(f≠bL h.G h.Z.Y.a4->At K (o.Addr+x) f c)/\(f=bL h.G h.Z.Y.a4->At K (o.Addr+x) (bL h.G h.Z.Y.a5) c/\(c:Int)∈h.Z.Y.U):=λo r x u w f c a=>by
  constructor
  ·intro hne
   have j:(o.Addr+x) / 16≠h.Z.Y.a4:=λe=>by
    have:=a.f;rw[e]at this;have h3:(ac h.G.F.R h.Z.Y.a4).e=_:=d.mf;omega
   exact⟨by rw[J,C9 j];exact a.m,by rw[J,C9 j];exact a.f,a.c⟩
  intro he;have j:=O _ a.m (by rw[<-he];exact a.f);refine⟨⟨by rw[J,CC j];show(2:Int)≠0;decide,by rw[J,CC j];exact d.kf,a.c⟩,?_⟩;obtain⟨-,-,b,hb,-,V,-⟩:=D.sp H;have y:c<16:=by have:=a.c;omega
  obtain⟨e1,B,-⟩:=x6 F (jC F r ⟨x,u,w,a⟩) hb (by rw[V];exact D.sm H) (by rw[V,he];exact d.mf);refine G.jc H b hb V c y ?_;rw[B];exact e1.2.2.2
 refine⟨⟨λf c y E=>?_,λe=>(by cases e),λe=>(by cases e),λe=>(by cases e),λe=>(by cases e),λq hq=>?_,λe=>(by cases e)⟩,λo r=>⟨r,λx u w=>?_⟩⟩
 ·change cl K f c≠0 at E
  rcases l f c with g|⟨g,-⟩
  rotate_left
  ·exact absurd g E
  rw[g]at E;have W:f≠bL h.G h.Z.Y.a4:=λe=>by
   refine E ?_;rw[<-g,e];have X:aA K=true:=by
    rw[<-N];exact Me F.ker L d.mm d.km (Ne.symm d.pe)
   refine oM X (λp j C=>?_) c;rw[J]at j C;by_cases B:p=h.Z.Y.a4
   ·rw[CC B]at C
    have h1:(ac (tbl h) h.Z.Y.a5).e=(bL h.G h.Z.Y.a4:Nat):=C;have h2:=d.kf;exact d.ne ω
   rw[C9 B]at j C;exact B (O p j C)
  rcases G.z f c y E with⟨o,r,x,u,w,a⟩|⟨-,q2,q3⟩
  ·exact .inl ⟨o,r,x,u,w,(place o r x u w f c a).1 W⟩
  rw[n]at q3;have Q:f=bL h.G h.Z.Y.a5:=by have:=d.kf;omega
  rw[Q,G.jv H c (by rw[n];exact q3)]at E;rcases G.z _ c y E with⟨o,r,x,u,w,a⟩|⟨-,r2,-⟩
  ·exact .inl ⟨o,r,x,u,w,by rw[Q];exact((place o r x u w _ c a).2 rfl).1⟩
  exact absurd (by have:=d.kf;omega) d.ne
 ·have i:(nth K.F.R.O q).j=1:=hq
  have:=GS (t:=K.F.R) (q:=q) (by rw[i];decide);rw[J]at this;by_cases e:(q:Int)=h.Z.Y.a4
  ·rw[CC e]at this
   rw[<-this]at i;exact absurd i (by show ¬(2:Int)=1;decide)
  rw[C9 e]at this;rw[<-this]at i;obtain⟨a1,a2,a3⟩:=mR (t:=tbl h) (p:=(q:Int)) (by rw[i];decide);rw[a3]at i;exact absurd (by have:=(G.m1 _ i).2.1;omega) e
 have Y:=(cT F r (k:=x) ⟨u,ω⟩).1;have a:=At.mk' F.ker Y;obtain⟨S,T⟩:=place o r x u w _ _ a;show eU K (o.Addr+x)=eU h.G (o.Addr+x);by_cases e:co h.G (o.Addr+x)=bL h.G h.Z.Y.a4
 ·obtain⟨Z,g4⟩:=T e
  rw[Z.cell,a.cell,U,e];exact G.jv H _ (by rw[n];exact g4)
 have Z:=S e;rw[Z.cell,a.cell];rcases l (co h.G (o.Addr+x)) ((o.Addr+x) % 16).toNat with g|⟨-,g⟩
 ·exact g
 exact absurd g e
def CI.mStep{h:ab}(w:aT h [])(l:JI h)(a:CI h)(d:h.u=true):CI (mStep h)/\Kp h (mStep h):=by
 have C:=JP.of w l d;have Z:=l.ph d;obtain⟨jn0,jn2⟩:=a.jn d;obtain⟨-,-,-,n0,n1⟩:=d4.1 (w.job d).1;rw[Pk d];have stay:∀(k:ah)(j:cL),k.F=h.G.F->j.Y=h.Z.Y->j.b=h.Z.b->(j.b2=0↔h.Z.b2=0)->(j.b2=2->j.b=j.Y.U.length)->CI (hJ h k j)/\Kp h (hJ h k j):=λk j M u N O e5=>by
  have J:tbl (hJ h k j)=tbl h:=by unfold tbl hJ;rw[M]
  have L:∀f c,cl k f c=cl h.G f c:=λf c=>by unfold cl;rw[M]
  have D:∀o f c,qr h o f c->qr (hJ h k j) o f c:=λo f c=>yw (λp E=>by rw[J];exact⟨E,rfl⟩)
  refine⟨⟨λf c F K=>?_,λ_ c g=>?_,λ_=>?_,λ_=>?_,λ_=>⟨λe=>?_,e5⟩,λq i=>?_,λ_ e=>?_⟩,wa w rfl (λp E=>by rw[J];exact⟨E,rfl⟩) λo _ f c _=>L f c⟩
  ·change cl k f c≠0 at K
   rw[L]at K;rcases a.z f c F K with⟨o,P,Q⟩|⟨q1,R,G⟩
   ·exact .inl ⟨o,P,D o f c Q⟩
   refine .inr ⟨rfl,?_,?_⟩
   ·rw[J];show(ac (tbl h) j.Y.a5).e=f;rw[u];exact R
   show(c:Int)∈j.Y.U.take j.b.toNat;rw[u,N];exact G
  ·change (c:Int)∈j.Y.U.take j.b.toNat at g
   show cl k (bL k j.Y.a5) c=cl k (bL k j.Y.a4) c;rw[u,N]at g;rw[u,L,L];unfold bL;rw[M];exact a.jv d c g
  ·show ∀s∈h.K,s.Q=j.Y.a5->_
   rw[show(hJ h k j).Z.Y=h.Z.Y from u,u];exact a.jd d
  ·show ∀s∈h.K,s.Q=j.Y.a4->_
   rw[show(hJ h k j).Z.Y=h.Z.Y from u,u];exact a.jc d
  ·exact(show j.b=h.Z.b from N).trans (jn0 (O.1 e))
  ·rw[J]at i
   obtain⟨q1,R,G⟩:=a.m1 q i;exact⟨rfl,by show(q:Int)=j.Y.a4;rw[u];exact R,λe=>G (O.1 e)⟩
  rw[J];show(ac (tbl h) j.Y.a4).j=1;rw[u];exact a.m2 d λx=>e (O.2 x)
 have prot:∀H:Int,H=1\/H=2->∀p,(ac (tbl h) p).j≠0->(ac (jj (bY h.G) h.Z.Y.a4 H).F.R p).j≠0/\(ac (jj (bY h.G) h.Z.Y.a4 H).F.R p).e=(ac (tbl h) p).e:=λH hmo p E=>by
  rw[sF (k:=bY h.G) C.mm];by_cases e:p=h.Z.Y.a4
  ·rw[CC e,e]
   exact⟨by show H≠0;omega,rfl⟩
  rw[C9 e];exact⟨E,rfl⟩
 unfold gR;by_cases b:jmay h.G h.Z=true;rotate_left
 ·rw[C9 b]
  rw[C9 (by rw[show over (h.G,h.Z).2=over h.Z from rfl,show over h.Z=false from U0 ω];decide)];exact stay h.G h.Z rfl rfl rfl Iff.rfl jn2
 rw[CC b];unfold jstep;by_cases A:h.Z.b2=0
 ·rw[CC A]
  have n:=jn0 A;simp only;unfold jR;by_cases B:refd h.G=true
  ·rw[CC B]
   simp only[Bool.false_eq_true,if_false];rw[CC (show over {h.Z with b2:=5} = true from O0 (.inr rfl))];refine CI.ended w a d n (λ_ _=>rfl) (λp E=>⟨E,rfl⟩) λq i=>(a.m1 q i).2.2 A
  rw[C9 B];simp only[if_true];rw[C9 (by rw[show over {h.Z with b2:=1} = false from U0 (by show ¬((1:Int)=4\/(1:Int)=5);decide)];decide)];have D:∀o f c,qr h o f c->qr (hJ h (jj (bY h.G) h.Z.Y.a4 1) {h.Z with b2:=1}) o f c:=λo f c=>yw (prot 1 (.inl rfl))
  refine⟨⟨λf c F K=>?_,λ_ c g=>?_,λ_=>a.jd d,λ_=>a.jc d,λ_=>⟨λe=>absurd e (by show ¬(1:Int)=0;decide),λe=>absurd e (by show ¬(1:Int)=2;decide)⟩,λq i=>?_,λ_ _=>?_⟩,wa w rfl (prot 1 (.inl rfl)) λ_ _ _ _ _=>rfl⟩
  ·rcases a.z f c F K with⟨o,P,Q⟩|⟨-,-,G⟩
   ·exact .inl ⟨o,P,D o f c Q⟩
   rw[n]at G;cases G
  ·change (c:Int)∈h.Z.Y.U.take h.Z.b.toNat at g
   rw[n]at g;cases g
  ·refine⟨rfl,?_,by show ¬(1:Int)=0;decide⟩
   show(q:Int)=h.Z.Y.a4;refine Classical.byContradiction λS=>?_
   have y:(nth (jj (bY h.G) h.Z.Y.a4 1).F.R.O q).j=1:=i;have:=GS (t:=(jj (bY h.G) h.Z.Y.a4 1).F.R) (q:=q) (by rw[y];decide);rw[sF (k:=bY h.G) C.mm,C9 S]at this;rw[<-this]at y;obtain⟨a1,a2,T⟩:=mR (t:=tbl h) (p:=(q:Int)) (by show(ac h.G.F.R q).j≠0;have:(ac h.G.F.R q).j=1:=y;rw[this];decide);have r:(ac (tbl h) q).j=1:=y;rw[T]at r;exact(a.m1 _ r).2.2 A
  show(ac (jj (bY h.G) h.Z.Y.a4 1).F.R h.Z.Y.a4).j=1;rw[sF (k:=bY h.G) C.mm,CC rfl]
 rw[C9 A];by_cases U:h.Z.b2=1
 ·rw[CC U]
  by_cases V:h.Z.b=h.Z.Y.U.length
  ·rw[CC V]
   simp only;rw[C9 (by rw[show over {h.Z with b2:=2} = false from U0 (by show ¬((2:Int)=4\/(2:Int)=5);decide)];decide)];exact stay h.G {h.Z with b2:=2} rfl rfl rfl ⟨λe=>absurd e (by show ¬(2:Int)=0;decide),λe=>absurd e A⟩ λ_=>V
  rw[C9 V];simp only;rw[C9 (by rw[show over {h.Z with b:=h.Z.b+1} = false from U0 (by show ¬(h.Z.b2=4\/h.Z.b2=5);omega)];decide)];exact CI.copied w l a d C U ω
 rw[C9 U];by_cases W:h.Z.b2=2
 ·rw[CC W]
  simp only;cases B:(vJ h.G h.Z.Y.a4 h.Z.Y.a5).2 with
  | false=>
   simp only[Bool.false_eq_true,if_false];rw[C9 (by rw[show over {h.Z with b2:=3} = false from U0 (by show ¬((3:Int)=4\/(3:Int)=5);decide)];decide)];rw[Ms B];exact stay (bY h.G) {h.Z with b2:=3} rfl rfl rfl ⟨λe=>absurd e (by show ¬(3:Int)=0;decide),λe=>absurd e A⟩ λe=>absurd e (by show ¬(3:Int)=2;decide)
  | true=>
   rw[CC rfl];rw[CC (show over {h.Z with b2:=4} = true from O0 (.inl rfl))];exact CI.meshed w l a d C (jn2 W) (by unfold jmay at b;simp only[I0,C0]at b;exact b.1.2) B
 rw[C9 W];have Y:h.Z.b2=3:=ω
 rw[CC Y];by_cases X:0<h.Z.b
 ·rw[CC X]
  simp only;rw[C9 (by rw[show over {h.Z with b:=h.Z.b - 1} = false from U0 (by show ¬(h.Z.b2=4\/h.Z.b2=5);omega)];decide)];exact CI.undone w l a d C Y X
 rw[C9 X];have n:h.Z.b=0:=ω
 simp only;unfold jR;by_cases B:refd h.G=true
 ·rw[CC B]
  simp only[Bool.false_eq_true,if_false];rw[C9 (by rw[show over {h.Z with b2:=3} = false from U0 (by show ¬((3:Int)=4\/(3:Int)=5);decide)];decide)];exact stay (bY h.G) {h.Z with b2:=3} rfl rfl rfl ⟨λe=>absurd e (by show ¬(3:Int)=0;decide),λe=>absurd e A⟩ λe=>absurd e (by show ¬(3:Int)=2;decide)
 rw[C9 B];simp only[if_true];rw[CC (show over {h.Z with b2:=5} = true from O0 (.inr rfl))];refine CI.ended w a d n (λ_ _=>rfl) (prot 2 (.inr rfl)) λq i=>?_
 have:=GS (t:=(jj (bY h.G) h.Z.Y.a4 2).F.R) (q:=q) (by rw[i];decide);rw[sF (k:=bY h.G) C.mm]at this;by_cases e:(q:Int)=h.Z.Y.a4
 ·rw[CC e]at this
  rw[<-this]at i;exact absurd i (by show ¬(2:Int)=1;decide)
 rw[C9 e]at this;rw[<-this]at i;obtain⟨a1,a2,T⟩:=mR (t:=tbl h) (p:=(q:Int)) (by have:(ac (tbl h) q).j=1:=i;rw[this];decide);have r:(ac (tbl h) q).j=1:=i;rw[T]at r;exact e (by have:=(a.m1 _ r).2.1;omega)
variable{n:Nat}
def Bh{s:ax} : (c:Int)∈ul s n↔c<n/\tq s c=true:=by
 unfold ul;simp only[O4,U4,List.mem_range];constructor
 ·rintro⟨a,⟨b,d⟩,e⟩
  have:a=c:=ω
  subst this;exact⟨b,d⟩
 rintro⟨b,d⟩;exact⟨c,⟨b,d⟩,rfl⟩
def Qm{a b:ax}(c:meshable a b=true){i:Int}(h:aW a.b1 i=true):aW b.b1 i=false:=by
 unfold meshable at c;simp only[I0,C0]at c;obtain⟨-,-,-,d⟩:=c;rw[<-U5];intro e;have f:=(eO _ _).1 h;have g:=(eO _ _).1 e;have:=X0 (λn=>Nat.testBit n i.toNat) d;simp only[Nat.testBit_and,Nat.zero_testBit]at this;rw[f.2.2.2,g.2.2.2]at this;cases this
def Dr(a:aT h E){s u:ax}(b:s∈h.K)(c:u∈h.K)(e:s.Q=u.Q):s=u:=by
 obtain⟨i,d,rfl⟩:=aM b;obtain⟨j,g,rfl⟩:=aM c;rw[ce (f:=(·.Q)) a.L.nd d g e]
def CI.begun(B:aT h E)(C:CI h)(D:h.u=false){a b:ax}(F:a∈h.K)(G:b∈h.K)(l:meshable a b=true)(sd:Int):CI {h with c1:=sd,u:=true,Z:=tH (dr a b)}:=by
 have n:∃x∈h.K,∃y∈h.K,(dr a b).a5=x.Q/\(dr a b).a4=y.Q/\(dr a b).U=ul y 16/\meshable x y=true:=by
  unfold dr;split
  ·exact⟨b,G,a,F,rfl,rfl,rfl,by rw[gK];exact l⟩
  exact⟨a,F,b,G,rfl,rfl,rfl,l⟩
 obtain⟨x,M,y,N,H,J,r,d⟩:=n;generalize dr a b=p at H J r;have ecl:x.d=y.d:=by
  unfold meshable at d;simp only[I0,C0]at d;exact d.2.1
 refine⟨λf c g O=>?_,λ_ c j=>absurd j (by show ¬(c:Int)∈p.U.take (0:Int).toNat;simp),λ_ s t n c g j=>?_,λ_ s t n c g u=>?_,λ_=>⟨λ_=>rfl,λe=>absurd e (by show ¬(0:Int)=2;decide)⟩,λq P=>?_,λ_ e=>absurd rfl e⟩
 ·rcases C.z f c g O with⟨o,Q,w⟩|⟨K,-⟩
  ·exact .inl ⟨o,Q,w⟩
  rw[D]at K;cases K
 ·have k:=Dr B t M (n.trans H)
  subst k;have i:(c:Int)∈p.U:=j;rw[r]at i;have A:=(Bh.1 i).2;unfold tq at A;rw[<-ecl]at A;rw[gK]at d;exact Qm d A
 ·have k:=Dr B t N (n.trans J)
  subst k;show(c:Int)∈p.U;rw[r];exact Bh.2 ⟨g,u⟩
 have L:=(C.m1 q P).1;rw[D]at L;cases L
def CI.started{h:ab}(f:aT h [])(a:CI h)(j:h.u=false):CI (started h).1/\Kp h (started h).1:=by
 have g:=f.nums;unfold cr at g;rw[C0]at g;have d:=nr (bE h) (show 0<=h.c1/\h.c1<=1073741823 by omega);cases e:lX (bE h) h.c1 with
 | nil=>
  have c:Ab.started h=({h with c1:=(shuf (bE h).length h.c1).2},false):=by unfold Ab.started;rw[e]
  rw[c];exact⟨⟨a.z,a.jv,a.jd,a.jc,a.jn,a.m1,a.m2⟩,Cb h⟩
 | cons q n=>
  obtain⟨o,p,k⟩:=d q (by rw[e];exact Z1 ..);have c:Ab.started h=({h with c1:=(shuf (bE h).length h.c1).2,u:=true,Z:=tH (dr (nth (bE h) q.A.toNat) (nth (bE h) q.B.toNat))},true):=by unfold Ab.started;rw[e]
  rw[c];have b:∀s∈bE h,s∈h.K:=λs l=>mV h (I3 _) s (List.mem_of_mem_take l)
  exact⟨CI.begun f a j (b _ (am (xs:=bE h) (i:=q.A.toNat) ω)) (b _ (am (xs:=bE h) (i:=q.B.toNat) ω)) k _,Cb h⟩
def QV(k:ah)(a:Int)(f c:Nat):∀m,cl (zK k a m) f c=cl k f c\/(cl (zK k a m) f c=0/\∃j:Nat,j<m/\f=co k (a+j)/\c=((a+j) % 16).toNat)
 | 0=>.inl rfl
 | m+1=>by
  have e:co (zK k a m) (a+m)=co k (a+m):=by unfold co;rw[(my k a m).1]
  rcases rj (zK k a m) (a+m) 0 f c with g|⟨b,h,d⟩
  ·rcases QV k a f c m with i|⟨b,j,h,d⟩
   ·exact .inl (g.trans i)
   exact .inr ⟨g.trans b,j,ω,d⟩
  exact .inr ⟨b,m,ω,by rw[<-e];exact h,d⟩
def FI{k:ah}(h:aA k=true){a:Int} : ∀{m:Nat},(∀j:Nat,j<m->(ac k.F.R ((a+j) / 16)).j≠0)->∀j:Nat,j<m->cl (zK k a m) (co k (a+j)) ((a+j) % 16).toNat=0
 | 0,_,_,c=>absurd c (Nat.not_lt_zero _)
 | m+1,d,j,c=>by
  have f:=N1 h (a:=a) (m:=m) λj c=>d j ω
  have i:=(my k a m).1;have e:∀b,co (zK k a m) b=co k b:=λb=>by unfold co;rw[i]
  rcases rj (zK k a m) (a+m) 0 (co k (a+j)) ((a+j) % 16).toNat with g|⟨l,-⟩
  ·by_cases n:j=m
   ·subst n
    have:=Aq f (a:=a+j) (v:=0) (by rw[i];exact d j ω);rw[e]at this;exact this
   exact g.trans (FI h (λj c=>d j ω) j ω)
  exact l
def Ba(a:aT h E)(e:o∈h.M){k:Nat}(b:k<h.J.length)(n:o.Addr=16*(nth h.J k).Q):o.o=(nth h.J k).o:=by
 have f:=aK (a.L.lok _ (am b));rcases a.oow _ e with⟨s,g,c,-⟩|⟨l,d,p,i⟩
 ·exact absurd (show s.Q=(nth h.J k).Q+((0:Nat):Int) by have:=c.1;have:=c.2.1;omega) (a.L.dis s g _ (am b) 0 ω)
 obtain⟨m,j,rfl⟩:=aM d;have:=a.L.one m k j b 0 0 (by have:=aK (a.L.lok _ d);omega) ω ω;subst this;exact i.symm
variable{i:Nat}{α:Type}
def sJ[Inhabited α]{xs:List α}{y z:α}(c:i<xs.length):z∈xs.set i y↔z=y\/∃j,j<xs.length/\j≠i/\nth xs j=z:=by
 refine⟨dH,?_⟩
 rintro(rfl|⟨j,d,b,rfl⟩)
 ·have a:=am (xs:=xs.set i z) (i:=i) (by rw[U1];exact c)
  rw[bw,CC ⟨rfl,c⟩]at a;exact a
 have a:=am (xs:=xs.set i y) (i:=j) (by rw[U1];exact d);rw[bw,C9 (λx=>b x.1.symm)]at a;exact a
def CI.trimH{h:ab}{i k:Nat}{size:Int}(l:aT h [])(hc:CI h)(V:i<h.M.length)(r:k<h.J.length)(W:(nth h.M i).Addr=16*(nth h.J k).Q)(hz:9<=size/\size<=(nth h.J k).o):CI (trimH h i k size)/\∀o∈h.M,∀j:Int,0<=j->j<o.o->(o=nth h.M i->j<size)->eU (trimH h i k size).G (o.Addr+j)=eU h.G (o.Addr+j):=by
 obtain⟨b1,b2⟩:=tD l r;have M:=l.L.lok _ (am r);have hlp:=aK M;have hsz:=Ba l (am V) r W;have h8:=M;unfold bH at h8;rw[C0]at h8;have N:aA (kA h k size)=true:=x9 l r hz (I3 _);have D:(kA h k size).F.R=h.G.F.R:=(my h.G _ _).1;have hN:((dB (nth h.J k) size:Nat):Int)=(nth h.J k).a2 - (size+15) / 16:=by unfold dB;omega
 have hte:((tbl h).O.length:Int)=(h.G.F.R.O.length:Int):=rfl;have kl:=KL.unmN N (p:=(nth h.J k).Q+(size+15) / 16) ω (dB (nth h.J k) size) (by rw[D];omega);have ker:=ik N ((nth h.J k).Q+(size+15) / 16) (dB (nth h.J k) size);have A:=(dS (kA h k size) ((nth h.J k).Q+(size+15) / 16) (dB (nth h.J k) size)).1;have hcz:=QV h.G (16*(nth h.J k).Q+size);have hca:=FI l.ker (a:=16*(nth h.J k).Q+size) (m:=(16*((size+15) / 16) - size).toNat) λj O=>jM l r ⟨ω,ω⟩
 have E:(Ab.trimH h i k size).G=unmN (kA h k size) ((nth h.J k).Q+(size+15) / 16) (dB (nth h.J k) size):=rfl;have F:(Ab.trimH h i k size).M=h.M.set i {nth h.M i with o:=size}:=rfl;have P:(Ab.trimH h i k size).K=h.K:=rfl;have Q:(Ab.trimH h i k size).Z=h.Z:=rfl;have R:(Ab.trimH h i k size).u=h.u:=rfl;generalize Ab.trimH h i k size=h' at E F P Q R |-;have G:∀f c,cl (kA h k size) f c=cl h.G f c\/(cl (kA h k size) f c=0/\∃b:Int,16*(nth h.J k).Q+size<=b/\b<16*((nth h.J k).Q+(size+15) / 16)/\At h.G b f c):=λf c=>by
  rcases hcz f c (16*((size+15) / 16) - size).toNat with g|⟨g,j,w,B,j3⟩
  ·exact .inl g
  refine .inr ⟨g,16*(nth h.J k).Q+size+j,ω,ω,?_⟩;have:=At.mk' l.ker (jM l r (a:=16*(nth h.J k).Q+size+j) ⟨ω,ω⟩);rw[B,j3];exact this
 have hzv:∀(f c:Nat)(b:Int),16*(nth h.J k).Q+size<=b->b<16*((nth h.J k).Q+(size+15) / 16)->At h.G b f c->cl (kA h k size) f c=0:=λf c b H X d=>by
  have:=hca (b - (16*(nth h.J k).Q+size)).toNat ω;rw[show 16*(nth h.J k).Q+size+((b - (16*(nth h.J k).Q+size)).toNat:Nat)=b by omega]at this;have e:=At.mk' l.ker d.m;obtain⟨u1,u2⟩:=e.uniq d;rw[u1,u2]at this;exact this
 have pout:∀q:Int,¬((nth h.J k).Q+(size+15) / 16<=q/\q<(nth h.J k).Q+(nth h.J k).a2)->ac h'.G.F.R q=ac h.G.F.R q:=λq Y=>by
  rw[E,kl.out q ω,D]
 rw[<-E]at kl ker A;generalize kA h k size=kz at *;have onL:∀b:Int,16*(nth h.J k).Q<=b->b<16*((nth h.J k).Q+(nth h.J k).a2)->∀f c:Nat,At h.G b f c->Mp h (nth h.M i).Addr f c:=λb H X f c d=>.inr ⟨_,am r,W,b,H,X,d⟩
 have only:∀o∈h.M,∀f c:Nat,qr h o f c->Mp h (nth h.M i).Addr f c->o=nth h.M i:=λo t f c H X=>by
  have e:=wh l (jC l t H) X;obtain⟨m,lm,rfl⟩:=aM t;rw[ce (f:=(·.Addr)) (cQ l.osr) lm V e]
 have noS:∀s∈h.K,¬((nth h.J k).Q<=s.Q/\s.Q<(nth h.J k).Q+(nth h.J k).a2):=λs J hr=>l.L.dis s J _ (am r) (s.Q - (nth h.J k).Q).toNat ω ω
 have same:∀f c:Nat,cl h'.G f c≠0->cl h.G f c=cl h'.G f c:=λf c C=>by
  rcases kl.cel f c with e|e
  ·rcases G f c with g|⟨g,-⟩
   ·rw[e,g]
   exact absurd (e.trans g) C
  exact absurd e.1 C
 have stay:∀o∈h.M,∀j:Int,0<=j->j<o.o->(o=nth h.M i->j<size)->∀f c:Nat,At h.G (o.Addr+j) f c->At h'.G (o.Addr+j) f c/\cl h'.G f c=cl h.G f c:=λo t j w B O f c d=>by
  have y:qr h o f c:=⟨j,w,B,d⟩
  have n:ac h'.G.F.R ((o.Addr+j) / 16)=ac h.G.F.R ((o.Addr+j) / 16):=by
   refine pout _ λZ=>?_
   have e:=only o t f c y (onL _ ω ω f c d);have:=O e;rw[e,W]at Z;omega
  have u:At h'.G (o.Addr+j) f c:=⟨by rw[n];exact d.m,by rw[n];exact d.f,d.c⟩
  refine⟨u,?_⟩;rcases kl.cel f c with e|⟨-,e⟩
  ·rcases G f c with g|⟨-,b,g1,g2,S⟩
   ·rw[e,g]
   exfalso;have eo:=only o t f c y (onL b ω ω f c S);have hjs:=O eo;have Y:=lO l (am r) (b:=b) ω ω S d.m d.f;have c1:=d.c;have c2:=S.c;rw[eo,W]at Y c1;omega
  exact absurd u.f (e _ u.m)
 refine⟨hc.keep Q R (λq Y=>?_) (λhm=>?_) (λf c _ C=>.inl (same f c C)) (λo t f c h16 y C=>?_) (λhm c _=>?_) (λ_ s' hs' _=>⟨s',by rw[<-P];exact hs',rfl,rfl,λ_ h=>h⟩),λo t j w B O=>?_⟩
 ·have hq':(nth h'.G.F.R.O q).j=1:=Y
  have:=kl.md A q ω;rw[D]at this;show(nth h.G.F.R.O q).j=1;rw[<-this];exact hq'
 ·obtain⟨-,⟨a,ha,T⟩,b,hb,eb⟩:=l.job hm
  exact⟨pout _ λZ=>noS a ha ω,pout _ λZ=>noS b hb ω⟩
 ·obtain⟨j,w,B,d⟩:=y
  by_cases e:o=nth h.M i/\size<=j
  ·exfalso
   obtain⟨e,ej⟩:=e;subst e;by_cases ej2:j<16*((size+15) / 16)
   ·have:=hzv f c ((nth h.M i).Addr+j) ω ω d
    rcases kl.cel f c with g|g
    ·exact C (g.trans this)
    exact C g.1
   refine C (oM ker (λp K hf=>?_) c);by_cases er:(nth h.J k).Q+(size+15) / 16<=p/\p<(nth h.J k).Q+(nth h.J k).a2
   ·exact K (kl.ins p er.1 ω)
   rw[pout p er]at K hf;have:=lO l (am r) (b:=(nth h.M i).Addr+j) ω ω d K hf;omega
  have st:=stay o t j w B (λU=>by have:¬size<=j:=λx=>e ⟨U,x⟩;omega) f c d;by_cases U:o=nth h.M i
  ·refine⟨{nth h.M i with o:=size},by rw[F];exact(sJ V).2 (.inl rfl),j,w,?_,?_⟩
   ·have:¬size<=j:=λx=>e ⟨U,x⟩
    show j<size;omega
   have H:=st.1;rw[U]at H;exact H
  refine⟨o,?_,j,w,B,st.1⟩;rw[F];obtain⟨m,lm,rfl⟩:=aM t;exact(sJ V).2 (.inr ⟨m,lm,λx=>U (by rw[x]),rfl⟩)
 ·have key:∀s∈h.K,cl h'.G (bL h.G s.Q) c=cl h.G (bL h.G s.Q) c:=λs J=>by
   have n:(ac (tbl h) s.Q).j≠0:=by rw[l.pe J];exact(l.mapped J).2.2
   rcases kl.cel (bL h.G s.Q) c with e|⟨-,e⟩
   ·rcases G (bL h.G s.Q) c with g|⟨-,b,g1,g2,S⟩
    ·rw[e,g]
    have:=lO l (am r) (b:=b) ω ω S (q:=s.Q) n (l7 l.ker n);exact absurd (show(nth h.J k).Q<=s.Q/\s.Q<(nth h.J k).Q+(nth h.J k).a2 by omega) (noS s J)
   have K:=pout s.Q λZ=>noS s J ω
   refine absurd ?_ (e s.Q (by rw[K];exact n));rw[K];exact l7 l.ker n
  obtain⟨-,⟨a,ha,T⟩,b,hb,eb⟩:=l.job hm;rw[<-T,<-eb];exact⟨key a ha,key b hb⟩
 have d:=At.mk' l.ker (cT l t (k:=j) ⟨w,ω⟩).1;obtain⟨s1,s2⟩:=stay o t j w B O _ _ d;rw[s1.cell,d.cell,s2]
def EH[Inhabited α](n j:Nat)(y:α):nth (List.replicate n y) j=y\/nth (List.replicate n y) j=default:=by
 by_cases h:j<n
 ·exact .inl (d8 h)
 right
 unfold nth;rw[X2,W2 (by rw[Y3];omega)];rfl
def CI.newHeap(p f t:Nat)(lim:Int)(a:List Int):CI (newHeap p f t lim a):=by
 refine⟨λg c b d=>absurd ?_ d,λe=>(by cases e),λe=>(by cases e),λe=>(by cases e),λe=>(by cases e),λq h=>absurd h ?_,λe=>(by cases e)⟩
 ·show nth (nth (List.replicate f (List.replicate 16 (0:Int))) g) c=0
  rcases EH f g (List.replicate 16 (0:Int)) with e|e<;>rw[e]
  ·exact Ay _ _
  rfl
 show ¬(nth (List.replicate p (⟨0,0⟩ : bh)) q).j=1;rcases EH p q (⟨0,0⟩ : bh) with e|e<;>rw[e]
 ·decide
 decide
def gZ(k:ah)(o:aY):bD:=⟨o.Id,cellsOf k o.Addr o.o.toNat⟩
structure RS(w:bo):Prop where
 nx:w.b7.b=w.X.b
 asc:w.b7.M.Pairwise λa b=>a.Id<b.Id
 mem:∀y,y∈w.b7.M↔∃o∈w.X.M,y=gZ w.X.G o
def mC{b:ah}{a:Int}(h:∀j:Int,0<=j->j<n->eU b (a+j)=eU k (a+j)):cellsOf b a n=cellsOf k a n:=by
 unfold cellsOf;refine List.map_congr_left λj c=>?_
 have:=List.mem_range.1 c;exact h j ω ω
def fJ{a:ah}(h:∀j:Int,0<=j->j<o.o->eU a (o.Addr+j)=eU k (o.Addr+j)):gZ a o=gZ k o:=by
 unfold gZ;rw[mC λj b c=>h j b ω]
def Rs[Inhabited α]{R:α->α->Prop}{xs:List α}(h:xs.Pairwise R){j:Nat}(a:i<j)(b:j<xs.length):R (nth xs i) (nth xs j):=by
 have:=List.pairwise_iff_getElem.1 h i j ω b a;rw[show nth xs i=xs[i] from bg (O2 ω),show nth xs j=xs[j] from bg (O2 b)];exact this
def RS.at{w:bo}(b:RS w){o:aY}(c:o∈w.X.M):∃j:Nat,j<w.b7.M.length/\oI w.b7 o.Id=(j:Nat)/\nth w.b7.M j=gZ w.X.G o:=by
 obtain⟨j,a,e⟩:=aM ((b.mem _).2 ⟨o,c,rfl⟩);refine⟨j,a,dP (ao a) (O0 (by rw[e];rfl)) λm z d f=>U0 ?_,e⟩;have g:=Rs b.asc d a;rw[bg f,e]at g;have h:(gZ w.X.G o).Id=o.Id:=rfl;omega
variable{w:bo}
def RS.lt(a:RS w)(b:aT w.X []):∀y∈w.b7.M,1<=y.Id/\y.Id<w.b7.b:=λy c=>by
 obtain⟨o,d,rfl⟩:=(a.mem y).1 c;have:=b.onu o d;rw[a.nx];show 1<=o.Id/\o.Id<w.X.b;omega
def RS.keep(b:RS w)(d:h'.M=w.X.M)(c:Kp w.X h')(e:h'.b=w.X.b):RS ⟨h',w.b7⟩:=by
 refine⟨b.nx.trans e.symm,b.asc,λy=>(b.mem y).trans ?_⟩;show _↔∃o∈h'.M,y=gZ h'.G o
 constructor
 ·rintro⟨o,f,rfl⟩
  have a:o∈h'.M:=by rw[d];exact f
  exact⟨o,a,(fJ (c o a).2).symm⟩
 rintro⟨o,a,rfl⟩
 exact⟨o,(c o a).1,fJ (c o a).2⟩
def RS.alloc(e:RS w)(i:aT w.X []){x:aY}(d:RK w.X h' x)(k:x.Id=w.X.b)(g:h'.b=w.X.b+1)(l:1<=x.o/\x.o<=1000):RS ⟨h',je w.b7 x.o⟩:=by
 unfold je;rw[CC l];have h:gZ h'.G x = ⟨w.b7.b,List.replicate x.o.toNat 0⟩:=by
  unfold gZ;rw[k,e.nx]
  congr 1
  refine List.eq_replicate_iff.2 ⟨gx ..,λb f=>?_⟩;unfold cellsOf at f;obtain⟨j,n,rfl⟩:=O4.1 f;have:=List.mem_range.1 n;exact d.ze j ω ω
 refine⟨by show w.b7.b+1=h'.b;rw[g,e.nx],?_,λy=>?_⟩
 ·refine List.pairwise_append.2 ⟨e.asc,List.pairwise_singleton _ _,λa p b f=>?_⟩
  rw[O1.1 f];exact(e.lt i a p).2
 show y∈w.b7.M++[_]↔∃o∈h'.M,y=gZ h'.G o
 rw[C3,O1,e.mem];constructor
 ·rintro(⟨o,c,rfl⟩|rfl)
  ·exact⟨o,(d.mem o).2 (.inr c),(fJ (d.ke o c)).symm⟩
  exact⟨x,(d.mem x).2 (.inl rfl),h.symm⟩
 rintro⟨o,c,rfl⟩
 rcases(d.mem o).1 c with rfl|c
 ·exact .inr h
 exact .inl ⟨o,c,fJ (d.ke o c)⟩
def RS.free(a:RS w)(p:aT w.X [])(h:i<w.X.M.length)(k:h'.M=dele w.X.M i)(l:Kp w.X h')(r:h'.b=w.X.b):RS ⟨h',jL w.b7 (nth w.X.M i).Id⟩:=by
 obtain⟨j,t,u,n⟩:=a.at (am h);unfold jL;rw[u,C9 ω];simp only[Z2];refine⟨a.nx.trans r.symm,a.asc.sublist (eI _ _),λy=>?_⟩;show y∈dele w.b7.M j↔∃o∈h'.M,y=gZ h'.G o
 rw[cV];constructor
 ·rintro⟨m,c,A,rfl⟩
  obtain⟨o,d,e⟩:=(a.mem _).1 (am c);have b:o∈h'.M:=by
   rw[k];obtain⟨q,g,rfl⟩:=aM d;refine cV.2 ⟨q,g,λx=>A ?_,rfl⟩;subst x;exact ce (f:=(·.Id)) (cQ a.asc) c t (by rw[e,n])
  exact⟨o,b,e.trans (fJ (l o b).2).symm⟩
 rintro⟨o,b,rfl⟩
 obtain⟨d,B⟩:=l o b;rw[fJ B];obtain⟨m,c,e⟩:=aM ((a.mem _).2 ⟨o,d,rfl⟩);refine⟨m,c,λx=>?_,e⟩;subst x;rw[k]at b;obtain⟨q,g,C,rfl⟩:=cV.1 b;exact C (ce (f:=(·.Id)) p.oid g h (X0 bD.Id (e.symm.trans n)))
def RS.upd(d:RS w)(A:aT w.X [])(B:i<w.X.M.length){x':aY}(C:x'.Id=(nth w.X.M i).Id)(k:∀o,o∈h'.M↔o=x'\/∃m,m<w.X.M.length/\m≠i/\nth w.X.M m=o)(t:∀m,m<w.X.M.length->m≠i->gZ h'.G (nth w.X.M m)=gZ w.X.G (nth w.X.M m))(D:h'.b=w.X.b){j:Nat}(l:j<w.b7.M.length)(n:nth w.b7.M j=gZ w.X.G (nth w.X.M i)):RS ⟨h',{w.b7 with M:=w.b7.M.set j (gZ h'.G x')}⟩:=by
 refine⟨d.nx.trans D.symm,?_,λy=>?_⟩
 ·have u:(w.b7.M.map (·.Id)).Pairwise (λa b=>a<b):=List.pairwise_map.2 d.asc
  rw[<-kN (f:=(·.Id)) (y:=gZ h'.G x') l (by rw[n];exact C)]at u;exact List.pairwise_map.1 u
 show y∈w.b7.M.set j _↔∃o∈h'.M,y=gZ h'.G o
 rw[sJ l];constructor
 ·rintro(rfl|⟨m,h,p,rfl⟩)
  ·exact⟨x',(k x').2 (.inl rfl),rfl⟩
  obtain⟨o,r,e⟩:=(d.mem _).1 (am h);obtain⟨q,c,rfl⟩:=aM r;have g:q≠i:=λx=>p (by subst x;exact ce (f:=(·.Id)) (cQ d.asc) h l (by rw[e,n]))
  exact⟨_,(k _).2 (.inr ⟨q,c,g,rfl⟩),e.trans (t q c g).symm⟩
 rintro⟨o,r,rfl⟩
 rcases(k o).1 r with rfl|⟨q,c,g,rfl⟩
 ·exact .inl rfl
 rw[t q c g];obtain⟨m,h,e⟩:=aM ((d.mem _).2 ⟨_,am c,rfl⟩);refine .inr ⟨m,h,λx=>g ?_,e⟩;subst x;exact ce (f:=(·.Id)) A.oid c B (X0 bD.Id (e.symm.trans n))
def RS.store(l:RS w)(g:aT w.X [])(h:JI w.X)(n:CI w.X)(a:i<w.X.M.length){j:Int}(p:0<=j/\j<=(nth w.X.M i).o - 1)(r:0<=v/\v<=999)(t:(ac (tbl w.X) (((nth w.X.M i).Addr+j) / 16)).j≠1):RS ⟨{w.X with G:=dK w.X.G ((nth w.X.M i).Addr+j) v},eJ w.b7 (nth w.X.M i).Id j v⟩:=by
 obtain⟨-,d⟩:=CI.store (v:=v) g h n a p t;obtain⟨b,u,A,k⟩:=l.at (am a);have B:(nth w.b7.M b).U.length=(nth w.X.M i).o.toNat:=by rw[k];exact gx ..
 have C:eJ w.b7 (nth w.X.M i).Id j v = {w.b7 with M:=w.b7.M.set b ⟨(nth w.b7.M b).Id,(nth w.b7.M b).U.set j.toNat v⟩}:=by
  unfold eJ;rw[A];simp only[Z2];rw[CC ⟨ω,ω,r⟩]
 have D:(⟨(nth w.b7.M b).Id,(nth w.b7.M b).U.set j.toNat v⟩ : bD)=gZ (dK w.X.G ((nth w.X.M i).Addr+j) v) (nth w.X.M i):=by
  rw[k];unfold gZ;simp only
  congr 1
  refine List.ext_getElem (by simp[cellsOf]) λq K E=>?_
  rw[gx]at E;rw[List.getElem_set];simp only[cellsOf,List.getElem_map,List.getElem_range];have:=d _ (am a) q ω ω;rw[this];by_cases e:j.toNat=q
  ·rw[CC e,CC ⟨rfl,ω⟩]
  rw[C9 e,C9 (λx=>e ω)]
 rw[C,D];refine RS.upd l g a (h':={w.X with G:=dK w.X.G ((nth w.X.M i).Addr+j) v}) rfl (λo=>?_) (λm c F=>?_) rfl u k
 ·show o∈w.X.M↔_
  constructor
  ·intro G
   obtain⟨m,c,rfl⟩:=aM G;by_cases e:m=i
   ·subst e;exact .inl rfl
   exact .inr ⟨m,c,e,rfl⟩
  rintro(rfl|⟨m,c,-,rfl⟩)
  ·exact am a
  exact am c
 refine fJ λx H J=>?_
 show eU (dK w.X.G _ v) _=_;rw[d _ (am c) x H J,C9 (λy=>F (ce (f:=(·.Addr)) (cQ g.osr) c a (by rw[y.1])))]
variable{m:Nat}
def D9(k:ah)(a:Int)(h:m<=n):(cellsOf k a n).take m=cellsOf k a m:=by
 unfold cellsOf;rw[<-C4,List.take_range,Nat.min_eq_left h]
def RS.trim(g:RS w)(d:aT w.X [])(p:CI w.X){k:Nat}{size:Int}(a:i<w.X.M.length)(h:k<w.X.J.length)(l:(nth w.X.M i).Addr=16*(nth w.X.J k).Q)(q:9<=size/\size<=(nth w.X.J k).o):RS ⟨trimH w.X i k size,fA w.b7 (nth w.X.M i).Id size⟩:=by
 obtain⟨-,c⟩:=CI.trimH d p a h l q;have r:=Ba d (am a) h l;obtain⟨b,t,u,e⟩:=g.at (am a);have A:(nth w.b7.M b).U.length=(nth w.X.M i).o.toNat:=by rw[e];exact gx ..
 have B:fA w.b7 (nth w.X.M i).Id size = {w.b7 with M:=w.b7.M.set b ⟨(nth w.b7.M b).Id,(nth w.b7.M b).U.take size.toNat⟩}:=by
  unfold fA;rw[u];simp only[Z2];rw[CC ⟨ω,ω,ω⟩]
 have C:(⟨(nth w.b7.M b).Id,(nth w.b7.M b).U.take size.toNat⟩ : bD)=gZ (trimH w.X i k size).G {nth w.X.M i with o:=size}:=by
  rw[e];unfold gZ;simp only;rw[D9 _ _ ω]
  congr 1
  refine(mC λj D H=>?_).symm;exact c _ (am a) j D ω λ_=>ω
 rw[B,C];refine RS.upd g d a (h':=trimH w.X i k size) (x':={nth w.X.M i with o:=size}) rfl (λo=>sJ a) (λm n E=>?_) rfl t e;refine fJ λx F G=>c _ (am n) x F G λy=>absurd (ce (f:=(·.Addr)) (cQ d.osr) n a (by rw[y])) E
def E2(h:ab)(i:Nat)(a:Int):(freeS h i a).b=h.b:=by unfold freeS;split<;>rfl
def MK(t:Nat)(h:ab)(a:Int):(recyc t h a).b=h.b:=by
 unfold recyc;split
 ·rfl
 exact E2 h (se h a) a
def tL(t:Nat):∀(az:List Int)(h:ab),(recycs t h az).b=h.b
 | [],_=>rfl
 | a::az,h=>(tL t az (recyc t h a)).trans (MK t h a)
def uG:∀(az:List Int)(h:ab),(freeAs h az).b=h.b
 | [],_=>rfl
 | a::az,h=>(uG az (freeA h a)).trans (E2 h (se h a) a)
def Ax(t:Nat)(h:ab):∀k,(flushN t h k).1.b=h.b/\(flushN t h k).1.M=h.M
 | 0=>⟨rfl,rfl⟩
 | k+1=>by
  obtain⟨a,b⟩:=Ax t h k;exact⟨(uG _ _).trans a,(fK _ _).2.1.trans b⟩
def FY(h:ab)(t i:Nat):(vt h t i).b=h.b/\(vt h t i).M=dele h.M i:=⟨tL _ _ _,(dE _ _ _).2.1⟩
def xd(h:ab)(t i:Nat):(freeT h t i).1.b=h.b/\(((freeT h t i).2=0/\(freeT h t i).1.M=dele h.M i)\/((freeT h t i).2=5/\(freeT h t i).1=h)):=by
 unfold freeT
 repeat' split
 ·exact⟨rfl,.inl ⟨rfl,rfl⟩⟩
 ·exact⟨rfl,.inr ⟨rfl,rfl⟩⟩
 ·exact⟨(FY h t i).1,.inl ⟨rfl,(FY h t i).2⟩⟩
 ·exact⟨rfl,.inl ⟨rfl,rfl⟩⟩
 exact⟨rfl,.inr ⟨rfl,rfl⟩⟩
def HB(h:ab):∀n,(stN h n).1.b=h.b/\(stN h n).1.M=h.M
 | 0=>⟨rfl,rfl⟩
 | n+1=>by
  obtain⟨a,b⟩:=HB h n;unfold stN;split
  ·exact⟨a,b⟩
  exact⟨a,b⟩
def CI.stN{h:ab}(a:aT h [])(b:JI h)(c:CI h):∀n,CI (stN h n).1/\Kp h (stN h n).1
 | 0=>⟨c,Cb h⟩
 | n+1=>by
  obtain⟨g,i⟩:=rd a b n;obtain⟨d,f⟩:=CI.stN a b c n;unfold Ab.stN;split
  ·rename_i e
   unfold ro at e;rw[I0]at e;obtain⟨j,k⟩:=CI.mStep g i d e.1;exact⟨j,f.trans k⟩
  exact⟨d,f⟩
def w5(h:ab):(started h).1.b=h.b/\(started h).1.M=h.M:=by
 unfold started;split<;>exact⟨rfl,rfl⟩
structure CW(w:bo):Prop where
 ci:CI w.X
 rs:RS w
def CW.keep(h:CW w){g:ab}(a:CI g/\Kp w.X g)(b:g.M=w.X.M)(c:g.b=w.X.b):CW ⟨g,w.b7⟩:=⟨a.1,h.rs.keep b a.2 c⟩
def CW.obj(h:qY w m)(c:CW w)(a:eA)(b:i<w.X.M.length):CW (kZ w a i).1:=by
 unfold kZ;split
 ·unfold nq
  split
  ·exact c
  split
  ·rename_i q
   unfold ns at q;have l:=CI.freeT (t:=a.a3.toNat) h.inv h.ji c.ci b ω;obtain⟨r,u⟩:=xd w.X a.a3.toNat i;refine⟨l.1,?_⟩;show RS ⟨(freeT w.X a.a3.toNat i).1,if _ then _ else _⟩;rcases u with⟨f,d⟩|⟨f,d⟩
   ·rw[CC f];exact c.rs.free h.inv b d l.2 r
   rw[C9 (by rw[f];decide),d];exact c.rs
  exact c
 split
 ·unfold lw
  split
  ·exact c
  rename_i g;split
  ·exact c
  rename_i n;split
  ·exact c
  rename_i j;have g:=Classical.not_not.1 g;have j:=Classical.not_not.1 j;exact⟨(CI.store h.inv h.ji c.ci b g n).1,RS.store c.rs h.inv h.ji c.ci b g j n⟩
 unfold nJ;split
 ·rename_i e
  obtain⟨-,f,d⟩:=e;obtain⟨o,y,A⟩:=fD _ _ f;have k:=of_decide_eq_true y;have p:=k.symm.trans (Int.mul_comm _ _);exact⟨(CI.trimH h.inv c.ci b o p d).1,RS.trim c.rs h.inv c.ci b o p d⟩
 exact c
def CW.thread(h:qY w m)(c:CW w)(a:eA):CW ⟨(fk w.X a).1,w.b7⟩:=by
 have b:=c.ci;unfold fk;split
 ·split
  ·exact CW.keep (g:={w.X with w:=fS w.X.w a.a3.toNat}) c ⟨⟨b.z,b.jv,b.jd,b.jc,b.jn,b.m1,b.m2⟩,Cb w.X⟩ rfl rfl
  exact c
 split
 ·exact c
 rename_i e;have e:=Classical.not_not.1 e;obtain⟨-,i⟩:=e;unfold ns at i;split
 ·exact c.keep (CI.collect (t:=a.a3.toNat) h.inv b ω) (dE _ _ _).2.1 (tL _ _ _)
 have j:a.a3.toNat<w.X.S.length:=ω
 have f:=CI.flushN h.inv j b (I3 4);have d:=Ax a.a3.toNat w.X 4;generalize flushN a.a3.toNat w.X 4=r at f d |-;exact CW.keep (g:=r.1) c f d.2 d.1
def CW.act(h:qY w m)(c:CW w)(a:eA):CW (kG w a).1:=by
 unfold kG;split
 ·have b:=CI.allocH (t:=a.a3) (size:=a.N) h.inv h.ji c.ci
  refine⟨b.ci,?_⟩;show RS ⟨(allocH w.X a.a3 a.N).1,if _ then _ else _⟩;split
  ·rename_i e
   obtain⟨d,f,g,i,-⟩:=b.yes e;exact RS.alloc (x:=⟨w.X.b,(allocH w.X a.a3 a.N).2.1,a.N,a.a3⟩) c.rs h.inv d rfl f ⟨g,i⟩
  rename_i e;obtain⟨j,k,l,-⟩:=b.no e;exact c.rs.keep j k l
 split
 ·split
  ·exact c
  rename_i e;exact c.obj h a (fD _ _ (by unfold qA at e;omega)).1
 split
 ·exact c.thread h a
 split
 ·unfold ma
  split
  ·rename_i e
   exact c.keep (CI.tick h.inv c.ci e.2.1.1 e.2.2) (fK _ _).2.1 (uG _ _)
  exact c
 split
 ·unfold lU
  split
  ·exact c
  rename_i e;exact c.keep (CI.started h.inv c.ci (by simpa using e)) (w5 _).2 (w5 _).1
 split
 ·exact c.keep (CI.stN h.inv h.ji c.ci _) (HB _ _).2 (HB _ _).1
 exact c
def Ka(c:cH):CW (world0 c):=⟨CI.newHeap ..,rfl,List.Pairwise.nil,λy=>⟨λh=>(by cases h),λ⟨_,h,_⟩=>(by cases h)⟩⟩
def LQ{c:cH}(h:DA c)(acts:List eA):∀n,CW (wd c acts n).1
 | 0=>Ka c
 | n+1=>(LQ h acts n).act (qZ h acts n) _
def Ed(zs:List Int):CW (drawn zs):=LQ (mS (W0 _)).1 _ _
open Go.RowKit
set_option maxRecDepth 20000
set_option maxHeartbeats 4000000
def P1(a:Int)(l:ay):Bool:=decide (l.Q*16=a)
def lT(l:ay)(a:Int)(b:0<=l.Q/\l.Q<=32):zzA 101 false [.val (some 3) (ay.enc .V l),.ptr [I a]] .one [B (P1 a l)]:=by
 refine fO 9 [] Tryz.func101 rfl ?_
 repeat'(first|refine gP ?_|fail)
 exact X0 (λz=>[B z]) ((by unfold P1;rw[Y4];simp))
def yk(h:ab)(b:ab.sml h)(a:h.M≠[]):zzA 62 false [.val (some 24) (ab.enc .V h)] .agg (cE h (oS h) (oL h) (.s .own (h.M.map (aY.enc .own)))):=by
 have c:=yo h b
 rwa [show gJ h=cE h (oS h) (oL h) (.s .own (h.M.map (aY.enc .own))) by unfold gJ oO;rw[yJ λe=>a (List.map_eq_nil_iff.1 e)]]at c
def yU(h:ab)(o:aY)(t:Nat)(S:ab.sml h)(e1:dM h=true)(hc:h.G.Calls≠100000)(X:o∈h.M)(ht:o.a3=t):zzA 33 false [.val (some 24) (ab.enc .V h),.val none [I (t:Nat)],.val none [I o.Addr]] (.tup [some 24,none]) (gJ (freeOb h t (jS h o.Addr)).1++[I (freeOb h t (jS h o.Addr)).2]):=by
 have b:=aT.of e1;have T:=ko h S;rw[ng,e1]at T;obtain⟨p,G,H⟩:=b.objAt X;have q:=mG b X;have hon:=b.onu o X;have a:=b.lens;have hno:=a.objs;have hnl:=a.larges;have hlc:=a.caches;have J:t<h.S.length:=ω
 have U:=aP (t:Nat) 0 (h.S.length - 1:Int);rw[O0 ω]at U;have K:=qS h o.Addr ω;rw[H]at K;have V:=yk h S (gl p);generalize jS h o.Addr=i at p G K;subst G;have Y:=ao p;have Z:=ny (nth h.M i).o;have C:=wP h.M i p;have hks:=bj b.ker;have c6:=eX h.G.F.R ((nth h.M i).Addr / 16) hks.1.2;have M:gJ h=cE h (oS h) (oL h) (.s .own (h.M.map (aY.enc .own))):=by unfold gJ oO;rw[yJ λe=>gl p (List.map_eq_nil_iff.1 e)]
 unfold freeOb;by_cases d:aG (nth h.M i).o<0
 ·rw[CC d]
  obtain⟨l,hl,h1,-⟩:=(dc b (am p)).1 d;obtain⟨r,ea,-,hfi⟩:=pU hl h1;have E:=oC h.J (P1 (nth h.M i).Addr) ω;rw[show dd (P1 (nth h.M i).Addr) h.J=(sI h (nth h.M i).Addr:Nat) by unfold dd P1;rw[hfi]]at E;generalize sI h (nth h.M i).Addr=g at r ea E;have hf:=aK (b.L.lok _ (am r));have hxl:=ao r;have N:=sO h.J g r;have F:=lr {h with M:=dele h.M i,J:=dele h.J g} ⟨(nth h.J g).Q,(nth h.J g).a2⟩ (nth h.J g).a2.toNat b.ker hc (by show h.q.length<=_;have:=a.free;omega) ⟨by show(nth h.J g).a2=_;omega,by show 0<=(nth h.J g).Q;omega,by show(nth h.J g).Q<=_;omega,ω⟩;have hg:gJ {h with M:=dele h.M i,J:=dele h.J g} = cE h (oS h) (oE ((dele h.J g).map (ay.enc .own))) (oE ((dele h.M i).map (aY.enc .own))):=rfl;have u:oL h=.s .own (h.J.map (ay.enc .own)):=by unfold oL;rw[yJ λe=>gl r (List.map_eq_nil_iff.1 e)]
  rw[u]at V;rw[hg]at F;have hpg:∀y∈h.J,0<=y.Q/\y.Q<=32:=λy w=>by have:=aK (b.L.lok y w);omega
  rcases qq (rows:=(dele h.M i).map (aY.enc .own)) with e|⟨-,e⟩<;>rcases qq (rows:=(dele h.J g).map (ay.enc .own)) with e'|⟨-,e'⟩
  all_goals
   rw[e]at C F;rw[e']at N F;refine fP 163 [(99,[1,0,0]),(102,[1,0,0]),(103,[2,0]),(105,[2,0,0]),(109,[2,0,0])] [(20,12,[85,86,87,88,89,90,91,92,93,94,95,96]),(24,4,[111,112,113,114])] Tryz.func33 rfl ?_ (.inr (aQ (jE _) ⟨trivial,trivial⟩))
   repeat'(first|refine gB ?_|(conv=>whnf);first|with_reducible refine Bf.D (λO=>?_) (λO=>?_)|refine C8 (U) ?_|refine C8 (T) ?_|refine C8 (K) ?_|refine C8 (V) ?_|refine C8 (Z) ?_|refine CD (aa Y) ?_|refine CD (aa hxl) ?_|refine Cq.mk (xI (some 3) (ay.enc .V) (P1 (nth h.M i).Addr) h.J) (lT ⟨0,0,0⟩ (nth h.M i).Addr ⟨by decide,by decide⟩).has (λL k rcs hQ=>?_) ?_|refine C8 (E) ?_|refine CK (C) (.inl rfl) ?_|refine CK (N) (.inl rfl) ?_|refine CK (F) (.inl rfl) ?_)
   ·obtain⟨y,w,rfl,rfl,rfl⟩:=hQ
    exact lT y _ (hpg y w)
   rfl
 rw[C9 d];obtain⟨s1,s2,s3,s4⟩:=RQ.of b (am p) d;have hcz:=BL s1;by_cases W:(ac (tbl h) ((nth h.M i).Addr / 16)).j=1
 ·rw[CC W]
  unfold tbl at W;have B:=jE h;simp only;rw[M]at B |-;rcases qq (rows:=(dele h.M i).map (aY.enc .own)) with e|⟨-,e⟩
  all_goals
   rw[e]at C;refine fP 163 [(99,[1,0,0]),(102,[1,0,0]),(103,[2,0]),(105,[2,0,0]),(109,[2,0,0])] [(20,12,[85,86,87,88,89,90,91,92,93,94,95,96]),(24,4,[111,112,113,114])] Tryz.func33 rfl ?_ (.inr (aQ B ⟨trivial,trivial⟩))
   repeat'(first|refine gB ?_|(conv=>whnf);first|with_reducible refine Bf.D (λO=>?_) (λO=>?_)|refine CO (by decide) ?_|refine CM (kD q) ?_|refine C8 (U) ?_|refine C8 (T) ?_|refine C8 (K) ?_|refine C8 (V) ?_|refine C8 (Z) ?_|refine CD (aa Y) ?_|refine CK (C) (.inl rfl) ?_|refine C8 (c6) ?_)
   rfl
 rw[C9 W];unfold tbl at W;have B:co h.G (nth h.M i).Addr<h.G.F.W.U.length:=by unfold co;omega
 have j:=b.inQuar p d;have P:=dU (aG (nth h.M i).o);rw[show csz (aG (nth h.M i).o)=((csz (aG (nth h.M i).o)).toNat:Nat) by omega]at P;have n:=b.nums;unfold cr at n;rw[C0]at n;have Q:=(b.dropO p (jF.any (c:=aG (nth h.M i).o) (by obtain⟨⟨s,S,k1,k2⟩,-⟩:=(dc b (am p)).2 d;exact⟨s,S,k1,.inr k2⟩))).nd;rw[List.cons_append,List.nil_append]at Q;have E:=DJ h.a6 (gT h (nth h.M i)) (by have:=a.quar;omega) b.quar ⟨s1.1,s1.2,q.1,n.2.2.1⟩ (λy w=>b.snc y w) (λy w e=>(List.nodup_cons.1 Q).1 (by rw[show(nth h.M i).Addr=y.Addr from e.symm];unfold holders;simp only[C3];exact .inl (.inr (O4.2 ⟨y,w,rfl⟩))));unfold N5 at E;have u:(rn h.a6 (gT h (nth h.M i))).length<=513:=by have:=a.quar;unfold rn;rw[V1,U3];simp only[List.length_singleton];omega
 have hfq:vt h t i=recycs t (inQuar h i) ((rn h.a6 (gT h (nth h.M i))).map (·.Addr)):=rfl;have hqc:(inQuar h i).G.Calls≠100000:=hc;rw[hfq];rcases qq (rows:=(dele h.M i).map (aY.enc .own)) with e|⟨-,e⟩
 all_goals
  have hoo:oO (inQuar h i)=_:=e;rw[e]at C;have N:=o6 h (oS h) (oL h) (oE ((dele h.M i).map (aY.enc .own))) (nth h.M i).Addr (csz (aG (nth h.M i).o)).toNat b.ker q s2 ω s4;rw[e]at N;refine fP 163 [(99,[1,0,0]),(102,[1,0,0]),(103,[2,0]),(105,[2,0,0]),(109,[2,0,0])] [(20,12,[85,86,87,88,89,90,91,92,93,94,95,96]),(24,4,[111,112,113,114])] Tryz.func33 rfl ?_ (.inr (aQ (jE _) ⟨trivial,trivial⟩))
  repeat'(first|refine gB ?_|(conv=>whnf);first|with_reducible refine Bf.D (λO=>?_) (λO=>?_)|refine CO (by decide) ?_|refine CM (kD q) ?_|refine C8 (U) ?_|refine C8 (T) ?_|refine C8 (K) ?_|refine C8 (V) ?_|refine C8 (Z) ?_|refine CD (aa Y) ?_|refine CK (C) (.inl rfl) ?_|refine C8 (c6) ?_|refine C8 (P) ?_|refine CK (N) (.inl rfl) ?_|refine C8 (E) ?_)
  generalize rn h.a6 (gT h (nth h.M i))=out at j u
  (conv=>whnf)
  refine CG (ι:=Nat) (λk=>[(1,.H .one [I ((t:Nat):Int)]),(6,.H .box Nr),(8,.H .box (gJ (recycs t (inQuar h i) ((out.take k).map (·.Addr))))),(16,.H .one (cB .own out)),(151,.c3 16 0 [] none),(152,.H .one [I (out.length)]),(153,.H .one [I ((k:Nat):Int)])]) (λk=>k<=out.length) (λk=>out.length - k) (0) ?_ (W0 _) λk hk=>?_
  ·repeat'(first|exact trivial|rfl |exact mL hoo|exact dL _|refine CL ?_ ?_|(exact A7 (by first|omega|(simp only;omega)|(simp;omega))))
  by_cases r:k<out.length
  ·have R:=ao r
   have hsp:out.map (·.Addr)=(out.take k).map (·.Addr)++(nth out k).Addr::(out.drop (k+1)).map (·.Addr):=by
    conv=>lhs;rw[<-List.take_append_drop k out,gt r]
    simp
   have hik:aT (recycs t (inQuar h i) ((out.take k).map (·.Addr))) ((nth out k).Addr::(out.drop (k+1)).map (·.Addr)):=aT.recycs (by rw[<-hsp];exact j) J;have F:=DH _ _ t _ hik (by rw[(dE t _ _).1];exact J) (by rw[(dE t _ _).2.2.1];exact hqc)
   repeat'(first|refine gE ?_|(conv=>whnf);first|refine CD (aa R) ?_|refine CH rfl (aa R) rfl ?_|refine CK (F) (.inl rfl) ?_)
   ((conv=>whnf);refine CE (k+1) ω ω ?_)
   rw[uI t _ out k r];exact wC
  obtain rfl:k=out.length:=ω
  rw[C5]
  repeat'(first|refine gE ?_|fail)
  rfl
def w8(m:aJ)(k:Int)(a:aJ.sml m):zzA 255 false [.val (some 2) (aJ.enc .V m),.val none [I k]] .one [B (decide (0<=k/\k<=m.T.length - 1)&&bu m)]:=by
 have b:=lN m a;have g:m.T.length<=1048576:=a.1.1;have c:=aP k 0 (m.T.length - 1:Int);cases e:bu m<;>rw[e]at b<;>cases d:decide (0<=k/\k<=(m.T.length:Int) - 1)<;>rw[d]at c
 all_goals
  refine fO 15 [] Tryz.func255 rfl ?_
  repeat'(first|refine gP ?_|(conv=>whnf);first|refine CB ?_|refine C8 (b) ?_|refine C8 (c) ?_)
  rfl
def Kb(m:aJ)(f:Nat)(p:de)(k:bu m=true)(d:f<m.T.length):zzA 107 false [.val (some 2) (aJ.enc .V m),.val none [I (f:Nat)],.val (some 2) (de.enc .V p)] (.tup [some 2,none]) (aJ.enc .own (if bu (dQ m f p)=true then dQ m f p else m)++[B (bu (dQ m f p))]):=by
 have c:=kB.of k;have l:=c.sml;have q:=c.b4;have g:=w8 m f l;rw[k,O0 ω]at g;have n:=qy m l;have h:=zU c d p;have i:=lN (dQ m f p) h;have a:=R5 d;have o:=c.bl f d;have j:=aJ.enc_fz (dQ m f p);have b:=Cf (dQ m f p);rw[tY]at j b;cases e:bu (dQ m f p)<;>rw[e]at i
 ·rw[C9 (by simp)]
  refine fO 35 [(4,267,[17,18,19,20,21,22,23,24,25,26,28,0,1,2,3,4,5,6,7,8,9,10,1000,1001,1002,11,12])] Tryz.func107 rfl ?_ (.inr (aQ (Cf _) ⟨trivial,trivial⟩))
  repeat'(first|refine gP ?_|(conv=>whnf);first|with_reducible refine CD (aa a) ?_|refine CB ?_|refine CD (dC a) ?_|refine CH rfl (dC a) rfl ?_|refine C8 (g) ?_|refine C8 (n) ?_|refine Lq.one rfl rfl (aa a) rfl (I1 rfl) rfl rfl ?_|refine CH rfl (aa a) rfl ?_|refine CP rfl rfl (dC a) rfl (I1 rfl) (show [C.s dJ.own ((m.T.map (cb .own)).set f (cb .own (nth m.T f++[p]))),C.s .own (m.y.map (aF .own))]=_ from by simp only[List.set_cons_zero,List.set_set,Z2];rfl) ?_|refine CY (aL λ_=>rfl) rfl (by simp;omega) (by decide) (fp _ _ _) ?_|refine CF (i) ⟨⟨rfl,j⟩,trivial⟩ ?_)
  rfl
 rw[CC rfl,tY];refine fO 35 [(4,267,[17,18,19,20,21,22,23,24,25,26,28,0,1,2,3,4,5,6,7,8,9,10,1000,1001,1002,11,12])] Tryz.func107 rfl ?_ (.inr (aQ b ⟨trivial,trivial⟩))
 repeat'(first|refine gP ?_|(conv=>whnf);first|with_reducible refine CD (aa a) ?_|refine CB ?_|refine CD (dC a) ?_|refine CH rfl (dC a) rfl ?_|refine C8 (g) ?_|refine C8 (n) ?_|refine Lq.one rfl rfl (aa a) rfl (I1 rfl) rfl rfl ?_|refine CH rfl (aa a) rfl ?_|refine CP rfl rfl (dC a) rfl (I1 rfl) (show [C.s dJ.own ((m.T.map (cb .own)).set f (cb .own (nth m.T f++[p]))),C.s .own (m.y.map (aF .own))]=_ from by simp only[List.set_cons_zero,List.set_set,Z2];rfl) ?_|refine CY (aL λ_=>rfl) rfl (by simp;omega) (by decide) (fp _ _ _) ?_|refine CF (i) ⟨⟨rfl,j⟩,trivial⟩ ?_)
 rfl
def Rr(sp:List ax)(la:List ay)(a:Int):Int:=if(denotes sp la a).b5=0 then 3 else if(denotes sp la a).c5≠0 then 1 else if(denotes sp la a).b5=2 then 2 else 0
def Db(sp:List ax)(la:List ay)(a:Int)(b:d6 sp)(c:dx la)(d:bk sp la=true):zzA 253 false [.val none (cq .V sp),.val none (bU .V la),.val none [I a]] .agg (iv.enc .own (denotes sp la a)):=by
 have g:=iJ sp la a b c;have e:=mn sp la b c;rw[d]at e;refine fO 16 [] Tryz.func253 rfl ?_ (.inr (iv.enc_fr _))
 repeat'(first|refine gP ?_|(conv=>whnf);first|refine CB ?_|refine C8 (g) ?_|refine C8 (e) ?_)
 rfl
def zJ(sp:List ax)(la:List ay)(a:Int)(d:d6 sp)(e:dx la)(b:bk sp la=true):zzA 98 false [.val none (cq .V sp),.val none (bU .V la),.val none [I a]] .one [I (Rr sp la a)]:=by
 have c:=Db sp la a d e b;unfold Rr;generalize denotes sp la a=w at *;by_cases g:w.b5=0
 ·rw[CC g]
  refine fO 24 [] Tryz.func98 rfl ?_
  repeat'(first|refine gB ?_|(conv=>whnf);first|refine CB ?_|refine C8 (c) ?_|refine CB ?_)
  rfl
 rw[C9 g];by_cases h:w.c5≠0
 ·rw[CC h]
  refine fO 24 [] Tryz.func98 rfl ?_
  repeat'(first|refine gB ?_|(conv=>whnf);first|refine CB ?_|refine C8 (c) ?_|refine CB ?_)
  rfl
 rw[C9 h];by_cases i:w.b5=2
 ·rw[CC i]
  refine fO 24 [] Tryz.func98 rfl ?_
  repeat'(first|refine gB ?_|(conv=>whnf);first|refine CB ?_|refine C8 (c) ?_|refine CB ?_)
  rfl
 rw[C9 i];refine fO 24 [] Tryz.func98 rfl ?_
 repeat'(first|refine gB ?_|(conv=>whnf);first|refine CB ?_|refine C8 (c) ?_|refine CB ?_)
 rfl
def QQ(h:ab)(a:Int):Int:=if Rr h.K h.J a=3 then 2 else if Rr h.K h.J a=1 then 3 else 4
def vh(h:ab)(t:Nat)(a:Int)(o:ab.sml h)(k:aT h [])(B:h.G.Calls≠100000)(C:t<h.S.length)(e:dd (gf a) h.M = -1):zzA 33 false [.val (some 24) (ab.enc .V h),.val none [I (t:Nat)],.val none [I a]] (.tup [some 24,none]) (gJ h++[I (QQ h a)]):=by
 have g:=ko h o;rw[ng,k.to]at g;have b:=k.lens;have r:=b.objs;have u:=b.caches;have w:=b.spans;have y:=b.larges;have i:=aP (t:Nat) 0 (h.S.length - 1:Int);rw[O0 ω]at i;have j:=qS h a ω;rw[e]at j;have l:=yo h o;have n:=zJ h.K h.J a ⟨ω,λ_ _=>trivial⟩ ⟨ω,λ_ _=>trivial⟩ k.lay;unfold QQ;generalize Rr h.K h.J a=c at *;by_cases p:c=3
 ·rw[CC p]
  refine fP 163 [(99,[1,0,0]),(102,[1,0,0]),(103,[2,0]),(105,[2,0,0]),(109,[2,0,0])] [(20,12,[85,86,87,88,89,90,91,92,93,94,95,96]),(24,4,[111,112,113,114])] Tryz.func33 rfl ?_ (.inr (aQ (jE _) ⟨trivial,trivial⟩))
  repeat'(first|refine gB ?_|(conv=>whnf);first|with_reducible refine Bf.D (λd=>?_) (λd=>?_)|refine CB ?_|refine C8 (i) ?_|refine C8 (g) ?_|refine C8 (j) ?_|refine C8 (l) ?_|refine C8 (n) ?_)
  rfl
 rw[C9 p];by_cases q:c=1
 ·rw[CC q]
  refine fP 163 [(99,[1,0,0]),(102,[1,0,0]),(103,[2,0]),(105,[2,0,0]),(109,[2,0,0])] [(20,12,[85,86,87,88,89,90,91,92,93,94,95,96]),(24,4,[111,112,113,114])] Tryz.func33 rfl ?_ (.inr (aQ (jE _) ⟨trivial,trivial⟩))
  repeat'(first|refine gB ?_|(conv=>whnf);first|with_reducible refine Bf.D (λd=>?_) (λd=>?_)|refine CB ?_|refine C8 (i) ?_|refine C8 (g) ?_|refine C8 (j) ?_|refine C8 (l) ?_|refine C8 (n) ?_)
  rfl
 rw[C9 q];refine fP 163 [(99,[1,0,0]),(102,[1,0,0]),(103,[2,0]),(105,[2,0,0]),(109,[2,0,0])] [(20,12,[85,86,87,88,89,90,91,92,93,94,95,96]),(24,4,[111,112,113,114])] Tryz.func33 rfl ?_ (.inr (aQ (jE _) ⟨trivial,trivial⟩))
 repeat'(first|refine gB ?_|(conv=>whnf);first|with_reducible refine Bf.D (λd=>?_) (λd=>?_)|refine CB ?_|refine C8 (i) ?_|refine C8 (g) ?_|refine C8 (j) ?_|refine C8 (l) ?_|refine C8 (n) ?_)
 rfl
def D5(h:ab)(o:aY)(t:Nat)(S:ab.sml h)(N:dM h=true)(hc:h.G.Calls≠100000)(F:o∈h.M)(T:t<h.S.length):zzA 33 false [.val (some 24) (ab.enc .V h),.val none [I (t:Nat)],.val none [I o.Addr]] (.tup [some 24,none]) (gJ (freeT h t (jS h o.Addr)).1++[I (freeT h t (jS h o.Addr)).2]):=by
 by_cases U:o.a3=t
 ·have hh:=yU h o t S N hc F U
  rwa [<-tS (by obtain⟨-,d,-⟩:=(aT.of N).objAt F;rw[d];exact U)]at hh
 have b:=aT.of N;have G:=ko h S;rw[ng,N]at G;obtain⟨r,d,H⟩:=b.objAt F;have j:=mG b F;have hon:=b.onu o F;have a:=b.lens;have hno:=a.objs;have hnl:=a.larges;have hlc:=a.caches;have J:=aP (t:Nat) 0 (h.S.length - 1:Int);rw[O0 ω]at J;have C:=qS h o.Addr ω;rw[H]at C;have K:=yk h S (gl r);generalize jS h o.Addr=i at r d C;subst d;have O:=ao r;have P:=ny (nth h.M i).o;have u:=wP h.M i r;have V:=bj b.ker;have W:=eX h.G.F.R ((nth h.M i).Addr / 16) V.1.2;have p:gJ h=cE h (oS h) (oL h) (.s .own (h.M.map (aY.enc .own))):=by unfold gJ oO;rw[yJ λe=>gl r (List.map_eq_nil_iff.1 e)]
 unfold freeT;by_cases n:aG (nth h.M i).o<0
 ·rw[CC n]
  obtain⟨l,hl,h1,-⟩:=(dc b (am r)).1 n;obtain⟨M,ea,-,X⟩:=pU hl h1;have Y:=oC h.J (P1 (nth h.M i).Addr) ω;rw[show dd (P1 (nth h.M i).Addr) h.J=(sI h (nth h.M i).Addr:Nat) by unfold dd P1;rw[X]]at Y;generalize sI h (nth h.M i).Addr=g at M ea Y;have hf:=aK (b.L.lok _ (am M));have Z:=ao M;have E:=sO h.J g M;have Q:=lr {h with M:=dele h.M i,J:=dele h.J g} ⟨(nth h.J g).Q,(nth h.J g).a2⟩ (nth h.J g).a2.toNat b.ker hc (by show h.q.length<=_;have:=a.free;omega) ⟨by show(nth h.J g).a2=_;omega,by show 0<=(nth h.J g).Q;omega,by show(nth h.J g).Q<=_;omega,ω⟩;have hg:gJ {h with M:=dele h.M i,J:=dele h.J g} = cE h (oS h) (oE ((dele h.J g).map (ay.enc .own))) (oE ((dele h.M i).map (aY.enc .own))):=rfl;have hol:oL h=.s .own (h.J.map (ay.enc .own)):=by unfold oL;rw[yJ λe=>gl M (List.map_eq_nil_iff.1 e)]
  rw[hol]at K;rw[hg]at Q;have hpg:∀y∈h.J,0<=y.Q/\y.Q<=32:=λy hy=>by have:=aK (b.L.lok y hy);omega
  rcases qq (rows:=(dele h.M i).map (aY.enc .own)) with e|⟨-,e⟩<;>rcases qq (rows:=(dele h.J g).map (ay.enc .own)) with e'|⟨-,e'⟩
  all_goals
   rw[e]at u Q;rw[e']at E Q;refine fP 163 [(99,[1,0,0]),(102,[1,0,0]),(103,[2,0]),(105,[2,0,0]),(109,[2,0,0])] [(20,12,[85,86,87,88,89,90,91,92,93,94,95,96]),(24,4,[111,112,113,114])] Tryz.func33 rfl ?_ (.inr (aQ (jE _) ⟨trivial,trivial⟩))
   repeat'(first|refine gB ?_|(conv=>whnf);first|with_reducible refine Bf.D (λw=>?_) (λw=>?_)|refine CB ?_|refine C8 (J) ?_|refine C8 (G) ?_|refine C8 (C) ?_|refine C8 (K) ?_|refine C8 (P) ?_|refine CD (aa O) ?_|refine CD (aa Z) ?_|refine Cq.mk (xI (some 3) (ay.enc .V) (P1 (nth h.M i).Addr) h.J) (lT ⟨0,0,0⟩ (nth h.M i).Addr ⟨by decide,by decide⟩).has (λL k rcs hQ=>?_) ?_|refine C8 (Y) ?_|refine CK (u) (.inl rfl) ?_|refine CK (E) (.inl rfl) ?_|refine CK (Q) (.inl rfl) ?_)
   ·obtain⟨y,hy,rfl,rfl,rfl⟩:=hQ
    exact lT y _ (hpg y hy)
   rfl
 rw[C9 n];obtain⟨s1,s2,s3,s4⟩:=RQ.of b (am r) n;have hcz:=BL s1;by_cases R:(ac (tbl h) ((nth h.M i).Addr / 16)).j=1
 ·rw[CC R]
  unfold tbl at R;have c:=jE h;simp only;rw[p]at c |-;rcases qq (rows:=(dele h.M i).map (aY.enc .own)) with e|⟨-,e⟩
  all_goals
   rw[e]at u;refine fP 163 [(99,[1,0,0]),(102,[1,0,0]),(103,[2,0]),(105,[2,0,0]),(109,[2,0,0])] [(20,12,[85,86,87,88,89,90,91,92,93,94,95,96]),(24,4,[111,112,113,114])] Tryz.func33 rfl ?_ (.inr (aQ c ⟨trivial,trivial⟩))
   repeat'(first|refine gB ?_|(conv=>whnf);first|with_reducible refine Bf.D (λw=>?_) (λw=>?_)|refine CB ?_|refine CO (by decide) ?_|refine CM (kD j) ?_|refine C8 (J) ?_|refine C8 (G) ?_|refine C8 (C) ?_|refine C8 (K) ?_|refine C8 (P) ?_|refine CD (aa O) ?_|refine CK (u) (.inl rfl) ?_|refine C8 (W) ?_)
   rfl
 rw[C9 R,C9 U];unfold tbl at R;have c:=jE h;have q:=jE (wE h t i);have B:=dU (aG (nth h.M i).o);rw[show csz (aG (nth h.M i).o)=((csz (aG (nth h.M i).o)).toNat:Nat) by omega]at B;have cS:=Kb h.w t ⟨(nth h.M i).a3,(nth h.M i).Addr⟩ b.mail (by rw[<-b.nc];exact T);rcases qq (rows:=(dele h.M i).map (aY.enc .own)) with e|⟨-,e⟩
 all_goals
  have hoo:oO (wE h t i)=_:=e;rw[e]at u;have E:=o6 h (oS h) (oL h) (oE ((dele h.M i).map (aY.enc .own))) (nth h.M i).Addr (csz (aG (nth h.M i).o)).toNat b.ker j s2 ω s4;rw[e]at E;cases em:bu (dQ h.w t ⟨(nth h.M i).a3,(nth h.M i).Addr⟩)<;>rw[em]at cS
  ·rw[C9 (by simp)]at cS |-
   simp only;rw[p]at c |-;refine fP 163 [(99,[1,0,0]),(102,[1,0,0]),(103,[2,0]),(105,[2,0,0]),(109,[2,0,0])] [(20,12,[85,86,87,88,89,90,91,92,93,94,95,96]),(24,4,[111,112,113,114])] Tryz.func33 rfl ?_ (.inr (aQ c ⟨trivial,trivial⟩))
   repeat'(first|refine gB ?_|(conv=>whnf);first|with_reducible refine Bf.D (λw=>?_) (λw=>?_)|refine CB ?_|refine CO (by decide) ?_|refine CM (kD j) ?_|refine C8 (J) ?_|refine C8 (G) ?_|refine C8 (C) ?_|refine C8 (K) ?_|refine C8 (P) ?_|refine CD (aa O) ?_|refine CK (u) (.inl rfl) ?_|refine C8 (W) ?_|refine C8 (B) ?_|refine CK (E) (.inl rfl) ?_|refine C8 (cS) ?_|refine CB ?_)
   rfl
  rw[CC rfl]at cS |-;simp only;have he:gJ (wE h t i)=cE (wE h t i) (oS h) (oL h) (oE ((dele h.M i).map (aY.enc .own))):=rfl;rw[he,e]at q |-;refine fP 163 [(99,[1,0,0]),(102,[1,0,0]),(103,[2,0]),(105,[2,0,0]),(109,[2,0,0])] [(20,12,[85,86,87,88,89,90,91,92,93,94,95,96]),(24,4,[111,112,113,114])] Tryz.func33 rfl ?_ (.inr (aQ q ⟨trivial,trivial⟩))
  repeat'(first|refine gB ?_|(conv=>whnf);first|with_reducible refine Bf.D (λw=>?_) (λw=>?_)|refine CB ?_|refine CO (by decide) ?_|refine CM (kD j) ?_|refine C8 (J) ?_|refine C8 (G) ?_|refine C8 (C) ?_|refine C8 (K) ?_|refine C8 (P) ?_|refine CD (aa O) ?_|refine CK (u) (.inl rfl) ?_|refine C8 (W) ?_|refine C8 (B) ?_|refine CK (E) (.inl rfl) ?_|refine C8 (cS) ?_|refine CB ?_)
  rfl
structure uK(h g:ab):Prop where
 sp:∀s'∈g.K,∃s∈h.K,s.Q=s'.Q/\s.d=s'.d
 la:∀l∈g.J,l∈h.J
def uK.refl(h:ab):uK h h:=⟨λs a=>⟨s,a,rfl,rfl⟩,λ_ h=>h⟩
def uK.trans{h1 d:ab}(a:uK h h1)(b:uK h1 d):uK h d:=⟨λe c=>by
  obtain⟨f,g,i,j⟩:=b.sp e c;obtain⟨s,k,n,o⟩:=a.sp f g;exact⟨s,k,n.trans i,o.trans j⟩,λl p=>a.la l (b.la l p)⟩
def uK.freeS(h:ab){i:Nat}(e:i<h.K.length)(a:Int):uK h (freeS h i a):=by
 have c:uK h (clrS h i a):=by
  refine⟨λf b=>?_,λ_ h=>h⟩;rcases dH b with rfl|⟨j,d,-,rfl⟩
  ·exact⟨_,am e,rfl,rfl⟩
  exact⟨_,am d,rfl,rfl⟩
 unfold Ab.freeS;split
 ·refine c.trans ⟨λf b=>?_,λ_ h=>h⟩
  obtain⟨j,d,-,rfl⟩:=cV.1 b;exact⟨_,am d,rfl,rfl⟩
 exact c
def uK.recyc{h:ab}{E:List Int}{a:Int}{t:Nat}(b:aT h (a::E)):uK h (recyc t h a):=by
 unfold Ab.recyc;split
 ·exact⟨λs c=>⟨s,c,rfl,rfl⟩,λ_ h=>h⟩
 exact uK.freeS h (b.at (b.hin a (Z1 ..))).1 a
def uK.recycs{t:Nat}{E:List Int} : ∀{az:List Int}{h:ab},aT h (az++E)->t<h.S.length->uK h (recycs t h az)
 | [],h,_,_=>uK.refl h
 | a::az,h,b,c=>(uK.recyc (t:=t) b).trans (uK.recycs (az:=az) (h:=Ab.recyc t h a) (b.recyc c) (by rw[(lA t h a).1];exact c))
def uK.freeT{h:ab}{t i:Nat}(c:aT h [])(d:i<h.M.length)(e:t<h.S.length):uK h (freeT h t i).1:=by
 unfold Ab.freeT;split
 ·exact⟨λs a=>⟨s,a,rfl,rfl⟩,λl f=>(eI _ _).subset f⟩
 rename_i b;split
 ·exact uK.refl h
 split
 ·have h1:=c.inQuar d b
  have g:=uK.recycs (t:=t) (E:=[]) (az:=(rn h.a6 (gT h (nth h.M i))).map (·.Addr)) (h:=inQuar h i) (by rw[List.append_nil];exact h1) e;exact uK.trans (h1:=inQuar h i) ⟨λs a=>⟨s,a,rfl,rfl⟩,λ_ h=>h⟩ g
 split
 ·exact⟨λs a=>⟨s,a,rfl,rfl⟩,λ_ h=>h⟩
 exact uK.refl h
def EY{g:ab}(a:aT h [])(B:aT g [])(s:uK h g)(t:o∈h.M):(denotes g.K g.J o.Addr).b5=0\/(denotes g.K g.J o.Addr).c5=0:=by
 unfold denotes;cases e:g.K.findIdx? (cW · o.Addr) with
 | some i=>
  obtain⟨d,c,-⟩:=C7.1 e;have p:nth g.K i=g.K[i]:=bg (O2 d);rw[<-p]at c;have f:=B.L.sok _ (am d);have K:=(fy f).1 c;obtain⟨u,w,C,D⟩:=s.sp _ (am d);refine .inr ?_;show(o.Addr - 16*(nth g.K i).Q) % csz (nth g.K i).d=0;rcases a.oow o t with⟨v,q,b,E⟩|⟨l,k,F,G⟩
  ·have:=Dr a w q (by have:=b.1;have:=b.2.1;omega)
   subst this;have:=b.2.2.1;rw[<-C,<-D];exact this
  exfalso;have:=aK (a.L.lok l k);exact a.L.dis u w l k 0 ω ω
 | none=>
  simp only;cases H:g.J.findIdx? (bp · o.Addr) with
  | some i=>
   obtain⟨d,c,-⟩:=C7.1 H;have p:nth g.J i=g.J[i]:=bg (O2 d);rw[<-p]at c;refine .inr ?_;show o.Addr - 16*(nth g.J i).Q=0;have j:=s.la _ (am d);unfold bp at c;rw[I0,C0]at c;have y:=c.1;unfold bH at y;rw[C0]at y;rcases a.oow o t with⟨v,q,b,E⟩|⟨l,k,F,G⟩
   ·exfalso
    exact a.L.dis v q _ j (v.Q - (nth g.J i).Q).toNat (by have:=b.1;have:=b.2.1;omega) (by have:=b.1;have:=b.2.1;omega)
   obtain⟨m,A,rfl⟩:=aM k;obtain⟨n,J,r⟩:=aM j;have:=aK (a.L.lok _ (am A));have:=a.L.one m n A J 0 ((nth h.J m).Q - (nth g.J i).Q).toNat ω (by rw[r];omega) (by rw[r];omega);subst this;rw[<-r];omega
  | none=>exact .inl rfl
def Li{g:ab}(c:aT h [])(d:aT g [])(s:uK h g)(f:o∈h.M):QQ g o.Addr=4\/QQ g o.Addr=2:=by
 have i:=EY c d s f;unfold QQ Rr;rcases i with e|e
 ·rw[CC e,CC rfl];exact .inr rfl
 rw[e];by_cases a:(denotes g.K g.J o.Addr).b5=0
 ·rw[CC a,CC rfl];exact .inr rfl
 rw[C9 a];by_cases b:(denotes g.K g.J o.Addr).b5=2
 ·rw[CC b];exact .inl rfl
 rw[C9 b];exact .inl rfl
def vj{m:aJ}{f:Nat}{p:de} : ∀n,br (dQ m f p) n=br m n+(if f<n/\f<m.T.length then 1 else 0)
 | 0=>by rw[C9 ω];rfl
 | n+1=>by
  have a:=vj (m:=m) (f:=f) (p:=p) n;show br (dQ m f p) n+((nth (m.T.set f (nth m.T f++[p])) n).length+(nth m.y n).length)=br m n+((nth m.T n).length+(nth m.y n).length)+_;rw[a,bw];by_cases e:f=n/\n<m.T.length
  ·rw[CC e,C9 ω,CC ω,U3,List.length_singleton,e.1]
   omega
  rw[C9 e];split<;>split<;>omega
def Ki{m:aJ}(c:bu m=true)(d:f<m.T.length){p:de}(n:0<=p.To/\p.To<=(m.T.length:Int) - 1/\0<=p.Addr)(g:bu (dQ m f p)=false):30<=(aN m).length:=by
 refine Classical.byContradiction λh=>?_
 obtain⟨o,j,r⟩:=df.1 c;have b:=nB c;have t:=qX m b.2.2 m.T.length (I3 _);rw[lW c,U3,b.2.2]at h;have:bu (dQ m f p)=true:=by
  refine df.2 ⟨?_,λi k=>?_,?_⟩
  ·show 1<=(m.T.set f _).length/\(m.T.set f _).length<=4/\m.y.length=(m.T.set f _).length
   rw[U1];exact o
  ·have l:(dQ m f p).T.length=m.T.length:=U1 ..
   rw[l]at k |-;refine⟨λq a=>?_,(j i k).2⟩;change q∈nth (m.T.set f (nth m.T f++[p])) i at a;rw[bw]at a;split at a
   ·rename_i e
    rcases C3.1 a with a|a
    ·exact(j f d).1 q a
    rw[O1.1 a];exact n
   exact(j i k).1 q a
  have l:(dQ m f p).T.length=m.T.length:=U1 ..;rw[l,vj,CC ⟨d,d⟩];omega
 rw[g]at this;cases this
def Ht(h:ab)(t i:Nat):(freeT h t i).1.w.T.length=h.w.T.length:=by
 unfold freeT
 repeat' split
 ·rfl
 ·rfl
 ·have e:(vt h t i).w=h.w:=(dE _ _ _).2.2.2.1
  show(vt h t i).w.T.length=_;rw[e]
 ·exact U1 ..
 rfl
def Hz{t:Nat}(a:aT h [])(d:i<h.M.length)(n:t<h.S.length)(e:(freeT h t i).2=5):(ac (tbl h) ((nth h.M i).Addr / 16)).j=1\/((nth h.M i).a3≠t/\30<=(aN h.w).length):=by
 unfold freeT at e;split at e
 ·exact absurd (show(0:Int)=5 from e) (by decide)
 split at e
 ·rename_i j;exact .inl j
 split at e
 ·exact absurd (show(0:Int)=5 from e) (by decide)
 rename_i b;split at e
 ·exact absurd (show(0:Int)=5 from e) (by decide)
 rename_i c;refine .inr ⟨b,?_⟩;have g:=a.onu _ (am d);have k:=mG a (am d);have l:=a.nc;exact Ki a.mail (f:=t) ω (p:=⟨(nth h.M i).a3,(nth h.M i).Addr⟩) ⟨g.2.2.1,by have:=g.2.2.2;simp only;omega,k.1⟩ (by simpa using c)
def sm{α:Type}(f:α->Int):List α->Int
 | []=>0
 | a::l=>f a+sm f l
set_option maxHeartbeats 2000000
def cells1(xs:List Int)(i:Nat)(h:i<xs.length):[rI .V (nth xs i)]=((xs.map (rI .V)).take (i+1)).drop i:=by
 rw[List.drop_take,<-I4,gt h,show i+1 - i=1 by omega]
 rfl
def Hq(h:ab)(t n:Int):cls (allocH h t n).1<=cls h+63:=by
 have a:cls h<=cls h+63:=ω
 unfold allocH;split
 ·exact a
 split
 ·exact a
 split
 ·exact a
 rename_i c;split
 ·exact a
 split
 ·have:=Kq h t.toNat (aG n).toNat
  split
  ·show cls (smallA h t.toNat (aG n).toNat).1<=_;omega
  show cls (smallA h t.toNat (aG n).toNat).1<=_;omega
 have d:(gG n:Int)<=63:=by unfold gG;omega
 unfold largeA;split
 ·exact a
 have b:=Gh h.G (au h.q (gG n:Nat)).2.1 (gG n);unfold cls;split
 ·exact t5 b ω
 exact t5 (z5 (jr _ _ _).1) (t5 b ω)
def HY{h:ab}(a:aT h [])(b:JI h):∀n:Nat,cls (stN h n).1<=cls h+n
 | 0=>by show cls h<=cls h+((0:Nat):Int);omega
 | n+1=>by
  obtain⟨c,f⟩:=rd a b n;have d:=HY a b n;unfold stN;split
  ·rename_i e
   unfold ro at e;rw[I0,C0]at e;have:=(wN c e.1).2.1;unfold cls at d |-;simp only;omega
  omega
def KO(h:qY w m)(a:eA):cls (kG w a).1.X<=cls w.X+63:=by
 have b:cls w.X<=cls w.X+63:=ω
 unfold kG;split
 ·exact Hq _ _ _
 split
 ·split
  ·exact b
  unfold kZ;split
  ·unfold nq
   split
   ·exact b
   split
   ·exact t5 (z5 (El _ _ _)) b
   exact b
  split
  ·unfold lw
   split
   ·exact b
   split
   ·exact b
   split<;>exact b
  unfold nJ;split
  ·exact t5 (z5 (((jr _ _ _).1).trans (my _ _ _).2.1)) b
  exact b
 split
 ·unfold fk
  split
  ·split<;>exact b
  split
  ·exact b
  split
  ·exact t5 (z5 (dE _ _ _).2.2.1) b
  exact t5 (z5 (An _ _ _)) b
 split
 ·unfold ma
  split
  ·exact t5 (z5 (fK _ _).2.2.1) b
  exact b
 split
 ·unfold lU
  split
  ·exact b
  show cls (started w.X).1<=_;unfold cls;rw[(p7 h.inv).2.1];exact b
 split
 ·rename_i e
  have:=HY h.inv h.ji a.N.toNat;show cls (stN w.X a.N.toNat).1<=_;omega
 exact b
def JQ{c:cH}(h:DA c)(acts:List eA):∀n:Nat,cls (wd c acts n).1.X<=63*n
 | 0=>by show(0:Int)<=63*((0:Nat):Int);decide
 | n+1=>by
  have a:=JQ h acts n;have b:=KO (qZ h acts n) (nth acts n);show cls (kG (wd c acts n).1 (nth acts n)).1.X<=_;omega
def K3(zs:List Int):(drawn zs).X.G.Calls<=2520/\(drawn zs).X.b<=41:=by
 have a:(nK zs).i<=zs.length:=W0 _;obtain⟨b,d⟩:=mS a;have g:=bG zs (dI zs) (n:=41) (by decide);obtain⟨e,-,-⟩:=pw (zs:=zs) (c:=dI zs) d (n:=(bt zs (dI zs) 41).1.toNat) ω;have f:=JQ b (kn zs (dI zs)).1 (kn zs (dI zs)).1.length;have h:(kn zs (dI zs)).1.length<=40:=by
  show(lD zs (dI zs) _).1.length<=40;rw[e];omega
 have j:=(x8 zs).ref.nx.2;have k:=(Ed zs).rs.nx;refine⟨?_,ω⟩;show cls (wd _ _ _).1.X<=_;exact t5 f ω
section
variable{P:Program}{w0 w w1:World}{M S0 S:af}{N:fm}{φ:Nat->af}{F:Nat->AV}{a:Act}{TE:Nat->Option TI}
end
def zt(h:ab)(z:Int)(n:Nat)(d:ab.sml h)(k:ab.wf h)(a:dM h=true)(g:n<h.M.length)(l:(nth h.M n).Id=z):zzA 36 false [.val (some 24) (ab.enc .V h),.val none [I z]] (.tup [none,none]) [.s .own ((gm h n).map (rI .own)),B true]:=by
 have c:=vg h d k;rw[a]at c;have o:h.M.length<=1048576:=d.2.2.2.2.1.1;have q:=tK a g;have j:=zk h (nth h.M n) (tj a) ω ω;change ar _ _ _ _ _ (aF .own (gm h n)) at j;refine fO 33 [] Tryz.func36 rfl ?_ (.inr ⟨⟨.inl λh=>(by cases h),aZ _ _ λy _=>o7 y⟩,trivial,trivial⟩)
 repeat'(first|refine gP ?_|(conv=>whnf);first|refine CB ?_)
 (conv=>whnf)
 refine CG (ι:=Nat) (λi=>[(1,.H .one [I (z)]),(2,.H .box (ab.enc .V h)),(6,.H .one [I ((i:Nat):Int)])]) (λi=>i<=n) (λi=>n - i) (0) ?_ (W0 _) λi r=>?_
 ·exact wC
 have b:=ao (xs:=h.M) (i:=i) ω;by_cases e:i=n
 ·subst e
  repeat'(first|refine gB ?_|(conv=>whnf);first|with_reducible refine CD (aa b) ?_|refine CB ?_|refine C8 (c) ?_|refine CF (j) ⟨ab.enc_fzi h,⟨rfl,rfl⟩,trivial⟩ ?_|refine CH rfl (aa b) rfl ?_)
  rfl
 have p:(nth h.M i).Id≠z:=by
  rw[<-l];exact M5 a ω g e
 repeat'(first|refine gB ?_|(conv=>whnf);first|with_reducible refine CD (aa b) ?_|refine CB ?_|refine C8 (c) ?_|refine CH rfl (aa b) rfl ?_)
 ((conv=>whnf);refine CE (i+1) ω ω ?_;(exact wC))
def sQ(zs:List Int):Nat->List Int × iC
 | 0=>([],nK zs)
 | n+1=>((sQ zs n).1++[(bt zs (sQ zs n).2 10000).1],(bt zs (sQ zs n).2 10000).2)
def D8(zs:List Int):∀n,(sQ zs n).2.i<=zs.length/\(sQ zs n).1.length=n/\∀x∈(sQ zs n).1,0<=x/\x<10000
 | 0=>⟨W0 _,rfl,λx a=>by cases a⟩
 | n+1=>by
  obtain⟨b,c,d⟩:=D8 zs n;refine⟨bR b _,by show((sQ zs n).1++[_]).length=_;rw[U3,c];rfl,λx a=>?_⟩;rcases C3.1 a with a|a
  ·exact d x a
  rw[O1.1 a];exact bG zs (sQ zs n).2 (n:=10000) (by decide)
def v6(zs:List Int)(a:j7 zs):zzA 16 false [.val none (Rd zs)] .one (aF .own (sQ zs 12).1):=by
 have b:=vd zs a;refine fP 19 [(61,[2,0]),(3000003,[])] [] Tryz.func16 rfl ?_ (.inr (bM _))
 repeat'(first|refine gP ?_|(conv=>whnf);first|refine Cl.g b (.inr rfl) ?_)
 (conv=>whnf)
 refine CG (ι:=Nat) (λi=>[(0,.H .one (Rd zs)),(3,.H .box (io zs (sQ zs i).2)),(4,.H .one (aF .own (sQ zs i).1)),(5,.H .one [I ((i:Nat):Int)])]) (λi=>i<=12) (λi=>12 - i) (0) ?_ (W0 _) λi j=>?_
 ·repeat'(first|exact trivial|rfl |exact mL c|exact dL _|refine CL ?_ ?_|(exact A7 (by first|omega|(simp only;omega)|(simp;omega))))
 obtain⟨d,k,-⟩:=D8 zs i;by_cases l:i<12
 ·have e:=bP zs (sQ zs i).2 10000 a d (by decide)
  repeat'(first|refine gE ?_|(conv=>whnf);first|refine CK (e) (.inl rfl) ?_|refine CU cA (λr h=>by rw[O1.1 h];rfl) (by simp[bm,eH]) (by simp;omega) (by simp only[C1];exact yV (by simp;omega) (by decide)) rfl ?_)
  ((conv=>whnf);refine CE (i+1) ω ω ?_)
  repeat'(first|exact trivial|rfl| exact dL _ |exact mL (X0 (C.s dJ.own) (by simp[sQ,rI]))|refine CL ?_ ?_|(exact A7 (by first|omega|(simp only;omega)|(simp;omega))))
 obtain rfl:i=12:=ω
 repeat'(first|refine gE ?_|fail)
 rfl
def FR(a:List Int)(d:a.length<=1048576):zzA 37 false [.val none (aF .V a),.val none (aF .V a)] .one [B true]:=by
 refine fO 26 [(6,8,[17,18,19,20,21,22,23,24])] Tryz.func37 rfl ?_
 repeat'(first|refine gB ?_|fail)
 (conv=>whnf)
 refine CG (ι:=Nat) (λi=>[(0,.H .one (aF .V a)),(1,.H .one (aF .V a)),(5,.H .one [I ((i:Nat):Int)])]) (λi=>i<=a.length) (λi=>a.length - i) (0) ?_ (W0 _) λi e=>?_
 ·exact wC
 by_cases b:i<a.length
 ·have c:=ao b
  repeat'(first|refine gB ?_|(conv=>whnf);first|with_reducible refine CD (aa c) ?_)
  ((conv=>whnf);refine CE (i+1) ω ω ?_;(exact wC))
 repeat'(first|refine gE ?_|fail)
 rfl
def npg(h:ab):Nat:=h.G.F.R.O.length
def Dl(k:ah)(p:Int):(newK k p).1.F.R.O.length=k.F.R.O.length:=by unfold newK;split;exact rfl;exact U1 ..
def sH(k:ah)(p:Int):∀n,(newsK k p n).1.F.R.O.length=k.F.R.O.length
 | 0=>rfl
 | n+1=>by
  unfold newsK;split
  ·exact(Dl _ _).trans (sH k p n)
  exact sH k p n
def MH(h:ab)(i:Nat):npg (lR h i).1=npg h:=by unfold lR;split<;>rfl
def AC(h:ab)(t c:Nat):npg (smallA h t c).1=npg h:=by
 unfold smallA;split
 ·rfl
 split
 ·rfl
 split
 ·rfl
 split
 ·exact Dl _ _
 exact(MH _ _).trans (Dl _ _)
def Lo(h:ab)(t n:Int):npg (allocH h t n).1=npg h:=by
 unfold allocH;split
 ·rfl
 split
 ·rfl
 split
 ·rfl
 split
 ·rfl
 split
 ·split
  ·exact AC _ _ _
  exact AC _ _ _
 unfold largeA;split
 ·rfl
 split
 ·exact sH _ _ _
 exact((dS _ _ _).1).trans (sH _ _ _)
def Gg(h:ab)(i:Nat)(a:Int):npg (freeS h i a)=npg h:=by
 unfold freeS;split
 ·exact(jm _ _).1
 rfl
def Mm(t:Nat)(h:ab)(a:Int):npg (recyc t h a)=npg h:=by
 unfold recyc;split
 ·rfl
 exact Gg _ _ _
def uq(t:Nat):∀(az:List Int)(h:ab),npg (recycs t h az)=npg h
 | [],_=>rfl
 | a::az,h=>(uq t az (recyc t h a)).trans (Mm t h a)
def tR:∀(az:List Int)(h:ab),npg (freeAs h az)=npg h
 | [],_=>rfl
 | a::az,h=>(tR az (freeA h a)).trans (Gg _ _ _)
def N8(h:ab)(t i:Nat):npg (freeT h t i).1=npg h:=by
 unfold freeT;split
 ·exact(dS _ _ _).1
 split
 ·rfl
 split
 ·exact uq t _ _
 split<;>rfl
def AY(t:Nat)(h:ab):∀k,npg (flushN t h k).1=npg h
 | 0=>rfl
 | k+1=>(tR _ (spilt (flushN t h k).1 t k)).trans (AY t h k)
def Pq(a:aT h [])(b:h.u=true):npg (mStep h)=npg h:=(JS.of a b).len
def Hg{h:ab}(a:aT h [])(b:JI h):∀n,npg (stN h n).1=npg h
 | 0=>rfl
 | n+1=>by
  obtain⟨c,d⟩:=rd a b n;unfold stN;split
  ·rename_i e
   unfold ro at e;rw[I0]at e;exact(Pq c e.1).trans (Hg a b n)
  exact Hg a b n
def LD(h:qY w m)(a:eA):npg (kG w a).1.X=npg w.X:=by
 unfold kG;split
 ·exact Lo _ _ _
 split
 ·split
  ·rfl
  unfold kZ;split
  ·unfold nq
   split
   ·rfl
   split
   ·exact N8 _ _ _
   rfl
  split
  ·unfold lw
   split
   ·rfl
   split
   ·rfl
   split<;>rfl
  unfold nJ;split
  ·exact((dS _ _ _).1).trans (X0 (λt:aI=>t.O.length) (my _ _ _).1)
  rfl
 split
 ·unfold fk
  split
  ·split<;>rfl
  split
  ·rfl
  split
  ·exact uq _ _ _
  exact AY _ _ _
 split
 ·unfold ma
  split
  ·exact tR _ _
  rfl
 split
 ·unfold lU
  split
  ·rfl
  show npg (started w.X).1=_;unfold npg;rw[(p7 h.inv).2.1]
 split
 ·exact Hg h.inv h.ji _
 rfl
def MJ{c:cH}(h:DA c)(acts:List eA):∀n,npg (wd c acts n).1.X=npg (wd c acts 0).1.X
 | 0=>rfl
 | n+1=>(LD (qZ h acts n) _).trans (MJ h acts n)
def NQ(zs:List Int):npg (drawn zs).X<=12:=by
 have a:(nK zs).i<=zs.length:=W0 _;have e:=MJ (mS a).1 (kn zs (dI zs)).1 (kn zs (dI zs)).1.length;have b:=bG zs (nK zs) (n:=7) (by decide);change npg (drawn zs).X=(eS (o9 zs (nK zs)).a2).O.length at e;have c:(eS (o9 zs (nK zs)).a2).O.length=(6+(bt zs (nK zs) 7).1).toNat:=Y3 ..;omega
def Freed_law(zs:List Int)(hw:zs.length<=9223372036854775807/\∀y∈zs,0<=y/\y<=255):zzA 8 false [.val none (Rd zs)] .one [B true]:=by
 have K:=Rk zs hw.1;by_cases hb:(zs.length:Int) > 1048576
 ·rw[O0 hb]at K
  refine fO 166 [(9,12,[39,40,41,42,43,44,45,46,47,48,49,8]),(10,6,[50,51,52,53,54,55]),(19,267,[107,108,109,110,111,112,113,114,106,115,116,0,1,2,3,4,5,6,7,8,9,10,11,1010,12]),(20,267,[118,119,120,121,122,123,124,125,117,126,127,0,1,2,3,4,5,6,7,8,9,10,11,1010,12]),(21,20,[128,129,130,131,132,133,134,135,136,137,138,139,140,141,142,143,144,145,146,147])] Tryz.func8 rfl ?_
  repeat'(first|refine gP ?_|(conv=>whnf);first|refine CB ?_|refine C8 (K) ?_)
  rfl
 rw[U0 hb]at K;have hz:j7 zs:=⟨ω,hw.2⟩
 have cD:=wJ zs hz;have cP:=v6 zs hz;obtain⟨-,pl,pb⟩:=D8 zs 12;have Z:=x8 zs;have hcw:=Ed zs;obtain⟨hcl,-⟩:=K3 zs;have hrf:=Gr zs;have hpg:=NQ zs;obtain⟨hs,hwf⟩:=Lv zs;generalize drawn zs=w at *;generalize (sQ zs 12).1=Y at *;have g:=ao (xs:=Y) (i:=0) ω;have h:=ao (xs:=Y) (i:=1) ω;have hpb:=pb _ (am (xs:=Y) (i:=0) ω);have hpc:=pb _ (am (xs:=Y) (i:=1) ω);generalize nth Y 0=p at *;generalize nth Y 1=q at *;have a:=Z.inv;have hh:=a.to;have hlo:=a.lens.objs;have hlc:=a.lens.caches;have hc1:0<w.X.S.length:=by
  obtain⟨⟨m1,-,-⟩,-⟩:=df.1 a.mail;have:=a.nc;omega
 have l:w.X.G.Calls≠100000:=ω
 by_cases hz0:w.X.M.length=0
 ·have hnil:w.X.M=[]:=S7 hz0
  have F:=vh w.X 0 511 hs a l hc1 (by rw[hnil];rfl);have M:QQ w.X 511=2:=by
   have hk:(denotes w.X.K w.X.J 511).b5=0:=by
    have G:∀x∈pgs w.X.K w.X.J,x<12:=λx H=>by
     have h1:=a.pg.bnd x H;have N:((tbl w.X).O.length:Int)<=12:=by unfold npg at hpg;exact_mod_cast hpg
     omega
    unfold denotes;cases e:w.X.K.findIdx? (cW · 511) with
    | some i=>
     exfalso;obtain⟨b,u,-⟩:=C7.1 e;have P:nth w.X.K i=w.X.K[i]:=bg (O2 b);rw[<-P]at u;have hr:=(fy (a.L.sok _ (am b))).1 u;have:=G _ (d7 (la:=w.X.J) (am b));omega
    | none=>
     simp only;cases e2:w.X.J.findIdx? (bp · 511) with
     | some i=>
      exfalso;obtain⟨b,u,-⟩:=C7.1 e2;have P:nth w.X.J i=w.X.J[i]:=bg (O2 b);rw[<-P]at u;unfold bp at u;rw[I0,C0]at u;have h8:=u.1;unfold bH at h8;rw[C0]at h8;have:=G _ (fC (sp:=w.X.K) (am b) (dq.2 ⟨(511 / 16 - (nth w.X.J i).Q).toNat,ω,rfl⟩));omega
     | none=>rfl
   unfold QQ Rr;rw[hk];rfl
  rw[M]at F;refine fO 166 [(9,12,[39,40,41,42,43,44,45,46,47,48,49,8]),(10,6,[50,51,52,53,54,55]),(19,267,[107,108,109,110,111,112,113,114,106,115,116,0,1,2,3,4,5,6,7,8,9,10,11,1010,12]),(20,267,[118,119,120,121,122,123,124,125,117,126,127,0,1,2,3,4,5,6,7,8,9,10,11,1010,12]),(21,20,[128,129,130,131,132,133,134,135,136,137,138,139,140,141,142,143,144,145,146,147])] Tryz.func8 rfl ?_
  repeat'(first|refine gB ?_|(conv=>whnf);first|refine CB ?_|refine C8 (K) ?_|refine C8 (cD) ?_|refine C8 (cP) ?_|refine CF (F) ⟨⟨rfl,ab.enc_fz _⟩,⟨rfl,rfl⟩,⟨rfl,rfl⟩,trivial⟩ ?_)
  rfl
 have wm:=eG (y:=(w.X.M.length:Nat)) hpb.1;obtain⟨i,hie⟩:=z3 (Int.emod_nonneg p (show((w.X.M.length:Nat):Int)≠0 by omega));have hil:=Int.emod_lt_of_pos p (show(0:Int)<(w.X.M.length:Nat) by omega);rw[hie]at wm hil;have b:i<w.X.M.length:=ω
 have wt:=eG (y:=(w.X.S.length:Nat)) hpc.1;obtain⟨t,ht⟩:=z3 (Int.emod_nonneg q (show((w.X.S.length:Nat):Int)≠0 by omega));have htl:=Int.emod_lt_of_pos q (show(0:Int)<(w.X.S.length:Nat) by omega);rw[ht]at wt htl;have d:t<w.X.S.length:=ω
 have H:=ao b;have hob:=mG a (am b);have F:=D5 w.X (nth w.X.M i) t hs hh l (am b) d;obtain⟨oi,oe,-⟩:=a.objAt (am b);have hix:jS w.X (nth w.X.M i).Addr=i:=ce (f:=(·.Addr)) (cQ a.osr) oi b (by rw[oe]);rw[hix]at F;have hwt:=Hz a b d;have J:=(xd w.X t i).2;obtain⟨Q,-⟩:=a.freeT (t:=t) b d;obtain⟨xc,xk⟩:=CI.freeT (t:=t) a Z.ji hcw.ci b d;have xs:=uK.freeT (t:=t) a b d;have R:=FX w.X t i;unfold rfs at R;have S:=El w.X t i;unfold cls at S;have hca:(freeT w.X t i).1.S.length=w.X.S.length:=by
  have h1:=Q.nc;have N:=a.nc;have h3:(freeT w.X t i).1.w.T.length=w.X.w.T.length:=Ht w.X t i;omega
 have hfx:=vV (freeT w.X t i).1;generalize freeT w.X t i=r at *;obtain⟨X,c⟩:=r;simp only at F hwt J Q xc xk xs R S hca hfx;rcases J with⟨rfl,xo⟩|⟨rfl,-⟩
 rotate_left
 ·-- one must wait
  have hw2:=hwt rfl;have c2:=cz w.X.G.F.R ((nth w.X.M i).Addr / 16) hs.1.1.2;have c3:=qz w.X.w hs.2.2.2.2.2.2.1;have wq:IntKind.i64.wrap ((nth w.X.M i).Addr.tdiv 16)=(nth w.X.M i).Addr / 16:=by rw[jX ω];exact fo ω ω
  change (ac w.X.G.F.R ((nth w.X.M i).Addr / 16)).j=1\/_ at hw2;generalize ac w.X.G.F.R ((nth w.X.M i).Addr / 16)=E at *;by_cases hm1:E.j=1
  ·refine fO 166 [(9,12,[39,40,41,42,43,44,45,46,47,48,49,8]),(10,6,[50,51,52,53,54,55]),(19,267,[107,108,109,110,111,112,113,114,106,115,116,0,1,2,3,4,5,6,7,8,9,10,11,1010,12]),(20,267,[118,119,120,121,122,123,124,125,117,126,127,0,1,2,3,4,5,6,7,8,9,10,11,1010,12]),(21,20,[128,129,130,131,132,133,134,135,136,137,138,139,140,141,142,143,144,145,146,147])] Tryz.func8 rfl ?_
   repeat'(first|refine gB ?_|(conv=>whnf);first|with_reducible refine CD (aa H) ?_|refine CB ?_|refine CD (aa g) ?_|refine CD (aa h) ?_|refine CH rfl (aa g) rfl ?_|refine CH rfl (aa h) rfl ?_|refine CH rfl (aa H) rfl ?_|refine CO ω ?_|refine CO (by decide) ?_|refine CR wm ?_|refine CR wt ?_|refine CM wq ?_|refine C8 (K) ?_|refine C8 (cD) ?_|refine C8 (cP) ?_|refine CF (F) ⟨⟨rfl,ab.enc_fz _⟩,⟨rfl,rfl⟩,⟨rfl,rfl⟩,trivial⟩ ?_|refine CF (c2) ⟨⟨rfl,CZ _⟩,⟨rfl,rfl⟩,trivial⟩ ?_|refine CB ?_)
   all_goals rfl
  obtain⟨n1,n2⟩:=hw2.resolve_left hm1;refine fO 166 [(9,12,[39,40,41,42,43,44,45,46,47,48,49,8]),(10,6,[50,51,52,53,54,55]),(19,267,[107,108,109,110,111,112,113,114,106,115,116,0,1,2,3,4,5,6,7,8,9,10,11,1010,12]),(20,267,[118,119,120,121,122,123,124,125,117,126,127,0,1,2,3,4,5,6,7,8,9,10,11,1010,12]),(21,20,[128,129,130,131,132,133,134,135,136,137,138,139,140,141,142,143,144,145,146,147])] Tryz.func8 rfl ?_
  repeat'(first|refine gB ?_|(conv=>whnf);first|with_reducible refine CD (aa H) ?_|refine CB ?_|refine CD (aa g) ?_|refine CD (aa h) ?_|refine CH rfl (aa g) rfl ?_|refine CH rfl (aa h) rfl ?_|refine CH rfl (aa H) rfl ?_|refine CO ω ?_|refine CO (by decide) ?_|refine CR wm ?_|refine CR wt ?_|refine CM wq ?_|refine C8 (K) ?_|refine C8 (cD) ?_|refine C8 (cP) ?_|refine CF (F) ⟨⟨rfl,ab.enc_fz _⟩,⟨rfl,rfl⟩,⟨rfl,rfl⟩,trivial⟩ ?_|refine CF (c2) ⟨⟨rfl,CZ _⟩,⟨rfl,rfl⟩,trivial⟩ ?_|refine CF (c3) ⟨⟨rfl,aJ.enc_fz _⟩,trivial⟩ ?_|refine CB ?_)
  all_goals first|rfl|exact X0 (λz=>[B z]) (O0 ω)
 have fs:=(Q.fit (by rw[R];exact hrf) (kB.of Q.mail).sml).sml;have T:=Q.to;have C:∀o,o∈X.M↔∃j,j<w.X.M.length/\j≠i/\nth w.X.M j=o:=λo=>by rw[xo];exact cV
 have U:dd (gf (nth w.X.M i).Addr) X.M = -1:=by
  rcases iD (gf (nth w.X.M i).Addr) X.M with e|⟨n,P,e,u⟩
  ·exact e
  exfalso;obtain⟨j,V,W,ej⟩:=(C _).1 (am P);have N:(nth X.M n).Addr=(nth w.X.M i).Addr:=of_decide_eq_true u;rw[<-ej]at N;exact W (ce (f:=(·.Addr)) (cQ a.osr) V b N)
 have c4:=vh X t (nth w.X.M i).Addr fs Q (by rw[S];exact l) (by rw[hca];exact d) U;have hag:=Li a Q xs (am b);generalize QQ X (nth w.X.M i).Addr=ag at c4 hag;have c5:=ko X fs;rw[ng,T]at c5;have M:zzA 28 false [.val (some 24) (ab.enc .V X),.val none [I (nth w.X.M i).Id]] (.tup [none,none]) [.s .own [],B false]:=by
  refine FH X _ fs ?_;rcases iD (ee (nth w.X.M i).Id) X.M with e|⟨n,P,e,u⟩
  ·exact e
  exfalso;obtain⟨j,V,W,ej⟩:=(C _).1 (am P);have N:(nth X.M n).Id=(nth w.X.M i).Id:=of_decide_eq_true u;rw[<-ej]at N;exact W (ce (f:=(·.Id)) a.oid V b N)
 have hyes:∀j,j<w.X.M.length->j≠i->zzA 28 false [.val (some 24) (ab.enc .V X),.val none [I (nth w.X.M j).Id]] (.tup [none,none]) [.s .own ((gm w.X j).map (rI .own)),B true]:=λj V W=>by
  have hm:=(C _).2 ⟨j,V,W,rfl⟩;obtain⟨n,ln,en⟩:=aM hm;have c6:=Fy X (nth w.X.M j).Id n fs T ln ((Rg T ln).1 (by rw[en]));have e:gm X n=gm w.X j:=by
   unfold gm;rw[en];exact mC λx x1 x2=>(xk _ hm).2 x x1 ω
  rw[e]at c6;exact c6
 have hid:∀j,j<w.X.M.length->j≠i->(nth w.X.M j).Id≠(nth w.X.M i).Id:=λj V W e=>W (ce (f:=(·.Id)) a.oid V b e)
 have D:=vV X;generalize hO:nth w.X.M i=O at *;have hOe:aY.enc .own O=[I O.Id,I O.Addr,I O.o,I O.a3]:=rfl;refine fO 166 [(9,12,[39,40,41,42,43,44,45,46,47,48,49,8]),(10,6,[50,51,52,53,54,55]),(19,267,[107,108,109,110,111,112,113,114,106,115,116,0,1,2,3,4,5,6,7,8,9,10,11,1010,12]),(20,267,[118,119,120,121,122,123,124,125,117,126,127,0,1,2,3,4,5,6,7,8,9,10,11,1010,12]),(21,20,[128,129,130,131,132,133,134,135,136,137,138,139,140,141,142,143,144,145,146,147])] Tryz.func8 rfl ?_
 repeat'(first|refine gB ?_|(conv=>whnf);first|with_reducible refine CD (aa H) ?_|refine CB ?_|refine CD (aa g) ?_|refine CD (aa h) ?_|refine CH rfl (aa g) rfl ?_|refine CH rfl (aa h) rfl ?_|refine CH rfl (aa H) rfl ?_|refine CO ω ?_|refine CO (by decide) ?_|refine CR wm ?_|refine CR wt ?_|refine C8 (K) ?_|refine C8 (cD) ?_|refine C8 (cP) ?_|refine CF (F) ⟨⟨rfl,ab.enc_fz _⟩,⟨rfl,rfl⟩,⟨rfl,rfl⟩,trivial⟩ ?_|refine CF (c4) ⟨⟨rfl,hfx⟩,⟨rfl,rfl⟩,⟨rfl,rfl⟩,trivial⟩ ?_|refine CB ?_)
 (conv=>whnf)
 refine CG (ι:=Nat) (λk=>[(4,.H .box (ab.enc .own w.X)),(8,.H .box (aY.enc .own O)),(10,.H .box (gJ X)),(11,.H .one [I (0)]),(14,.H .one [I (ag)]),(15,.H .one [I ((k:Nat):Int)])]) (λk=>k<=w.X.M.length) (λk=>w.X.M.length - k) (0) ?_ (W0 _) λk hk=>?_
 ·exact wC
 by_cases lk:k<w.X.M.length
 ·have hy:=ao lk
  have c7:=zt w.X (nth w.X.M k).Id k hs hwf hh lk rfl;by_cases ek:k=i
  ·subst ek
   rw[hO]at hy c7;have hb1:(false == (O.Id == O.Id))=false:=by simp
   repeat'(first|refine gB ?_|(conv=>whnf);first|with_reducible refine CD (aa hy) ?_|refine CB ?_|refine Bf.f hb1 ?_|refine CH rfl (aa hy) rfl ?_|refine CF (c7) ⟨⟨rfl,ab.enc_fz _⟩,⟨rfl,rfl⟩,trivial⟩ ?_|refine CF (M) ⟨⟨rfl,D⟩,⟨rfl,rfl⟩,trivial⟩ ?_|refine CB ?_)
   ((conv=>whnf);refine CE (k+1) ω ω ?_;(exact wC))
  have c8:=hyes k lk ek;have hne:=hid k lk ek;have hol:=DT hh lk;have c9:=FR (gm w.X k) ω;generalize gm w.X k=cs at *;have hcf:=eY cs;have hb2:(true == ((nth w.X.M k).Id == O.Id))=false:=by simp[hne]
  repeat'(first|refine gB ?_|(conv=>whnf);first|with_reducible refine CD (aa hy) ?_|refine CB ?_|refine Bf.f hb2 ?_|refine CH rfl (aa hy) rfl ?_|refine CF (c7) ⟨⟨rfl,ab.enc_fz _⟩,⟨rfl,rfl⟩,trivial⟩ ?_|refine CF (c8) ⟨⟨rfl,D⟩,⟨rfl,rfl⟩,trivial⟩ ?_|refine CF (c9) ⟨⟨rfl,hcf⟩,⟨rfl,hcf⟩,trivial⟩ ?_|refine CB ?_)
  ((conv=>whnf);refine CE (k+1) ω ω ?_;(exact wC))
 obtain rfl:k=w.X.M.length:=ω
 rcases hag with rfl|rfl
 all_goals
  repeat'(first|refine gB ?_|(conv=>whnf);first|refine CB ?_|refine CF (c5) ⟨⟨rfl,D⟩,trivial⟩ ?_|refine CB ?_)
  all_goals rfl
open Go.RowKit Go.ChangeShapes Go.WideShapes Go.Deep
def ALL(w:World):af:=λb _=>b<w.heap.size
def Ty{H:Type}(e:TypeId × Value->H)(P:Program)(w:World)(t n:Nat)(enc:α->List C)(c:α->Prop):Prop:=
 ∀(fuel:Nat)(b:List Value)(x:DataW H × List MemPlace),DataW.trod e P w 0 (λ_=>true) true fuel t b=some x->b.length=n/\∃a,c a/\(enc a).length=n/\cY w (ALL w) NO (enc a) (λj=>b.getD j undef)
section
variable{H:Type}{e:TypeId × Value->H}{P:Program}{w:World}
variable{u:Nat->Value}
def DB{S F:af}{c:C}(h:eg w S F c (u 0)):cY w S F [c] u:=
 ⟨λ_=>F,λj e a=>by cases j with
   | zero=>simp at a;subst a;exact h
   | succ j=>simp at a,λ_ _ _ _ h=>h,λj f a b d=>by simp at a b;omega⟩
def pick{α β:Type}(n:Nat){Q:Nat->β->Prop}(h:∀i,i<n->∃b,Q i b):∃l:List β,l.length=n/\∀i b,l[i]? = some b->Q i b:=by
 induction n with
 | zero=>exact⟨[],rfl,λi b h=>by simp at h⟩
 | succ n c=>
  obtain⟨l,d,e⟩:=c λi a=>h i ω
  obtain⟨b,f⟩:=h n ω;refine⟨l++[b],by simp[d],λi g a=>?_⟩;by_cases j:i<n
  ·rw[V4 ω]at a;exact e i g a
  rw[W4 ω]at a;have:i - l.length=0:=by
   have:=(U2.1 a).1;simp at this;omega
  rw[this]at a;simp at a;subst a;rw[show i=n by omega];exact f
theorem MD{t T n:Nat}{α:Type}{enc:α->List C}{U:α->Prop}(V:Ty e P w T n enc U)(ht:P.underlying t=some (.slice T))(hn:P.cellsOf T=n)(p:0<n) :
  Ty e P w t 1 (λxs:List α=>[.s .V (xs.map enc)]) (λxs=>xs.length<=9223372036854775807/\∀y∈xs,U y):=by
 intro fuel cs x h;rcases open_slice ht h with⟨rfl,-⟩|⟨k,len,cap,m,n',D,Pl,rfl,-,hl,hm,K,-,u⟩
 ·exact⟨rfl,[],⟨by simp,by simp⟩,rfl,DB (.nil _ _ _ trivial)⟩
 simp only[if_true]at K;subst K;have L:0<m->k.spot=none:=λW=>by
  obtain⟨E,M,N⟩:=u 0 W;rw[hn]at M;obtain⟨_,X,F⟩:=World.cells?_some M;have:=F 0 p;rw[O2 ω]at this;have:=World.cell?_spot this;simpa[Addr.add] using this
 have key:∀i,i<len->∃a,U a/\(enc a).length=n/\(∀d,d<n->∃z,cel w k.block (k.off+(i*n+d))=some z)/\k.spot=none/\cY w (ALL w) NO (enc a) (λd=>(cel w k.block (k.off+(i*n+d))).getD undef):=λi hil=>by
  have g:=L ω;obtain⟨E,M,N⟩:=u i ω;rw[hn]at M;obtain⟨h1,a,h3,h4,h5⟩:=V _ _ _ N;obtain⟨_,X,F⟩:=World.cells?_some M;have O:∀d,k.add d = ⟨k.block,k.off+d,none⟩:=λd=>by
   obtain⟨b,o,sp⟩:=k;simp only at g;subst g;unfold Addr.add;split<;>simp_all
  have A:∀d,d<n->cel w k.block (k.off+(i*n+d))=E[d]?:=λd J=>by
   have:=F d J;rw[Go.Deep.add_add,O]at this;exact this
  refine⟨a,h3,h4,λd J=>⟨_,by rw[A d J,O2 ω]⟩,g,h5.congr λd J=>?_⟩;show(cel w k.block (k.off+(i*n+d))).getD undef=E.getD d undef;rw[A d ω,List.getD]
 obtain⟨l,Q,B⟩:=pick (α:=α) len key;refine⟨rfl,l,⟨by simp only[maxLen]at hm;omega,λy R=>?_⟩,rfl,DB ?_⟩
 ·obtain⟨i,G⟩:=List.mem_iff_getElem?.1 R
  exact(B i y G).1
 show eg w (ALL w) NO (.s .V (l.map enc)) (.slice (some k) len m);by_cases h0:len=0
 ·subst h0
  have:l=[]:=S7 Q;subst this;by_cases Y:m=0
  ·subst Y;exact .nil _ _ _ trivial
  have g:=L ω;obtain⟨b,o,sp⟩:=k;simp only at g;subst g;exact .V _ b o n 0 m [] (λ_=>undef) rfl (λr Z=>by simp at Z) hl (λq hq=>by simp at hq) (λi j r c u=>by simp at u)
 obtain⟨y0,hy0⟩ : ∃y,l[0]? = some y:=⟨_,O2 ω⟩
 have g:=(B 0 y0 hy0).2.2.2.1;obtain⟨b,o,sp⟩:=k;simp only at g;subst g;refine .V _ b o n len m (l.map enc) (λq=>(cel w b (o+q)).getD undef) (by simpa using Q) (λr Z=>?_) hl (λq hq=>?_) (λi j r c u hj=>?_)
 ·obtain⟨y,R,rfl⟩:=O4.1 Z
  obtain⟨i,G⟩:=List.mem_iff_getElem?.1 R;exact(B i y G).2.1
 ·have hqd:q / n<len:=(Nat.div_lt_iff_lt_mul p).2 hq
  obtain⟨y,R⟩ : ∃y,l[q / n]? = some y:=⟨_,O2 ω⟩
  obtain⟨z,S⟩:=(B _ y R).2.2.1 (q % n) (Nat.mod_lt _ p);have J:q / n*n+q % n=q:=by rw[Nat.mul_comm];exact Nat.div_add_mod q n
  rw[J]at S;exact⟨Rt S,by simp only at S |-;rw[S];rfl⟩
 rw[O3]at u;cases H:l[i]? with
 | none=>rw[H]at u;cases u
 | some y=>
  rw[H]at u;simp only[I5,Z0]at u;subst u;obtain⟨f,h1,h2,-⟩:=(B i y H).2.2.2.2;have hjl:=(U2.1 hj).1;exact(h1 j c hj).mono (λ_ _ h=>h) (h2 j hjl)
def row_val{S F:af}{x:Value}(h:cY w S F [.v x] u):u 0=x:=by
 obtain⟨f,a,-⟩:=h;have:=a 0 _ rfl;cases this
 rfl
end
open Go.RowKit Go.ChangeShapes Go.WideShapes
section
variable{H:Type}{e:TypeId × Value->H}{P:Program}{w:World}
def PS{t:Nat}(b:P.underlying t=some (.int .u8)):Ty e P w t 1 rU (λz=>0<=z/\z<=255):=by
 intro fuel c x h;obtain⟨n,rfl,-,a⟩:=DataW.trod_int b h;refine⟨rfl,n,?_,rfl,DB (.v _ _ rfl)⟩;simp only[Lit.wf,I0,C0]at a;exact a
def op_ByteS:Ty e Tryz.prog w 22 1 (λzs:List Int=>[.s .V (zs.map rU)]) (λzs=>zs.length<=9223372036854775807/\∀y∈zs,0<=y/\y<=255):=MD (PS Tryz.underlying5) Tryz.underlying22 (by kernel_rfl) (by decide)
end
end Go.Proofs.YtiopgblagimpmaaGreat.Ab
