/- Jobs begun, large objects trimmed, new heaps: what objects hold is kept. No condition. -/
import Derived.Test.YtiopgblagimpmaaGreatKZc
import Derived.Test.YtiopgblagimpmaaGreatKZi
import Derived.Test.YtiopgblagimpmaaGreatKZh
import Derived.Test.YtiopgblagimpmaaGreatKZg
import Derived.Test.YtiopgblagimpmaaGreatKZf
import Derived.ProofKit
import Derived.OpenShut
import Derived.Deep.Slices
import Derived.Deep.Fields
import Derived.ChangeSame
import Derived.WideShapes
set_option linter.unusedVariables false
set_option linter.defProp false
set_option linter.unusedSimpArgs false
set_option linter.constructorNameAsVariable false
namespace Go.Proofs.YtiopgblagimpmaaGreat.Ab
variable{n:Nat}{s:aB}
theorem Fr{c:Nat} : (c:Int)∈wH s n↔c<n/\u5 s c=true:=by grind [wH]
theorem Wi{a b:aB}(c:meshable a b=true){i:Int}(h:bc a.a9 i=true):bc b.a9 i=false:=by
 unfold meshable at c;simp only[I0,C0]at c;obtain⟨-,-,-,d⟩:=c;rw[<-SA];intro e;have f:=(gG _ _).1 h;have g:=(gG _ _).1 e;have:=O1 (λn=>Nat.testBit n i.toNat) d
 grind
variable{h:ac}
def Qx{E:List Int}(a:aY h E){u:aB}(b:s∈h.K)(c:u∈h.K)(e:s.Q=u.Q):s=u:=by
 obtain⟨i,d,rfl⟩:=aW b;obtain⟨j,g,rfl⟩:=aW c;rw[du (f:=(·.Q)) a.L.nd d g e]
theorem CI.begun{E:List Int}(r:aY h E)(t:CI h)(L:h.q=false){a b:aB}(M:a∈h.K)(N:b∈h.K)(C:meshable a b=true)(sd:Int):CI {h with c0:=sd,q:=true,a:=vP (dK a b)}:=by
 have j:∃x∈h.K,∃y∈h.K,(dK a b).a4=x.Q/\(dK a b).a5=y.Q/\(dK a b).T=wH y 16/\meshable x y=true:=by grind [kx,dK]
 obtain⟨x,D,y,F,u,w,A,G⟩:=j;generalize dK a b=p at u w A;have ecl:x.d=y.d:=by grind [meshable]
 refine⟨λf c d H=>?_,λ_ c g=>absurd g (by show ¬(c:Int)∈p.T.take (0:Int).toNat;simp),λ_ s k j c d g=>?_,λ_ s k j c d l=>?_,λ_=>⟨λ_=>rfl,λe=>absurd e (by show ¬(0:Int)=2;decide)⟩,λq J=>?_,λ_ e=>absurd rfl e⟩
 ·rcases t.z f c d H with⟨o,K,n⟩|⟨O,-⟩
  ·exact .inl ⟨o,K,n⟩
  grind
 ·have i:=Qx r k D (j.trans u)
  subst i;have B:(c:Int)∈p.T:=g
  grind [Fr,Wi,u5]
 ·have i:=Qx r k F (j.trans w)
  subst i;show(c:Int)∈p.T;rw[A];exact Fr.2 ⟨d,l⟩
 have P:=(t.m1 q J).1
 grind
theorem CI.started{h:ac}(f:aY h [])(a:CI h)(j:h.q=false):CI (started h).1/\Kp h (started h).1:=by
 have g:=f.nums;unfold cI at g;rw[C0]at g;have d:=ou (bt h) (show 0<=h.c0/\h.c0<=1073741823 by omega);cases e:kX (bt h) h.c0 with
 | nil=>
  have c:Ab.started h=({h with c0:=(shuf (bt h).length h.c0).2},false):=by unfold Ab.started;rw[e]
  rw[c];exact⟨⟨a.z,a.jv,a.jd,a.jc,a.jn,a.m1,a.m2⟩,Co h⟩
 | cons q n=>
  obtain⟨o,p,k⟩:=d q (by rw[e];exact O3 ..);have c:Ab.started h=({h with c0:=(shuf (bt h).length h.c0).2,q:=true,a:=vP (dK (nth (bt h) q.A.toNat) (nth (bt h) q.B.toNat))},true):=by unfold Ab.started;rw[e]
  rw[c];have b:∀s∈bt h,s∈h.K:=λs l=>pZ h (C5 _) s (List.mem_of_mem_take l)
  exact⟨CI.begun f a j (b _ (ax (xs:=bt h) (i:=q.A.toNat) ω)) (b _ (ax (xs:=bt h) (i:=q.B.toNat) ω)) k _,Co h⟩
theorem XB(k:ah)(a:Int)(f c:Nat):∀m,cl (zK k a m) f c=cl k f c\/(cl (zK k a m) f c=0/\∃j:Nat,j<m/\f=cW k (a+j)/\c=((a+j) % 16).toNat)
 | 0=>.inl rfl
 | m+1=>by
  have e:cW (zK k a m) (a+m)=cW k (a+m):=by grind [rd,cW]
  rcases uA (zK k a m) (a+m) 0 f c with g|⟨b,h,d⟩
  ·rcases XB k a f c m with i|⟨b,j,h,d⟩
   ·exact .inl (g.trans i)
   exact .inr ⟨g.trans b,j,ω,d⟩
  exact .inr ⟨b,m,ω,ω,d⟩
theorem JW{k:ah}(d:aI k=true){a:Int} : ∀{m:Nat},(∀j:Nat,j<m->(af k.F.O ((a+j) / 16)).e≠0)->∀j:Nat,j<m->cl (zK k a m) (cW k (a+j)) ((a+j) % 16).toNat=0
 | 0,_,_,f=>absurd f (Nat.not_lt_zero _)
 | m+1,l,j,f=>by
  have c:=U0 d (a:=a) (m:=m) ψ;have n:=(rd k a m).1;have e:∀b,cW (zK k a m) b=cW k b:=λb=>by grind [cW]
  rcases uA (zK k a m) (a+m) 0 (cW k (a+j)) ((a+j) % 16).toNat with g|⟨h,-⟩
  ·by_cases i:j=m
   ·subst i
    have:=Gg c (a:=a+j) (v:=0) ψ;rw[e]at this;exact this
   exact g.trans (JW d ψ j ω)
  exact h
variable{o:bg}
theorem Ff{E:List Int}(a:aY h E)(e:o∈h.J){k:Nat}(b:k<h.H.length)(j:o.Addr=16*(nth h.H k).Q):o.k=(nth h.H k).k:=by
 have f:=aR (a.L.lok _ (ax b));rcases a.oow _ e with⟨s,g,c,-⟩|⟨l,d,n,p⟩
 ·exact absurd (show s.Q=(nth h.H k).Q+((0:Nat):Int) by have:=c.1;have:=c.2.1;omega) (a.L.dis s g _ (ax b) 0 ω)
 obtain⟨m,i,rfl⟩:=aW d;have:=a.L.one m k i b 0 0 (by have:=aR (a.L.lok _ d);omega) ω ω
 grind
variable{i:Nat}{α:Type}
theorem vD[Inhabited α]{xs:List α}{y z:α}(c:i<xs.length):z∈xs.set i y↔z=y\/∃j,j<xs.length/\j≠i/\nth xs j=z:=by
 refine⟨g9,?_⟩
 rintro(rfl|⟨j,d,a,rfl⟩)
 ·have b:=ax (xs:=xs.set i z) (i:=i) ψ
  grind [bW]
 have b:=ax (xs:=xs.set i y) (i:=j) ψ
 grind [bW]
theorem CI.trimH{h:ac}{i k:Nat}{size:Int}(l:aY h [])(hc:CI h)(Z:i<h.J.length)(r:k<h.H.length)(ea:(nth h.J i).Addr=16*(nth h.H k).Q)(hz:9<=size/\size<=(nth h.H k).k):CI (trimH h i k size)/\∀o∈h.J,∀j:Int,0<=j->j<o.k->(o=nth h.J i->j<size)->gt (trimH h i k size).G (o.Addr+j)=gt h.G (o.Addr+j):=by
 obtain⟨b1,b2⟩:=xT l r;have C:=l.L.lok _ (ax r);have hlp:=aR C;have hsz:=Ff l (ax Z) r ea;have h8:=C;unfold bI at h8;rw[C0]at h8;have D:aI (kq h k size)=true:=wI l r hz (C5 _);have E:(kq h k size).F.O=h.G.F.O:=(rd h.G _ _).1;have hN:((dD (nth h.H k) size:Nat):Int)=(nth h.H k).a1 - (size+15) / 16:=by unfold dD;omega
 have hte:((tbl h).M.length:Int)=(h.G.F.O.M.length:Int):=rfl;have kl:=KL.unmN D (p:=(nth h.H k).Q+(size+15) / 16) ω (dD (nth h.H k) size) (by rw[E];omega);have ker:=iI D ((nth h.H k).Q+(size+15) / 16) (dD (nth h.H k) size);have w:=(fY (kq h k size) ((nth h.H k).Q+(size+15) / 16) (dD (nth h.H k) size)).1;have R:=XB h.G (16*(nth h.H k).Q+size);have S:=JW l.ker (a:=16*(nth h.H k).Q+size) (m:=(16*((size+15) / 16) - size).toNat) λj T=>kg l r ω
 have F:(Ab.trimH h i k size).G=unmN (kq h k size) ((nth h.H k).Q+(size+15) / 16) (dD (nth h.H k) size):=rfl;have G:(Ab.trimH h i k size).J=h.J.set i {nth h.J i with k:=size}:=rfl;have U:(Ab.trimH h i k size).K=h.K:=rfl;have H:(Ab.trimH h i k size).a=h.a:=rfl;have J:(Ab.trimH h i k size).q=h.q:=rfl;generalize Ab.trimH h i k size=h' at F G U H J |-;have K:∀f c,cl (kq h k size) f c=cl h.G f c\/(cl (kq h k size) f c=0/\∃b:Int,16*(nth h.H k).Q+size<=b/\b<16*((nth h.H k).Q+(size+15) / 16)/\At h.G b f c):=λf c=>by
  rcases R f c (16*((size+15) / 16) - size).toNat with g|⟨g,j,y,A,j3⟩
  ·exact .inl g
  refine .inr ⟨g,16*(nth h.H k).Q+size+j,ω,ω,?_⟩;have:=At.mk' l.ker (kg l r (a:=16*(nth h.H k).Q+size+j) ω)
  grind
 have V:∀(f c:Nat)(b:Int),16*(nth h.H k).Q+size<=b->b<16*((nth h.H k).Q+(size+15) / 16)->At h.G b f c->cl (kq h k size) f c=0:=λf c b O P d=>by
  have:=S (b - (16*(nth h.H k).Q+size)).toNat ω;rw[show 16*(nth h.H k).Q+size+((b - (16*(nth h.H k).Q+size)).toNat:Nat)=b by omega]at this;have e:=At.mk' l.ker d.m;obtain⟨u1,u2⟩:=e.uniq d;rw[u1,u2]at this;exact this
 have pout:∀q:Int,¬((nth h.H k).Q+(size+15) / 16<=q/\q<(nth h.H k).Q+(nth h.H k).a1)->af h'.G.F.O q=af h.G.F.O q:=λq W=>by grind [KL.out]
 rw[<-F]at kl ker w;generalize kq h k size=kz at *;have onL:∀b:Int,16*(nth h.H k).Q<=b->b<16*((nth h.H k).Q+(nth h.H k).a1)->∀f c:Nat,At h.G b f c->U7 h (nth h.J i).Addr f c:=λb O P f c d=>.inr ⟨_,ax r,ea,b,O,P,d⟩
 have only:∀o∈h.J,∀f c:Nat,uq h o f c->U7 h (nth h.J i).Addr f c->o=nth h.J i:=λo t f c O P=>by
  have e:=zL l (lv l t O) P;obtain⟨m,lm,rfl⟩:=aW t;rw[du (f:=(·.Addr)) (dv l.osr) lm Z e]
 have noS:∀s∈h.K,¬((nth h.H k).Q<=s.Q/\s.Q<(nth h.H k).Q+(nth h.H k).a1):=λs M hr=>l.L.dis s M _ (ax r) (s.Q - (nth h.H k).Q).toNat ω ω
 have same:∀f c:Nat,cl h'.G f c≠0->cl h.G f c=cl h'.G f c:=λf c h0=>by grind [KL.cel]
 have stay:∀o∈h.J,∀j:Int,0<=j->j<o.k->(o=nth h.J i->j<size)->∀f c:Nat,At h.G (o.Addr+j) f c->At h'.G (o.Addr+j) f c/\cl h'.G f c=cl h.G f c:=λo t j y A T f c d=>by
  have u:uq h o f c:=⟨j,y,A,d⟩
  have n:af h'.G.F.O ((o.Addr+j) / 16)=af h.G.F.O ((o.Addr+j) / 16):=by
   refine pout _ λhh=>?_
   have e:=only o t f c u (onL _ ω ω f c d)
   grind
  have N:At h'.G (o.Addr+j) f c:=⟨by rw[n];exact d.m,by rw[n];exact d.f,d.c⟩
  refine⟨N,?_⟩;rcases kl.cel f c with e|⟨-,e⟩
  ·rcases K f c with g|⟨-,b,g1,g2,Q⟩
   ·rw[e,g]
   exfalso;have eo:=only o t f c u (onL b ω ω f c Q);have hjs:=T eo;have W:=nv l (ax r) (b:=b) ω ω Q d.m d.f;have c1:=d.c
   grind [At.c]
  grind [At.f,At.m]
 refine⟨hc.keep H J (λq W=>?_) (λX=>?_) ψ (λo t f c h16 u h0=>?_) (λX c _=>?_) ψ,λo t j y A T=>?_⟩
 ·have hq':(nth h'.G.F.O.M q).e=1:=W
  have:=kl.md w q ω;rw[E]at this;show(nth h.G.F.O.M q).e=1
  grind
 ·obtain⟨-,⟨a,ha,Y⟩,b,hb,eb⟩:=l.job X
  exact⟨pout _ ψ,pout _ ψ⟩
 ·obtain⟨j,y,A,d⟩:=u
  by_cases e:o=nth h.J i/\size<=j
  ·exfalso
   obtain⟨e,ej⟩:=e;subst e;by_cases ej2:j<16*((size+15) / 16)
   ·have:=V f c ((nth h.J i).Addr+j) ω ω d
    grind [KL.cel]
   refine h0 (sw ker (λp B hf=>?_) c);by_cases er:(nth h.H k).Q+(size+15) / 16<=p/\p<(nth h.H k).Q+(nth h.H k).a1
   ·exact B (kl.ins p er.1 ω)
   rw[pout p er]at B hf;have:=nv l (ax r) (b:=(nth h.J i).Addr+j) ω ω d B hf;omega
  have st:=stay o t j y A ψ f c d;by_cases e':o=nth h.J i
  ·refine⟨{nth h.J i with k:=size},by grind [vD],j,y,?_,?_⟩
   all_goals grind
  refine⟨o,?_,j,y,A,st.1⟩;rw[G];obtain⟨m,lm,rfl⟩:=aW t
  grind [vD]
 ·have key:∀s∈h.K,cl h'.G (bV h.G s.Q) c=cl h.G (bV h.G s.Q) c:=λs M=>by
   have n:(af (tbl h) s.Q).e≠0:=by rw[l.pe M];exact(l.mapped M).2.2
   rcases kl.cel (bV h.G s.Q) c with e|⟨-,e⟩
   ·rcases K (bV h.G s.Q) c with g|⟨-,b,g1,g2,Q⟩
    ·rw[e,g]
    have:=nv l (ax r) (b:=b) ω ω Q (q:=s.Q) n (nN l.ker n);exact absurd ω (noS s M)
   have B:=pout s.Q ψ;refine absurd ?_ (e s.Q (by rw[B];exact n));rw[B];exact nN l.ker n
  obtain⟨-,⟨a,ha,Y⟩,b,hb,eb⟩:=l.job X
  grind
 have d:=At.mk' l.ker (di l t (k:=j) ⟨y,ω⟩).1
 grind [At.cell]
theorem LI[Inhabited α](n j:Nat)(y:α):nth (List.replicate n y) j=y\/nth (List.replicate n y) j=default:=by grind [nth]
def CI.newHeap(p f t:Nat)(lim:Int)(a:List Int):CI (newHeap p f t lim a):=by
 refine⟨λg c b d=>absurd ?_ d,λe=>(by cases e),λe=>(by cases e),λe=>(by cases e),λe=>(by cases e),λq h=>absurd h ?_,λe=>(by cases e)⟩
 ·show nth (nth (List.replicate f (List.replicate 16 (0:Int))) g) c=0
  rcases LI f g (List.replicate 16 (0:Int)) with e|e<;>rw[e]
  ·exact Gt _ _
  rfl
 show ¬(nth (List.replicate p (⟨0,0⟩ : bo)) q).e=1;rcases LI p q (⟨0,0⟩ : bo) with e|e<;>rw[e]
 ·decide
 decide
def iC(k:ah)(o:bg):aS:=⟨o.Id,cellsOf k o.Addr o.k.toNat⟩
structure RS(w:bh):Prop where
 nx:w.b3.b=w.W.b
 asc:w.b3.J.Pairwise λa b=>a.Id<b.Id
 mem:∀y,y∈w.b3.J↔∃o∈w.W.J,y=iC w.W.G o
variable{a:Int}
theorem tU{k b:ah}(h:∀j:Int,0<=j->j<n->gt b (a+j)=gt k (a+j)):cellsOf b a n=cellsOf k a n:=by grind [List.map_congr_left,cellsOf]
theorem ij{k a:ah}(h:∀j:Int,0<=j->j<o.k->gt a (o.Addr+j)=gt k (o.Addr+j)):iC a o=iC k o:=by grind [tU,iC]
theorem XS[Inhabited α]{R:α->α->Prop}{xs:List α}(h:xs.Pairwise R){j:Nat}(a:i<j)(b:j<xs.length):R (nth xs i) (nth xs j):=by grind [List.pairwise_iff_getElem,nth]
def RS.at{w:bh}(b:RS w){o:bg}(c:o∈w.W.J):∃j:Nat,j<w.b3.J.length/\oy w.b3 o.Id=(j:Nat)/\nth w.b3.J j=iC w.W.G o:=by
 obtain⟨j,a,e⟩:=aW ((b.mem _).2 ⟨o,c,rfl⟩);refine⟨j,a,df (ar a) (O0 (by rw[e];rfl)) λm z d f=>C1 ?_,e⟩;have g:=XS b.asc d a;rw[br f,e]at g;have h:(iC w.W.G o).Id=o.Id:=rfl;omega
variable{w:bh}
def RS.lt(a:RS w)(b:aY w.W []):∀y∈w.b3.J,1<=y.Id/\y.Id<w.b3.b:=λy c=>by
 obtain⟨o,d,rfl⟩:=(a.mem y).1 c;have:=b.onu o d;rw[a.nx];show 1<=o.Id/\o.Id<w.W.b;omega
variable{h':ac}
theorem RS.keep(b:RS w)(d:h'.J=w.W.J)(c:Kp w.W h')(e:h'.b=w.W.b):RS ⟨h',w.b3⟩:=by
 refine⟨b.nx.trans e.symm,b.asc,λy=>(b.mem y).trans ?_⟩;show _↔∃o∈h'.J,y=iC h'.G o
 constructor
 ·rintro⟨o,f,rfl⟩
  have a:o∈h'.J:=by rw[d];exact f
  exact⟨o,a,(ij (c o a).2).symm⟩
 rintro⟨o,a,rfl⟩
 exact⟨o,(c o a).1,ij (c o a).2⟩
theorem RS.alloc(c:RS w)(g:aY w.W []){x:bg}(d:Xu w.W h' x)(h:x.Id=w.W.b)(i:h'.b=w.W.b+1)(k:1<=x.k/\x.k<=1000):RS ⟨h',i9 w.b3 x.k⟩:=by
 unfold i9;rw[CL k];have l:iC h'.G x = ⟨w.b3.b,List.replicate x.k.toNat 0⟩:=by
  unfold iC;rw[h,c.nx]
  congr 1
  refine List.eq_replicate_iff.2 ⟨iW ..,λb e=>?_⟩;unfold cellsOf at e;obtain⟨j,n,rfl⟩:=O8.1 e;have:=List.mem_range.1 n;exact d.ze j ω ω
 refine⟨by grind [RS.nx],?_,λy=>?_⟩
 ·refine List.pairwise_append.2 ⟨c.asc,List.pairwise_singleton _ _,λa p b e=>?_⟩
  rw[z3.1 e];exact(c.lt g a p).2
 show y∈w.b3.J++[_]↔∃o∈h'.J,y=iC h'.G o
 rw[z5,z3,c.mem];constructor
 ·rintro(⟨o,f,rfl⟩|rfl)
  ·exact⟨o,(d.mem o).2 (.inr f),(ij (d.ke o f)).symm⟩
  exact⟨x,(d.mem x).2 (.inl rfl),l.symm⟩
 grind [Xu.mem,ij,Xu.ke]
theorem RS.free(a:RS w)(p:aY w.W [])(h:i<w.W.J.length)(k:h'.J=dele w.W.J i)(l:Kp w.W h')(r:h'.b=w.W.b):RS ⟨h',jf w.b3 (nth w.W.J i).Id⟩:=by
 obtain⟨j,t,u,n⟩:=a.at (ax h);unfold jf;rw[u,CJ ω];simp only[t5];refine⟨a.nx.trans r.symm,a.asc.sublist (gl _ _),λy=>?_⟩;show y∈dele w.b3.J j↔∃o∈h'.J,y=iC h'.G o
 rw[dZ];constructor
 ·rintro⟨m,c,A,rfl⟩
  obtain⟨o,d,e⟩:=(a.mem _).1 (ax c);have b:o∈h'.J:=by
   rw[k];obtain⟨q,g,rfl⟩:=aW d;refine dZ.2 ⟨q,g,λx=>A ?_,rfl⟩;subst x;exact du (f:=(·.Id)) (dv a.asc) c t (by rw[e,n])
  exact⟨o,b,e.trans (ij (l o b).2).symm⟩
 rintro⟨o,b,rfl⟩
 obtain⟨d,B⟩:=l o b;rw[ij B];obtain⟨m,c,e⟩:=aW ((a.mem _).2 ⟨o,d,rfl⟩);refine⟨m,c,λx=>?_,e⟩;subst x;rw[k]at b;obtain⟨q,g,C,rfl⟩:=dZ.1 b;exact C (du (f:=(·.Id)) p.oid g h (O1 aS.Id (e.symm.trans n)))
theorem RS.upd(c:RS w)(r:aY w.W [])(t:i<w.W.J.length){x':bg}(u:x'.Id=(nth w.W.J i).Id)(A:∀o,o∈h'.J↔o=x'\/∃m,m<w.W.J.length/\m≠i/\nth w.W.J m=o)(B:∀m,m<w.W.J.length->m≠i->iC h'.G (nth w.W.J m)=iC w.W.G (nth w.W.J m))(C:h'.b=w.W.b){j:Nat}(h:j<w.b3.J.length)(k:nth w.b3.J j=iC w.W.G (nth w.W.J i)):RS ⟨h',{w.b3 with J:=w.b3.J.set j (iC h'.G x')}⟩:=by
 refine⟨c.nx.trans C.symm,?_,λy=>?_⟩
 ·have D:(w.b3.J.map (·.Id)).Pairwise (λa b=>a<b):=List.pairwise_map.2 c.asc
  rw[<-nr (f:=(·.Id)) (y:=iC h'.G x') h (by rw[k];exact u)]at D
  grind
 show y∈w.b3.J.set j _↔∃o∈h'.J,y=iC h'.G o
 rw[vD h];constructor
 ·rintro(rfl|⟨m,d,l,rfl⟩)
  ·grind
  obtain⟨o,n,e⟩:=(c.mem _).1 (ax d);obtain⟨q,g,rfl⟩:=aW n;have p:q≠i:=λx=>l (by subst x;exact du (f:=(·.Id)) (dv c.asc) d h (by rw[e,k]))
  grind
 rintro⟨o,n,rfl⟩
 rcases(A o).1 n with rfl|⟨q,g,p,rfl⟩
 ·exact .inl rfl
 rw[B q g p];obtain⟨m,d,e⟩:=aW ((c.mem _).2 ⟨_,ax g,rfl⟩);refine .inr ⟨m,d,λx=>p ?_,e⟩;subst x;exact du (f:=(·.Id)) r.oid g t (O1 aS.Id (e.symm.trans k))
def Wu{E:List Int}(a:aY h E)(c:o∈h.J):1<=o.k/\o.k<=1000:=by
 rcases a.oow _ c with⟨s,d,e,f⟩|⟨l,b,g,i⟩
 ·have j:=aJ (a.L.sok s d)
  have:=iv (n:=o.k) ω;omega
 have k:=ch (a.L.lok l b);omega
theorem RS.store(h:RS w)(d:aY w.W [])(e:JI w.W)(l:CI w.W)(a:i<w.W.J.length){j v:Int}(n:0<=j/\j<=(nth w.W.J i).k - 1)(F:0<=v/\v<=999)(p:(af (tbl w.W) (((nth w.W.J i).Addr+j) / 16)).e≠1):RS ⟨{w.W with G:=dN w.W.G ((nth w.W.J i).Addr+j) v},dI w.b3 (nth w.W.J i).Id j v⟩:=by
 obtain⟨-,c⟩:=CI.store (v:=v) d e l a n p;obtain⟨b,r,G,g⟩:=h.at (ax a);have t:(nth w.b3.J b).T.length=(nth w.W.J i).k.toNat:=by rw[g];exact iW ..
 have u:dI w.b3 (nth w.W.J i).Id j v = {w.b3 with J:=w.b3.J.set b ⟨(nth w.b3.J b).Id,(nth w.b3.J b).T.set j.toNat v⟩}:=by grind [dI]
 have A:(⟨(nth w.b3.J b).Id,(nth w.b3.J b).T.set j.toNat v⟩ : aS)=iC (dN w.W.G ((nth w.W.J i).Addr+j) v) (nth w.W.J i):=by
  rw[g];unfold iC;simp only
  congr 1
  refine List.ext_getElem (by simp[cellsOf]) λq H B=>?_
  rw[iW]at B;rw[List.getElem_set];simp only[cellsOf,List.getElem_map,List.getElem_range];have:=c _ (ax a) q ω ω
  grind
 rw[u,A];refine RS.upd h d a (h':={w.W with G:=dN w.W.G ((nth w.W.J i).Addr+j) v}) rfl (λo=>?_) (λm k C=>?_) rfl r g
 ·grind [aW,ax]
 refine ij λx D E=>?_
 show gt (dN w.W.G _ v) _=_;rw[c _ (ax k) x D E,CJ (λy=>C (du (f:=(·.Addr)) (dv d.osr) k a (by rw[y.1])))]
variable{m:Nat}
theorem H5(k:ah)(a:Int)(h:m<=n):(cellsOf k a n).take m=cellsOf k a m:=by
 unfold cellsOf;rw[<-C8,List.take_range,Nat.min_eq_left h]
theorem RS.trim(e:RS w)(c:aY w.W [])(n:CI w.W){k:Nat}{size:Int}(a:i<w.W.J.length)(g:k<w.W.H.length)(h:(nth w.W.J i).Addr=16*(nth w.W.H k).Q)(p:9<=size/\size<=(nth w.W.H k).k):RS ⟨trimH w.W i k size,fe w.b3 (nth w.W.J i).Id size⟩:=by
 obtain⟨-,d⟩:=CI.trimH c n a g h p;have q:=Ff c (ax a) g h;obtain⟨b,r,E,j⟩:=e.at (ax a);have t:(nth w.b3.J b).T.length=(nth w.W.J i).k.toNat:=by rw[j];exact iW ..
 have u:fe w.b3 (nth w.W.J i).Id size = {w.b3 with J:=w.b3.J.set b ⟨(nth w.b3.J b).Id,(nth w.b3.J b).T.take size.toNat⟩}:=by grind [fe]
 have A:(⟨(nth w.b3.J b).Id,(nth w.b3.J b).T.take size.toNat⟩ : aS)=iC (trimH w.W i k size).G {nth w.W.J i with k:=size}:=by grind [H5,tU,ax,iC]
 rw[u,A];refine RS.upd e c a (h':=trimH w.W i k size) (x':={nth w.W.J i with k:=size}) rfl (λo=>vD a) (λm l B=>?_) rfl r j;refine ij λx C D=>d _ (ax l) x C D λy=>absurd (du (f:=(·.Addr)) (dv c.osr) l a (by rw[y])) B
def Ms(h:ac)(i:Nat)(a:Int):(freeS h i a).b=h.b:=by unfold freeS;split<;>rfl
def UY(t:Nat)(h:ac)(a:Int):(recyc t h a).b=h.b:=by
 unfold recyc;split
 ·rfl
 exact Ms h (w9 h a) a
def xQ(t:Nat):∀(az:List Int)(h:ac),(recycs t h az).b=h.b
 | [],_=>rfl
 | a::az,h=>(xQ t az (recyc t h a)).trans (UY t h a)
def xj:∀(az:List Int)(h:ac),(freeAs h az).b=h.b
 | [],_=>rfl
 | a::az,h=>(xj az (freeA h a)).trans (Ms h (w9 h a) a)
theorem FM(t:Nat)(h:ac):∀k,(flushN t h k).1.b=h.b/\(flushN t h k).1.J=h.J
 | 0=>⟨rfl,rfl⟩
 | k+1=>by
  obtain⟨a,b⟩:=FM t h k;exact⟨(xj _ _).trans a,(ic _ _).2.1.trans b⟩
theorem Vl(h:ac)(t i:Nat):(Fa h t i).b=h.b/\(Fa h t i).J=dele h.J i:=⟨xQ _ _ _,(fH _ _ _).2.1⟩
theorem Nf(h:ac)(t i:Nat):(freeT h t i).1.b=h.b/\(((freeT h t i).2=0/\(freeT h t i).1.J=dele h.J i)\/((freeT h t i).2=5/\(freeT h t i).1=h)):=by
 unfold freeT
 repeat' split
 ·exact⟨rfl,.inl ⟨rfl,rfl⟩⟩
 ·grind
 ·grind [Vl]
 ·exact⟨rfl,.inl ⟨rfl,rfl⟩⟩
 grind
theorem TU(h:ac):∀n,(stN h n).1.b=h.b/\(stN h n).1.J=h.J
 | 0=>⟨rfl,rfl⟩
 | n+1=>by
  obtain⟨a,b⟩:=TU h n;unfold stN;split
  ·exact⟨a,b⟩
  grind
theorem CI.stN{h:ac}(a:aY h [])(b:JI h)(c:CI h):∀n,CI (stN h n).1/\Kp h (stN h n).1
 | 0=>⟨c,Co h⟩
 | n+1=>by
  obtain⟨g,i⟩:=xv a b n;obtain⟨d,f⟩:=CI.stN a b c n;unfold Ab.stN;split
  ·rename_i e
   unfold pJ at e;rw[I0]at e;obtain⟨j,k⟩:=CI.mStep g i d e.1;exact⟨j,f.trans k⟩
  exact⟨d,f⟩
theorem NV(h:ac):(started h).1.b=h.b/\(started h).1.J=h.J:=by grind [started]
structure CW(w:bh):Prop where
 ci:CI w.W
 rs:RS w
theorem CW.keep(h:CW w){g:ac}(a:CI g/\Kp w.W g)(b:g.J=w.W.J)(c:g.b=w.W.b):CW ⟨g,w.b3⟩:=⟨a.1,h.rs.keep b a.2 c⟩
theorem CW.obj(h:mW w m)(c:CW w)(a:fg)(b:i<w.W.J.length):CW (lK w a i).1:=by
 unfold lK;split
 ·unfold t8
  split
  ·exact c
  split
  ·rename_i p
   unfold mH at p;have q:=CI.freeT (t:=a.a2.toNat) h.inv h.ji c.ci b ω;obtain⟨y,r⟩:=Nf w.W a.a2.toNat i;refine⟨q.1,?_⟩;show RS ⟨(freeT w.W a.a2.toNat i).1,if _ then _ else _⟩;rcases r with⟨f,d⟩|⟨f,d⟩
   ·grind [RS.free,CW.rs,mW.inv]
   rw[CJ (by rw[f];decide),d];exact c.rs
  exact c
 split
 ·unfold pT
  split
  ·exact c
  rename_i g;split
  ·exact c
  rename_i l;split
  ·exact c
  rename_i j;have g:=Classical.not_not.1 g;have j:=Classical.not_not.1 j;exact⟨(CI.store h.inv h.ji c.ci b g l).1,RS.store c.rs h.inv h.ji c.ci b g j l⟩
 unfold tf;split
 ·rename_i e
  obtain⟨-,f,d⟩:=e;obtain⟨n,u,A⟩:=eZ _ _ f;have k:=of_decide_eq_true u;have o:=k.symm.trans (Int.mul_comm _ _);exact⟨(CI.trimH h.inv c.ci b n o d).1,RS.trim c.rs h.inv c.ci b n o d⟩
 exact c
theorem CW.thread(h:mW w m)(c:CW w)(a:fg):CW ⟨(hB w.W a).1,w.b3⟩:=by
 have b:=c.ci;unfold hB;split
 ·split
  ·exact CW.keep (g:={w.W with w:=gr w.W.w a.a2.toNat}) c ⟨⟨b.z,b.jv,b.jd,b.jc,b.jn,b.m1,b.m2⟩,Co w.W⟩ rfl rfl
  exact c
 split
 ·exact c
 rename_i e;have e:=Classical.not_not.1 e;obtain⟨-,d⟩:=e;unfold mH at d;split
 ·exact c.keep (CI.collect (t:=a.a2.toNat) h.inv b ω) (fH _ _ _).2.1 (xQ _ _ _)
 grind [CI.flushN,mW.inv,FM,CW.keep]
theorem CW.act(h:mW w m)(c:CW w)(a:fg):CW (mY w a).1:=by
 unfold mY;split
 ·have b:=CI.allocH (t:=a.a2) (size:=a.N) h.inv h.ji c.ci
  refine⟨b.ci,?_⟩;show RS ⟨(allocH w.W a.a2 a.N).1,if _ then _ else _⟩;split
  ·rename_i e
   obtain⟨d,f,g,i,-⟩:=b.yes e;exact RS.alloc (x:=⟨w.W.b,(allocH w.W a.a2 a.N).2.1,a.N,a.a2⟩) c.rs h.inv d rfl f ⟨g,i⟩
  grind [AL.no,RS.keep,CW.rs]
 split
 ·grind [CW.obj,eZ,mX]
 split
 ·exact c.thread h a
 split
 ·unfold qU
  split
  ·rename_i e
   exact c.keep (CI.tick h.inv c.ci e.2.1.1 e.2.2) (ic _ _).2.1 (xj _ _)
  exact c
 split
 ·unfold qB
  split
  ·exact c
  grind [CW.keep,CI.started,mW.inv,CW.ci,NV]
 grind [CW.keep,CI.stN,mW.inv,mW.ji,CW.ci,TU]
def QY(c:cr):CW (world0 c):=⟨CI.newHeap ..,rfl,List.Pairwise.nil,λy=>⟨λh=>(by cases h),λ⟨_,h,_⟩=>(by cases h)⟩⟩
def Tk{c:cr}(h:Ea c)(acts:List fg):∀n,CW (xc c acts n).1
 | 0=>QY c
 | n+1=>(Tk h acts n).act (xG h acts n) _
def sm{α:Type}(f:α->Int):List α->Int
 | []=>0
 | a::l=>f a+sm f l
def sL{α:Type}(f:α->Int):∀l m:List α,sm f (l++m)=sm f l+sm f m
 | [],m=>by simp[sm]
 | a::l,m=>by simp only[List.cons_append,sm,sL f l m];omega
theorem Xf(f:α->Int){l m:List α}(h:l.Perm m):sm f l=sm f m:=by
 induction h with
 | nil=>rfl
 | cons x _ a=>simp only[sm,a]
 | swap x y l=>grind [sm]
 | trans _ _ b c=>exact b.trans c
theorem Ku{α β:Type}{f:α->Int}{g:β->Int}(k:α->β):∀l:List α,(∀a∈l,g (k a)=f a)->sm g (l.map k)=sm f l
 | [],_=>rfl
 | a::l,h=>by
  simp only[IC,sm];rw[h a (O3 ..),Ku k l λb c=>h b (OA _ c)]
def Ja{α β:Type}{f:α->Int}{g:β->Int}(k:α->List β):∀l:List α,(∀a∈l,sm g (k a)=f a)->sm g (l.flatMap k)=sm f l
 | [],_=>rfl
 | a::l,h=>by
  rw[CE,sL];simp only[sm];rw[h a (O3 ..),Ja k l λb c=>h b (OA _ c)]
def Dz{α:Type}{f:α->Int}{c:Int} : ∀l:List α,(∀a∈l,f a=c)->sm f l=l.length*c
 | [],_=>by simp[sm]
 | a::l,h=>by
  simp only[sm];rw[h a (O3 ..),Dz l λb d=>h b (OA _ d),List.length_cons,Int.natCast_succ,Int.add_mul];omega
theorem nw[Inhabited α](f:α->Int)(xs:List α):fC f xs xs.length=sm f xs:=by
 have h:∀n,n<=xs.length->fC f xs n=sm f (xs.take n):=λn=>by
  induction n with
  | zero=>intro _;rfl
  | succ n b=>
   intro c;have a:=ar (xs:=xs) (i:=n) ω;rw[CB,a,sL];show fC f xs n+f (nth xs n)=_
   grind [sm]
 grind
def cst(h:ac)(a:Int):Int:=if 0<=gk h (a / 16) then fZ h a else(nth h.H (tG h a)).k
theorem KK{p:Int}(a:∀s∈h.K,s.Q≠p):gk h p = -1:=by
 unfold gk;refine eY (i:=h.K.length) (C5 _) λj z b c=>?_
 grind [nG]
theorem w5{E:List Int}(e:aY h E){c:Int}(f:0<=c)(b:k7 h.K a c):cst h a=csz c:=by
 obtain⟨s,b,d,g⟩:=b;obtain⟨i,j,rfl⟩:=aW b;have k:(nth h.K i).Q=a / 16:=by have l:=d.1;have n:=d.2.1;omega
 grind [nz,aY.L,cst,fZ]
theorem VL{E:List Int}(d:aY h E)(b:k7 h.K a (-1)):cst h a=fZ h a:=by
 obtain⟨s,b,c,-⟩:=b;obtain⟨i,e,rfl⟩:=aW b;have f:(nth h.K i).Q=a / 16:=by have g:=c.1;have j:=c.2.1;omega
 grind [nz,aY.L,cst]
theorem EZ{E:List Int}(a:aY h E){l:aC}(b:l∈h.H):cst h (16*l.Q)=l.k:=by
 have o:=ch (a.L.lok l b);have g:=aR (a.L.lok l b);have i:16*l.Q / 16=l.Q:=ω
 have c:gk h l.Q = -1:=KK λs k e=>a.L.dis s k l b 0 ω ω
 unfold cst;rw[i,c,CJ qs];obtain⟨f,p,-⟩:=qr b rfl;obtain⟨j,n,d⟩:=aW b;have q:=aR (a.L.lok _ (ax f));have:=a.L.one (tG h (16*l.Q)) j f n 0 0 ω (by rw[d];omega) (by rw[d];omega);rw[this,d]
def VQ(s:aB):List Int:=((List.range 16).filter λi=>decide (((i:Nat):Int) % csz s.d=0)&&bc s.a9 (((i:Nat):Int) / csz s.d)).map λi=>16*s.Q+(i:Nat)
theorem sV : a∈VQ s↔fA s a:=by
 unfold VQ fA;rw[O8];constructor
 ·grind
 rintro⟨b,c,d,e⟩
 refine⟨(a - 16*s.Q).toNat,?_,ω⟩
 grind
theorem XG(s:aB):(VQ s).Nodup:=by grind [List.nodup_range,VQ]
def fil(f:Nat->Bool)(n:Nat):Nat:=((List.range n).filter f).length
theorem zS(f:Nat->Bool)(n:Nat):fil f (n+1)=fil f n+if f n=true then 1 else 0:=by grind [List.range_succ,fil]
theorem Xk(f g p:Nat->Bool)(k:Nat)(a:0<k)(b:∀m j,j<k->f (k*m+j)=p m)(c:∀m j,j<k->g (k*m+j)=(decide (j=0)&&p m))(n:Nat):fil f (k*n)=k*fil g (k*n):=by
 induction n with
 | zero=>rfl
 | succ n d=>
  have h:∀j,j<=k->fil f (k*n+j)=fil f (k*n)+(if p n=true then j else 0)/\fil g (k*n+j)=fil g (k*n)+(if p n=true/\0<j then 1 else 0):=λj=>by
   induction j with
   | zero=>grind
   | succ j ih2=>
    grind [zS]
  grind
theorem Yz(f:bk s=true):QF s=(VQ s).length*csz s.d:=by
 have c:=aJ f;obtain⟨k,d⟩:=v5 (show 0<=csz s.d by rcases bT c.2.2 with e|e|e|e<;>rw[e]<;>decide);have g:∃n,16=k*n/\0<k:=by
  rcases bT c.2.2 with e|e|e|e<;>rw[e]at d
  ·exact⟨16,ω,ω⟩
  ·exact⟨8,ω,ω⟩
  ·exact⟨4,ω,ω⟩
  exact⟨2,ω,ω⟩
 obtain⟨n,l,a⟩:=g;have h:=Xk (kM s) (λi=>decide (((i:Nat):Int) % csz s.d=0)&&bc s.a9 (((i:Nat):Int) / csz s.d)) (λm=>bc s.a9 ((m:Nat):Int)) k a (λm j b=>by grind [Nat.mul_add_div,Nat.div_eq_of_lt,kM]) (λm j b=>by
   rw[d,<-Int.natCast_ediv,<-Int.natCast_emod,Nat.mul_add_div a,Nat.div_eq_of_lt b,Nat.add_zero,Nat.mul_add_mod,Nat.mod_eq_of_lt b]
   grind) n
 rw[<-l]at h;unfold QF lr VQ
 grind [fil]
def Pt(h:ac):List Int:=h.K.flatMap VQ++h.H.map λl=>16*l.Q
theorem NJ(f:aY h []):(holders h).Perm (Pt h):=by
 have d:=f.nd;rw[List.nil_append]at d;have n:=f.L;refine(List.perm_ext_iff_of_nodup d ?_).2 λa=>?_
 ·unfold Pt
  rw[List.nodup_append];refine⟨?_,?_,?_⟩
  ·unfold List.Nodup
   rw[List.pairwise_flatMap];refine⟨λs _=>XG s,?_⟩;refine f.srs.imp fun {s u} hlt a j b k=>?_
   have c:=sV.1 j;have o:=sV.1 k;have:=c.2.1;have:=o.1;omega
  ·grind [aY.srl]
  intro a j b k e;obtain⟨s,g,c⟩:=List.mem_flatMap.1 j;obtain⟨l,i,rfl⟩:=O8.1 k;have c:=sV.1 c;have p:=aR (n.lok l i);have q:=c.1;have r:=c.2.1;exact n.dis s g l i 0 ω ω
 have:=f.mem a;rw[List.nil_append]at this;rw[this];unfold Live Pt;rw[z5,List.mem_flatMap,O8];constructor
 ·rintro(⟨s,g,c,-⟩|⟨l,i,e⟩)
  all_goals grind [sV]
 rintro(⟨s,g,c⟩|⟨l,i,e⟩)
 ·exact .inl ⟨s,g,sV.1 c,.inl qs⟩
 grind
theorem Ur(b:aY h []):sm (cst h) (holders h)=ny h.K h.H:=by
 have e:=b.L;rw[Xf _ (NJ b)];unfold Pt ny;rw[sL,nw,nw]
 congr 1
 ·refine Ja VQ h.K λs d=>?_
  have f:=aJ (e.sok s d);rw[Dz (c:=csz s.d) (VQ s) λa g=>w5 b f.2.2.1 ⟨s,d,sV.1 g,.inr rfl⟩,Yz (e.sok s d)]
 grind [Ku,EZ]
def Fg{h:ac}(f:Int->Int):∀(b:List (List Int))(k:Nat),(∀j:Nat,j<b.length->∀a∈nth b j,f a=csz ((k+j:Nat):Int))->sm f b.flatten=dY k b
 | [],_,_=>rfl
 | l::b,k,e=>by
  rw[List.flatten_cons,sL,dY];rw[Dz (c:=csz (k:Nat)) l λa d=>e 0 (by simp) a d,Fg (h:=h) f b (k+1) λj g a d=>by
    rw[show k+1+j=k+(j+1) by omega];exact e (j+1) jp a d]
theorem xa(xs:List aV):quarCells xs xs.length=sm (λx=>csz x.d) xs:=by
 have h:∀n,quarCells xs n=fC (λx:aV=>csz x.d) xs n:=λn=>by
  induction n with
  | zero=>rfl
  | succ n a=>grind [quarCells,fC]
 rw[h,nw]
theorem ND(a:aY h [])(d:o∈h.J):cst h o.Addr=fD o:=by
 unfold fD;rcases a.oow o d with⟨s,b,e,f⟩|⟨l,c,g,i⟩
 ·have j:=aJ (a.L.sok s b)
  rw[CL ω,<-f];exact w5 a j.2.2.1 ⟨s,b,e,.inr rfl⟩
 have k:=ch (a.L.lok l c);rw[CJ (by grind [aN]),g,EZ a c,i]
theorem balance(b:aY h []):(dw h).c9=(dw h).d0+(dw h).c5+(dw h).b6+(dw h).c7:=by
 show ny h.K h.H=fC fD h.J h.J.length+fC dn h.R h.R.length+quarCells h.a7.y h.a7.y.length+fC (fZ h) (aL h.w) (aL h.w).length;rw[<-Ur b];unfold holders;rw[sL,sL,sL,nw,nw,nw,xa];have k:sm (cst h) (h.J.map (·.Addr))=sm fD h.J:=Ku _ _ λo l=>ND b l
 have n:sm (cst h) (cU h)=sm dn h.R:=Ja _ _ λc e=>by
  unfold dn;rw[CL (b.cach c e)];exact Fg (h:=h) (cst h) c.Y 0 λj u a i=>by grind [w5,aY.hca]
 have p:sm (cst h) (h.a7.y.map (·.Addr))=sm (λx:aV=>csz x.d) h.a7.y:=Ku _ _ λx q=>by
  have r:=b.hqu x q;obtain⟨s,d,-,w⟩:=id r;have e:=aJ (b.L.sok s d)
  grind [aY.quar,aW,fS,w5,gu,lZ]
 have t:sm (cst h) (aL h.w)=sm (fZ h) (aL h.w):=by
  have:=Ku (f:=fZ h) (g:=cst h) (λa:Int=>a) (aL h.w) λa i=>VL b (b.hfl a i)
  simp_all
 rw[k,n,p,t]
theorem Ax(t:aO):io t=((fil (λp=>decide ((nth t.M p).e≠0)) t.M.length:Nat):Int):=by
 have h:∀n,fC dd t.M n=((fil (λp=>decide ((nth t.M p).e≠0)) n:Nat):Int):=λn=>by
  induction n with
  | zero=>rfl
  | succ n a=>
   rw[zS];show fC dd t.M n+dd (nth t.M n)=_
   grind [dd]
 exact h _
theorem Uz:∀{l m:List Nat},l.Nodup->(∀a∈l,a∈m)->l.length<=m.length
 | [],_,_,_=>I1 _
 | a::l,m,b,c=>by
  obtain⟨e,d⟩:=List.nodup_cons.1 b;have f:=c a ψ;have:=Uz (l:=l) (m:=m.erase a) d ψ
  grind
theorem U6(a:List Bool):jE a a.length=((fil (nth a) a.length:Nat):Int):=by
 have h:∀n,jE a n=((fil (nth a) n:Nat):Int):=λn=>by
  induction n with
  | zero=>rfl
  | succ n b=>
   rw[zS];show jE a n+(if nth a n then 1 else 0)=_
   grind
 exact h _
theorem Xn(d:aY h []):0<=fU h.G.F.V/\fU h.G.F.V<=io (tbl h):=by
 obtain⟨-,e,-,f,-⟩:=aH.1 d.ker;unfold fU;rw[CL e,U6,Ax];refine⟨ω,Int.ofNat_le.2 ?_⟩;have:=Uz (l:=(List.range h.G.F.V.a6.length).filter (nth h.G.F.V.a6)) (m:=((List.range (tbl h).M.length).filter λp=>decide ((nth (tbl h).M p).e≠0)).map λp=>(nth (tbl h).M p).j.toNat) (List.nodup_range.sublist List.filter_sublist) λj b=>by
  rw[S8,List.mem_range]at b;have c:=f j b.1;rw[b.2]at c;have g:0<(pagesOn (tbl h) (j:Int)).length:=of_decide_eq_true c.symm;obtain⟨y,i⟩:=List.exists_mem_of_length_pos g;have a:=i;unfold pagesOn at a;obtain⟨p,-,rfl⟩:=O8.1 a
  grind [fo]
 rw[I2]at this;exact this
theorem Mb{α:Type}{f:α->Int} : ∀l:List α,(∀a∈l,0<=f a)->0<=sm f l
 | [],_=>O9 _
 | a::l,h=>by
  have d:=h a ψ;have e:=Mb l λb c=>h b (OA _ c)
  grind [sm]
def yp:∀(a:List (List Int))(k:Nat),0<=dY k a
 | [],_=>O9 _
 | l::a,k=>by
  have b:=yp a (k+1);have c:=Int.mul_nonneg (show(0:Int)<=l.length by omega) (csz8 (k:Nat)).1;simp only[dY];omega
theorem VP(a:aY h []):lW (dw h)=true:=by
 have n:=balance a;have e:=a.lens;have g:=a.to;have q:=Xn a;have r:(dw h).c6=io (tbl h):=rfl;have t:(dw h).V=fU h.G.F.V:=rfl;have u:(dw h).a1=(eQ h:Nat):=rfl;have i:io (tbl h)<=(eQ h:Nat):=by
  rw[Ax];have:fil (λp=>decide ((nth (tbl h).M p).e≠0)) (tbl h).M.length<=(tbl h).M.length:=by grind [fil]
  exact Int.ofNat_le.2 this
 have j:eQ h<=32:=e.ents;have w:0<=(dw h).d0:=by
  show 0<=fC fD h.J h.J.length;rw[nw];refine Mb _ λo k=>?_
  have:=Bz g o k;unfold fD;split
  ·exact(csz8 _).1
  omega
 have y:0<=(dw h).c5:=by
  show 0<=fC dn h.R h.R.length;rw[nw];refine Mb _ λc A=>?_
  unfold dn;split
  ·exact yp _ _
  omega
 have B:0<=(dw h).b6:=by
  show 0<=quarCells h.a7.y h.a7.y.length;rw[xa];exact Mb _ λx _=>(csz8 _).1
 have C:0<=(dw h).c7:=by
  show 0<=fC (fZ h) (aL h.w) (aL h.w).length;rw[nw];exact Mb _ λx _=>(csz8 _).1
 have D:(dw h).c9<=16*32+1000*32:=by
  show fC QF h.K h.K.length+fC (·.k) h.H h.H.length<=_;have E:=(mb (f:=QF) (xs:=h.K) (b:=16) (λs _=>Vn s) h.K.length (C5 _)).2;have F:=(mb (f:=λl:aC=>l.k) (xs:=h.H) (b:=1000) (λl d=>by
    have:=ch (a.L.lok l d);omega) h.H.length (C5 _)).2
  grind [pV.spans,pV.larges]
 grind [lW]
theorem Vg(a:aY h [])(n:JI h)(F:CI h){p:Nat}(G:p<eQ h)(w:(nth (tbl h).M p).e≠0)(P:h.q=true->(p:Int)≠h.a.X.a4):lL h p=true:=by
 have e:af (tbl h) (p:Int)=nth (tbl h).M p:=gR G;have f:(af (tbl h) (p:Int)).e≠0:=by rw[e];exact w
 have g:=nN a.ker (p:=(p:Int)) f;have H:(nth (tbl h).M p).j=(bV h.G p:Nat):=by rw[<-e];exact g
 unfold lL;refine cK.2 λc q=>?_
 have i:nth (rq h p) c=cl h.G (bV h.G p) c:=by grind [rq,cl]
 rw[i];by_cases y:cl h.G (bV h.G p) c=0
 ·grind
 rw[C1 y,Bool.false_or];unfold yb;rcases F.z _ c q y with⟨o,A,k⟩|⟨B,Q,R⟩
 ·rcases a.oow o A with⟨s,J,C,S⟩|⟨l,d,K,T⟩
  ·rcases lv a A k with⟨u,D,M,U,N,V⟩|⟨l,d,K,-⟩
   ·rw[CD]
    refine .inl (I7.2 ⟨u,D,?_⟩);obtain⟨W,X,Y⟩:=a.mapped D;rw[I0];refine⟨O0 ?_,?_⟩
    ·grind [gg,fo,aY.pe]
    unfold kM;rw[N];exact M.2.2.2
   exfalso;have:=aR (a.L.lok l d);exact a.L.dis s J l d 0 ω (by have:=C.1;have:=C.2.1;omega)
  rw[CD];refine .inr (I7.2 ⟨l,d,?_⟩);obtain⟨j,Z,j2,r⟩:=k;have O:=a.L.lok l d;have E:=O;unfold bI at E;rw[C0]at E;have hq:=nv a d (b:=o.Addr+j) ω ω r f g
  grind [At.c,b9]
 exfalso;have:=n.sk B p w;have t:=(a.jobM B).1;obtain⟨a1,a2,a3⟩:=qh t
 grind
def VS(h:ac):Nat->Nat
 | 0=>0
 | n+1=>if(nth (tbl h).M n).e≠0/\lL h n=true then VS h n+1 else VS h n
theorem WP(h:ac):∀n,VS h n<=n
 | 0=>C5 _
 | n+1=>by have:=WP h n;grind [VS]
theorem rF{α:Type}{f:α->Int}{x:α} : ∀{xs:List α},(xs.map f).Nodup->x∈xs->xs.filter (λy=>decide (f y=f x))=[x]
 | [],_,h=>by cases h
 | y::ys,b,a=>by
  rw[IC,List.nodup_cons]at b;by_cases e:f y=f x
  ·grind [List.filter_eq_nil_iff]
  rw[List.filter_cons_of_neg (by simpa using e)];rcases List.mem_cons.1 a with rfl|a
  ·exact absurd rfl e
  exact rF b.2 a
theorem Gb{α:Type}{f:α->Int}(n:Int):∀{xs:List α},(xs.Pairwise λa b=>f a<f b)->xs.filter (λy=>decide (f y<n+1))=xs.filter (λy=>decide (f y<n))++xs.filter (λy=>decide (f y=n))
 | [],_=>rfl
 | y::ys,h=>by
  obtain⟨i,c⟩:=List.pairwise_cons.1 h;have d:=Gb (f:=f) n c;rcases Int.lt_trichotomy (f y) n with e|e|e
  ·rw[List.filter_cons_of_pos jp,List.filter_cons_of_pos jp,List.filter_cons_of_neg jp,d];rfl
  ·have g:ys.filter (λy=>decide (f y<n+1))=[]:=List.filter_eq_nil_iff.2 ψ
   grind [List.filter_eq_nil_iff]
  have g:ys.filter (λy=>decide (f y<n+1))=[]:=List.filter_eq_nil_iff.2 ψ
  grind
def zC(r:aS):Qv:=⟨r.Id,(r.T.length:Nat),NA r.T r.T.length⟩
theorem Nr(k:ah)(h:0<=o.k):zC (iC k o)=NN k o:=by grind [iW,zC,iC,NN]
def FU{w:bh}(b:RS w)(c:aY w.W []):∀n:Nat,sY w.W n=(w.b3.J.filter λy:aS=>decide (y.Id<(n:Int))).map zC
 | 0=>by
  rw[List.filter_eq_nil_iff.2 (λy h=>by have:=b.lt c y h;simp;omega)];rfl
 | n+1=>by
  have k:=Gb (f:=λy:aS=>y.Id) (n:Int) b.asc;rw[show((n+1:Nat):Int)=(n:Int)+1 by omega,k,OB,sY,FU b c n]
  congr 1
  by_cases i:∃o∈w.W.J,o.Id=n
  ·obtain⟨o,a,e⟩:=i
   have l:=Wu c a;have d:=rF (f:=λo:bg=>o.Id) (x:=o) c.oid a;have g:=rF (f:=λy:aS=>y.Id) (x:=iC w.W.G o) (dv b.asc) ((b.mem _).2 ⟨o,a,rfl⟩);simp only[show(iC w.W.G o).Id=o.Id from rfl,e]at d g;rw[g,show w.W.J.filter (cM n)=[o] from d,IC,IC,Nr _ ω]
   rfl
  have d:w.W.J.filter (cM n)=[]:=List.filter_eq_nil_iff.2 λo a j=>i ⟨o,a,of_decide_eq_true j⟩
  have g:w.b3.J.filter (λy:aS=>decide (y.Id=(n:Int)))=[]:=List.filter_eq_nil_iff.2 λy h j=>by
   obtain⟨o,a,rfl⟩:=(b.mem y).1 h;exact i ⟨o,a,of_decide_eq_true j⟩
  rw[d,g];rfl
theorem Tv(b:RS w)(a:aY w.W []):z8 w.W=w.b3.J.map zC:=by
 unfold z8;rw[CL a.to,FU b a,List.filter_eq_self.2];intro y c;have:=b.lt a y c
 grind [RS.nx]
theorem QB(a:aY h []):(z8 h).length=h.J.length:=by
 have c:=λo b=>a.onu o b
 grind [aY.to,yV,List.filter_eq_self,z8]
theorem WF(a:RS w)(b:aY w.W []):w.b3.J.length=w.W.J.length:=by grind [QB,Tv]
def MB(a:RS w)(b:aY w.W []):jm w.W w.b3=true:=by
 have c:=b.to;rw[y9 c a.nx.symm (WF a b).symm];refine cK.2 λj d=>?_
 obtain⟨o,f,e⟩:=(a.mem _).1 (ax d);obtain⟨i,g,rfl⟩:=aW f;have h:=(XN c (z:=(nth w.b3.J j).Id) g).1 (by rw[e];rfl);rw[JR h,e];exact O0 rfl
theorem N6(h:mW w m)(c:CW w):oH w=true:=by
 rw[Gk (MB c.rs h.inv) (VP h.inv)]
 grind [cK,Vg,mW.inv,mW.ji,CW.ci,lX]
open Go.RowKit
set_option maxRecDepth 20000
set_option maxHeartbeats 4000000
def cells1(xs:List Int)(i:Nat)(h:i<xs.length):[rI .S (nth xs i)]=((xs.map (rI .S)).take (i+1)).drop i:=by
 rw[List.drop_take,<-I8,gZ h,show i+1 - i=1 by omega]
 rfl
def Jc(k:ah)(j:cY)(c:aI k=true)(D:lB j=true):zzA 493 false [.val (some 5) (ah.enc .S k),.val (some 5) (cY.enc .S j)] (.tup [some 5,some 5]) (ah.enc .own (gC k j).1++cY.enc .own (gC k j).2):=by
 obtain⟨F,Y,Z,Q,j6⟩:=dX.1 D;have R:=oo F;have y:=bj c;have g:=i6 k y;have l:=wh j (x7 D);have b:=jq k y;rw[c,Bool.and_true]at b;have o:=AS j (x7 D);rw[D]at o;have d:=fQ k j.X.a4 y.1.2;have p:=fQ k j.X.a5 y.1.2;have r:=cT k.F.O j.X.a4 y.1.2;have t:=cT k.F.O j.X.a5 y.1.2;have L:=(bu.1 (aH.1 c).2.2.1).2.2;have S:=(bi.1 (aH.1 c).2.1).2.2.1;have q:jmay k j=false->gC k j=(k,j):=λe=>by unfold gC;rw[e];rfl
 refine fO 149 [(1,262,[11,12,13,14,15,16,0,1,2,3,4,5,6,1003,1004,1005,7]),(2,6,[17,18,19,20,8,9]),(3,33,[21,22,23,24,25,26,27,28,29,30,31,32,33,34,35,36,37,38,39,40,41,42,43,44,45,46,47,48,49,50,51,52,53]),(4,258,[56,57,0,1,2,1001,3]),(15,272,[82,83,84,85,86,87,88,89,90,91,92,93,94,81,95,96,0,1,2,3,4,5,6,7,8,9,10,11,12,13,14,15,16,1015]),(25,273,[123,124,125,126,127,128,129,130,131,132,133,134,135,122,136,137,138,0,1,2,3,4,5,6,7,8,9,10,11,12,13,14,15,16,17,1015]),(29,258,[147,148,0,1,2,1001,3])] Tryz.func493 rfl ?_ (.inr (aD (Ck _) (cY.enc_fr _)));by_cases u:k.Calls=100000
 ·rw[C1 (λn=>n u)]at b
  rw[q (by rw[<-SA,iQ];exact λh=>h.1.2 u)]
  refine σP ?_
  rfl
 rw[O0 u]at b;by_cases B:(af k.F.O j.X.a4).e=0
 ·rw[C1 (λn=>n B)]at d
  rw[q (by rw[<-SA,iQ];exact λh=>h.2.2.1 B)]
  refine σP ?_
  rfl
 rw[O0 B]at d;by_cases w:(af k.F.O j.X.a5).e=0
 ·rw[C1 (λn=>n w)]at p
  rw[q (by rw[<-SA,iQ];exact λh=>h.2.2.2.1 w)]
  refine σP ?_
  rfl
 rw[O0 w]at p;by_cases G:(af k.F.O j.X.a4).j=(af k.F.O j.X.a5).j
 ·rw[q (by rw[<-SA,iQ];exact λh=>h.2.2.2.2 G)]
  refine σB ?_
  rfl
 have T:jmay k j=true:=iQ.2 ⟨⟨c,u⟩,D,B,w,G⟩;rw[show gC k j=jstep k j by unfold gC;rw[T];rfl];have H:j.X.a5≠j.X.a4:=λe=>G (by rw[e])
 unfold jstep;by_cases M:j.b0=0
 ·rw[CL M]
  have a:=ux k j.X.a5 1 c u w (.inl rfl);cases e:(jx k j.X.a5 1).2<;>rw[e]at a
  all_goals
   refine σB ?_
   rfl
 rw[CJ M];by_cases N:j.b0=1
 ·rw[CL N]
  by_cases E:j.b=j.X.T.length
  ·rw[CL E]
   refine σB ?_
   rfl
  rw[CJ E];obtain⟨n,C⟩:=v5 Q;have a:=N3 k j.X.a5 j.X.a4 (nth j.X.T j.b.toNat) c u w B (gx F ω);rw[C,t5]at a;have J:n<j.X.T.length:=ω
  rw[show nth j.X.T j.b.toNat=nth j.X.T n by rw[C];rfl]
  repeat'(first|refine gB ?_|refine Sl.mid (rows':=[rI .S (nth j.X.T n)]) n (n+1) C ω ω (by rw[I2];omega) (aM λ_=>rfl) (cells1 _ _ J) ?_)
  rfl
 rw[CJ N];by_cases O:j.b0=2
 ·rw[CL O]
  have a:=JN k j.X.a5 j.X.a4 c u w B H;cases e:(w8 k j.X.a5 j.X.a4).2<;>rw[e]at a
  all_goals
   refine σB ?_
   rfl
 rw[CJ O];by_cases K:j.b0=3
 ·rw[CL K]
  obtain⟨p1,p2,p3,U,p5⟩:=bD c B;by_cases E:0<j.b
  ·rw[CL E]
   have P:=gx F (i:=(j.b - 1).toNat) ω;have V:=ar (xs:=j.X.T) (i:=(j.b - 1).toNat) ω;have W:0<=j.X.a4*16+nth j.X.T (j.b - 1).toNat/\j.X.a4*16+nth j.X.T (j.b - 1).toNat<512:=ω
   have X:(j.X.a4*16+nth j.X.T (j.b - 1).toNat) / 16=j.X.a4:=ω
   have a:=A8 k.F (j.X.a4*16+nth j.X.T (j.b - 1).toNat) 0 (je c) y.1 W ω (λ_=>by rw[X];exact⟨U,ω,row16 c (f:=bV k j.X.a4) (by unfold bV;omega)⟩);generalize (gN k.F (j.X.a4*16+nth j.X.T (j.b - 1).toNat) 0).1=m at a |-;generalize (gN k.F (j.X.a4*16+nth j.X.T (j.b - 1).toNat) 0).2=e at a
   repeat'(first|refine gB ?_|refine CQ ω (aa V) ?_)
   rfl
  rw[CJ E];have a:=ux k j.X.a5 2 c u w (.inr rfl);cases e:(jx k j.X.a5 2).2<;>rw[e]at a
  all_goals
   refine σB ?_
   first|rfl|(rw[<-K];rfl)
 rw[CJ K]
 refine σB ?_
 rfl
def Zu(h:ac):Int:=(gC h.G h.a).2.b0
def E9(h:ac)(l:aY h [])(n:h.q=true)(o:ac.sml h)(t:h.G.Calls<=99000):zzA 387 false [.val (some 24) (ac.enc .S h)] (.tup [some 24,none,none]) (ac.enc .own (mStep h)++[I (Zu h),B true]):=by
 obtain⟨q,-,-⟩:=l.job n;have i:=jC h o;have c:=cJ h o;rw[dM,l.to]at c;have j:=Jc h.G h.a l.ker q;have a:=aD (b:=[I (Zu h),B true]) (ac.enc_fr (mStep h)) ⟨tV1,tV1,tV1⟩;unfold Zu mStep at a |-;generalize gC h.G h.a=r at j a |-;have d:(ac.enc .S h)=(ac.enc .S h).set 18 (B true):=by rw[<-n];rfl
 rw[d];rw[d]at i c;by_cases e:r.2.b0=4
 ·rw[CL (show over r.2=true from O0 (.inl e)),CL (show over r.2=true from O0 (.inl e))]at a |-
  refine fO 51 [(3,260,[23,24,25,26,0,1,2,3,4,1001,1002,1003,5,6])] Tryz.func387 rfl ?_ (.inr a)
  repeat'((conv=>whnf);first|with_reducible (first|refine Lm ?_|refine Wm ω ?_|refine dF ω (λg=>?_)|refine eT ω (λg=>?_)|refine eF ω (λg=>?_)|refine Bn ?_|refine j8.wk rfl ?_)|refine Bt ?_|refine Bu ?_|refine CH ?_|refine CG (i) ?_|refine CG (c) ?_|refine CG (j) ?_|refine CH ?_)
  rw[e];exact wC
 by_cases k:r.2.b0=5
 ·rw[CL (show over r.2=true from O0 (.inr k)),CL (show over r.2=true from O0 (.inr k))]at a |-
  refine fO 51 [(3,260,[23,24,25,26,0,1,2,3,4,1001,1002,1003,5,6])] Tryz.func387 rfl ?_ (.inr a)
  repeat'((conv=>whnf);first|with_reducible (first|refine Lm ?_|refine Wm ω ?_|refine dF ω (λg=>?_)|refine eT ω (λg=>?_)|refine eF ω (λg=>?_)|refine Bn ?_|refine j8.wk rfl ?_)|refine Bt ?_|refine Bu ?_|refine CH ?_|refine CG (i) ?_|refine CG (c) ?_|refine CG (j) ?_|refine CH ?_)
  rw[k];exact wC
 have p:¬over r.2=true:=by unfold over;simp[e,k]
 rw[CJ p,CJ p]at a |-;refine fO 51 [(3,260,[23,24,25,26,0,1,2,3,4,1001,1002,1003,5,6])] Tryz.func387 rfl ?_ (.inr a)
 refine σB ?_
 rw[n]
 rfl
section
variable{P:Program}{w0 w w1:World}{M S0 S:am}{N:gy}{φ:Nat->am}{F:Nat->AV}{a:Act}{TE:Nat->Option TI}
end
def R2{w:World}{S Y:am}{t:List C}{u:Nat->Value}(d:dz w S Y (ac.enc .own h++t) u):dz w S Y (dO h++t) u:=by
 obtain⟨f,b,e,g⟩:=d;refine⟨f,λj c a=>?_,e,g⟩;have i:dO h++t=(((ac.enc .own h++t).set 6 (oS h)).set 7 (oL h)).set 8 (oO h):=rfl;rw[i]at a;by_cases k:j=8
 ·subst k
  have:c=oO h:=by simpa[ac.enc] using a.symm
  rw[this];exact uG (b 8 _ rfl)
 by_cases l:j=7
 ·subst l
  have:c=oL h:=by simpa[ac.enc] using a.symm
  rw[this];exact uG (b 7 _ rfl)
 by_cases n:j=6
 ·subst n
  have:c=oS h:=by simpa[ac.enc] using a.symm
  rw[this];exact uG (b 6 _ rfl)
 rw[List.getElem?_set_ne ω,List.getElem?_set_ne ω,List.getElem?_set_ne ω]at a;exact b j c a
def au.E{P:Program}{f:Nat}{sh:Bool}{A:List RA}{k:Kd}{t:List C}(c:au P f sh A k (ac.enc .own h++t)):au P f sh A k (dO h++t):=by
 obtain⟨a,b⟩:=c;refine⟨a,λw S d g i=>(b w S d g i).mono λe w1 j=>?_⟩;obtain⟨v,l,n,X,S1,o,p,q,r,u⟩:=j;exact⟨v,l,n,X,S1,o,p,q,r,R2 u⟩
def y8(h:ac)(a:ac.sml h)(b:h.q=false):zzA 387 false [.val (some 24) (ac.enc .S h)] (.tup [some 24,none,none]) (dO h++[I h.a.b0,B false]):=by
 have c:=eD h a;refine fO 51 [(3,260,[23,24,25,26,0,1,2,3,4,1001,1002,1003,5,6])] Tryz.func387 rfl ?_ (.inr (aD (cF _) ⟨tV1,tV1,tV1⟩))
 repeat'(first|refine gP ?_|refine Bf.f b ?_)
 rfl
def stp1(h:ac):ac:=if h.q=true then mStep h else h
def MV(h:ac)(d:aY h [])(b:ac.sml h)(e:h.G.Calls<=99000):zzA 269 false [.val (some 24) (ac.enc .S h)] (.tup [some 24,none]) (dO (stp1 h)++[B h.q]):=by
 unfold stp1;cases c:h.q with
 | true=>
  rw[CL rfl];have a:=(E9 h d c b e).E;generalize mStep h=g at a |-;refine fO 15 [] Tryz.func269 rfl ?_ (.inr (aD (cF _) ⟨tV1,tV1⟩))
  refine σP ?_
  rfl
 | false=>
  rw[CJ (by simp)];have a:=y8 h b c;refine fO 15 [] Tryz.func269 rfl ?_ (.inr (aD (cF _) ⟨tV1,tV1⟩))
  refine σP ?_
  rfl
def zg(q:bv)(now:Int)(l:gu q=true)(L:q.y.length<=4096)(E:0<=now/\now<=1000000)(b:∀y∈q.y,y.b5<=1000000):zzA 411 false [.val (some 2) (bv.enc .S q),.vI now,.vI 100] (.tup [some 2,none]) (KR q now):=by
 have p:bv.sml q:=⟨ω,λ_ _=>tV1⟩
 have F:=pD q p;have r:=sC q p;rw[l]at r;have t:=aK now 0 1000000;rw[O0 E]at t;have u:=aK 100 0 1000000;rw[O0 qs]at u;have n:=(jD.1 l).1;have a:iN (KR q now):=aD (bv.enc_fr _) (oM _);have w:∀i,i<q.y.length->0<=(nth q.y i).b5:=λi c=>(n _ (ax c)).2.2.2
 unfold KR at a |-;generalize G:qO now q.y=k at a |-;refine fO 59 [] Tryz.func411 rfl ?_ (.inr a)
 refine σP ?_
 refine Lp.fz 8 (ι:=Nat) (λi=>[(1,fI now),(2,fI 100),(3,bB (bv.enc .S q)),(6,bB [I 0,.z]),(8,bB (bv.enc .S q)),(9,fN i)]) (λi=>i<=q.y.length/\∀j,j<i->(nth q.y j).b5<now - 100) (λi=>q.y.length - i) 0 ?_ ⟨I1 _,λj H=>ω⟩ λi c=>?_
 ·(repeat'(first|exact tV1|rfl|exact CV rfl (show Rr (eJ (bv.enc .own q)) (bv.enc .S q) by rw[bv.enc_fz];exact m9 _)|refine CV ?_ ?_))
 obtain⟨c,B⟩:=c;by_cases d:i<q.y.length/\(nth q.y i).b5<now - 100
 ·have g:=ar d.1
  have:=w i d.1;have:=b _ (ax d.1)
  refine σE ?_
  (exact cV (i+1) ⟨ω,λj H=>by by_cases e:j=i;(subst e;exact d.2);exact B j ω⟩)
 have h:=Ho now (i:=i) c B (λJ K=>d ⟨J,K⟩);rw[G]at h;subst h;have C:=na (q.y.take k) (by rw[I3];omega);have D:=na (q.y.drop k) (by rw[C6];omega);by_cases o:k<q.y.length
 ·have g:=ar o
  have:=w k o;have:=b _ (ax o)
  repeat'(first|refine gE ?_|refine gS (λl=>?_) (λl=>?_)|refine Cc k rfl (by rw[I2];omega) (aM λ_=>rfl) C8 ?_|refine Cj k rfl (by rw[I2];omega) (aM λ_=>rfl) I8 ?_)
  rfl
 repeat'(first|refine gE ?_|refine Cc k rfl (by rw[I2];omega) (aM λ_=>rfl) C8 ?_|refine Cj k rfl (by rw[I2];omega) (aM λ_=>rfl) I8 ?_)
 rfl
def Rj(h:ac)(xs:List aV)(k:Nat)(a:k<xs.length):freeAs h ((xs.take (k+1)).map (·.Addr))=freeA (freeAs h ((xs.take k).map (·.Addr))) (nth xs k).Addr:=by
 unfold freeAs;rw[CB,ar a];simp
def ER(h:ac)(n:Int)(o:ac.sml h)(c:aY h [])(u:h.G.Calls≠100000)(p:0<=n/\n<=1000)(e:h.b1+n<=1000000):zzA 268 false [.val (some 24) (ac.enc .S h),.vI n] (.tup [some 24,none]) (dO (tick h n)++[I ((ns h n).length:Nat)]):=by
 have w:=eD h o;have q:=cJ h o;rw[dM,c.to]at q;have r:=aK n 0 1000;rw[O0 p]at r;have a:=c.nums;unfold cI at a;rw[C0]at a;have B:=c.lens.quar;have t:=zg h.a7 (h.b1+n) c.quar ω ω (λy C=>by have:=c.snc y C;omega);unfold KR at t;have b:=c.aged (n:=n) p.1 e;have D:((h.a7.y.take (qO (h.b1+n) h.a7.y))).length<=512:=by rw[I3];omega
 have g:ns h n=(h.a7.y.take (qO (h.b1+n) h.a7.y)).map (·.Addr):=rfl;have E:dO (aged h n)=((dO h).set 15 (I (h.b1+n))).set 13 (.s .own ((h.a7.y.drop (qO (h.b1+n) h.a7.y)).map (aV.enc .own))):=rfl;unfold tick;rw[g]at b |-;rw[List.append_nil]at b;generalize h.a7.y.take (qO (h.b1+n) h.a7.y)=out at *;refine fP 63 [(247,[2,0])] [] Tryz.func268 rfl ?_ (.inr (aD (cF _) ⟨tV1,tV1⟩))
 refine σB ?_
 refine lp0 out.length (λk=>[(4,.Z .box w7),(6,bB (dO (freeAs (aged h n) ((out.take k).map (·.Addr))))),(8,bJ (de .own out)),(50,.c2 8 0 [] none),(51,fI out.length),(52,fN k)]) λk G=>?_
 by_cases i:k<out.length
 ·have d:=ar i
  have j:out.map (·.Addr)=(out.take k).map (·.Addr)++(nth out k).Addr::(out.drop (k+1)).map (·.Addr):=by
   conv=>lhs;rw[<-List.take_append_drop k out,gZ i]
   simp
  have l:aY (freeAs (aged h n) ((out.take k).map (·.Addr))) ((nth out k).Addr::(out.drop (k+1)).map (·.Addr)):=aY.freeAs (by rw[<-j];exact b);have F:=mI _ _ _ l (by rw[(ic _ _).2.2.1];exact u)
  refine σE ?_
  (refine CR (k+1) ω ω ?_)
  rw[Rj _ out k i];exact wC
 obtain rfl:k=out.length:=ω
 rw[S9]
 refine σE ?_
 rw[I2]
 rfl
def au.fzE{P:Program}{f:Nat}{sh:Bool}{A:List RA}{k:Kd}{g:ac}{x:C}(c:au P f sh A k (dO g++[x]))(b:fz x=x):au P f sh A k (ac.enc .S g++[x]):=by
 have a:=c.fzR;rw[co,G8]at a;change au _ _ _ _ _ (_++[fz x]) at a
 rwa [b]at a
def HX(h:ac)(t:Int)(a:ac.sml h)(c:aY h [])(d:¬(h.G.Calls≠100000/\0<=t/\t<=h.R.length - 1)):zzA 91 false [.val (some 24) (ac.enc .S h),.vI t] (.tup [some 24,none]) (dO h++[I 0]):=by
 have e:=eD h a;have b:=qX h t a;rw[c.to,show(decide (0<=t/\t<=h.R.length - 1)&&decide (h.G.Calls≠100000)&&true)=false by
   rw[Bool.and_true,<-SA,I0,C0,C0];exact λx=>d ⟨x.2,x.1⟩]at b
 refine fP 52 [(247,[2,0])] [] Tryz.func91 rfl ?_ (.inr (aD (cF _) ⟨tV1,tV1⟩))
 refine σP ?_
 rfl
def Km(h:ac)(n:Int)(g:ac.sml h)(i:aY h [])(j:¬(h.G.Calls≠100000/\(0<=n/\n<=1000)/\h.b1+n<=1000000)):zzA 268 false [.val (some 24) (ac.enc .S h),.vI n] (.tup [some 24,none]) (dO h++[I 0]):=by
 have d:=eD h g;have b:=cJ h g;rw[dM,i.to]at b;have c:=aK n 0 1000;have a:=i.nums;unfold cI at a;rw[C0]at a;by_cases k:h.G.Calls=100000
 ·refine fP 63 [(247,[2,0])] [] Tryz.func268 rfl ?_ (.inr (aD (cF _) ⟨tV1,tV1⟩))
  refine σB ?_
  rfl
 by_cases e:0<=n/\n<=1000
 ·rw[O0 e]at c
  have l:¬h.b1+n<=1000000:=λx=>j ⟨k,e,x⟩
  refine fP 63 [(247,[2,0])] [] Tryz.func268 rfl ?_ (.inr (aD (cF _) ⟨tV1,tV1⟩))
  refine σB ?_
  rfl
 rw[C1 e]at c;refine fP 63 [(247,[2,0])] [] Tryz.func268 rfl ?_ (.inr (aD (cF _) ⟨tV1,tV1⟩))
 refine σB ?_
 rfl
def Ky(h:ac)(a:ac.sml h)(b:h.q=true)(d:99000<h.G.Calls):zzA 387 false [.val (some 24) (ac.enc .S h)] (.tup [some 24,none,none]) (dO h++[I h.a.b0,B false]):=by
 have c:=eD h a;refine fO 51 [(3,260,[23,24,25,26,0,1,2,3,4,1001,1002,1003,5,6])] Tryz.func387 rfl ?_ (.inr (aD (cF _) ⟨tV1,tV1,tV1⟩))
 repeat'(first|refine gE ?_|refine Bf.t b ?_)
 rfl
def HA(h:ac)(i:aY h [])(a:ac.sml h):zzA 269 false [.val (some 24) (ac.enc .S h)] (.tup [some 24,none]) (dO (if pJ h=true then mStep h else h)++[B (pJ h)]):=by
 by_cases b:h.G.Calls<=99000
 ·have c:=MV h i a b
  unfold stp1 at c;have e:pJ h=h.q:=by unfold pJ;rw[O0 b,Bool.and_true]
  rw[e];exact c
 have e:pJ h=false:=by unfold pJ;rw[C1 b,Bool.and_false]
 rw[e,CJ (by simp)];cases g:h.q with
 | true=>
  have d:=Ky h a g ω;refine fO 15 [] Tryz.func269 rfl ?_ (.inr (aD (cF _) ⟨tV1,tV1⟩))
  refine σP ?_
  rfl
 | false=>
  have d:=y8 h a g;refine fO 15 [] Tryz.func269 rfl ?_ (.inr (aD (cF _) ⟨tV1,tV1⟩))
  refine σP ?_
  rfl
def Qf(h:ac):∀k,(stN h k).2<=k
 | 0=>C5 _
 | k+1=>by
  have:=Qf h k;unfold stN;split
  ·show(stN h k).2+1<=_;omega
  omega
def W3(h:mW w m)(d:lQ w.W.G.a3)(k:Nat)(f:k<=50):ac.sml (stN w.W k).1:=by
 have e:∀a:fg,a.b2=10->a.N=(k:Nat)->(mY w a).1.W=(stN w.W k).1:=λa c b=>by
  unfold mY;rw[CJ ω,CJ ω,CJ ω,CJ ω,CJ ω,CL ω];show(stN w.W a.N.toNat).1=_;rw[b];rfl
 have c:=h.act ⟨10,0,(k:Nat),0,0⟩;have b:=M2 h ⟨10,0,(k:Nat),0,0⟩;unfold rfs at b;rw[<-e ⟨10,0,(k:Nat),0,0⟩ rfl rfl];exact(c.fit (by rw[b];exact d)).1
def EY(w:bh)(a:fg)(i m:Nat)(h:mW w m)(S:m<=900)(o:ac.sml w.W)(p:i<w.W.J.length):zzA 264 true [.val (some 26) (bh.enc .S w),.val (some 5) (fg.enc .S a),.val (some 4) (bg.enc .S (nth w.W.J i))] (.tup [some 26,none]) (bh.enc .S (lK w a i).1++[I (lK w a i).2]):=by
 have d:=h.inv;have J:=pN d (ax p);have K:=di d (ax p) (k:=0);have M:1<=(nth w.W.J i).k/\(nth w.W.J i).k<=1000:=by
  rcases d.oow _ (ax p) with⟨s,o,T,F⟩|⟨l,B,c,g⟩
  ·have U:=aJ (d.L.sok s o)
   have:=iv (n:=(nth w.W.J i).k) ω;omega
  have V:=ch (d.L.lok l B);omega
 have C:lD w.W (nth w.W.J i).Addr=i:=by
  obtain⟨F,y,-⟩:=d.objAt (ax p);exact du (f:=(·.Addr)) (dv d.osr) F p (by rw[y])
 have N:=d.lens.caches;unfold lK;by_cases G:a.b2=2
 ·rw[CL G]
  unfold t8;by_cases c:w.W.G.Calls=100000
  ·rw[CL c]
   have j:=(HH w.W a.a2 (nth w.W.J i).Addr o d.to c).fzE rfl;refine fO 102 [] Tryz.func264 rfl ?_ (.inl rfl)
   repeat'(first|refine gB ?_|refine gS (λb=>?_) (λb=>?_)|refine Cl.sh j rfl ?_)
   rfl
  rw[CJ c];by_cases g:0<=a.a2/\a.a2<=w.W.R.length - 1
  ·rw[CL (show mH w.W a from g)]
   obtain⟨t,O⟩:=v5 g.1;have j:=(H1 w.W (nth w.W.J i) t o d.to c (ax p) ω).fzE rfl;rw[C,<-O]at j;rw[show a.a2.toNat=t by omega];have P:=GW w.b3 (nth w.W.J i).Id m h.ref ω;generalize freeT w.W t i=f at j |-;by_cases q:f.2=0
   ·rw[CL q]
    refine fO 102 [] Tryz.func264 rfl ?_ (.inl rfl)
    repeat'(first|refine gB ?_|refine gS (λb=>?_) (λb=>?_)|refine Cl.sh P rfl ?_)
    rfl
   rw[CJ q];refine fO 102 [] Tryz.func264 rfl ?_ (.inl rfl)
   repeat'(first|refine gB ?_|refine gS (λb=>?_) (λb=>?_)|fail)
   rfl
  rw[CJ (show ¬mH w.W a from g)];have j:=(Jh w.W a.a2 (nth w.W.J i).Addr o d.to c g).fzE rfl;refine fO 102 [] Tryz.func264 rfl ?_ (.inl rfl)
  repeat'(first|refine gB ?_|refine gS (λb=>?_) (λb=>?_)|fail)
  rfl
 rw[CJ G];by_cases H:a.b2=3
 ·rw[CL H]
  unfold pT;have r:=aK a.At 0 ((nth w.W.J i).k - 1);by_cases c:0<=a.At/\a.At<=(nth w.W.J i).k - 1;rotate_left
  ·rw[CL c]
   rw[C1 c]at r;refine fO 102 [] Tryz.func264 rfl ?_ (.inl rfl)
   repeat'(first|refine gB ?_|refine gS (λb=>?_) (λb=>?_)|fail)
   rfl
  rw[CJ (S7 c)];rw[O0 c]at r;have D:0<=La w.W ((nth w.W.J i).Addr+a.At):=Bi (ax p) (O0 ω);by_cases q:0<=a.Value/\a.Value<=999;rotate_left
  ·have e:=(Eh w.W ((nth w.W.J i).Addr+a.At) a.Value o d q D).fzE rfl
   unfold tbl at e;by_cases g:(af w.W.G.F.O (((nth w.W.J i).Addr+a.At) / 16)).e=1
   ·rw[CL g]at e |-
    refine fO 102 [] Tryz.func264 rfl ?_ (.inl rfl)
    repeat'(first|refine gB ?_|refine gS (λb=>?_) (λb=>?_)|fail)
    rfl
   rw[CJ g]at e |-;rw[CL q];refine fO 102 [] Tryz.func264 rfl ?_ (.inl rfl)
   repeat'(first|refine gB ?_|refine gS (λb=>?_) (λb=>?_)|fail)
   rfl
  have e:=(Ae w.W ((nth w.W.J i).Addr+a.At) a.Value o d q).fzE rfl;unfold H4 tbl at e;rw[CJ (show ¬La w.W ((nth w.W.J i).Addr+a.At)<0 by omega)]at e;by_cases g:(af w.W.G.F.O (((nth w.W.J i).Addr+a.At) / 16)).e=1
  ·rw[CL g]at e |-
   refine fO 102 [] Tryz.func264 rfl ?_ (.inl rfl)
   repeat'(first|refine gB ?_|refine gS (λb=>?_) (λb=>?_)|fail)
   rfl
  rw[CJ g]at e |-;rw[CJ (S7 q)];obtain⟨W,Q⟩:=DV w.b3 (nth w.W.J i).Id a.At a.Value m h.ref ω q;simp only at e;refine fO 102 [] Tryz.func264 rfl ?_ (.inl rfl)
  repeat'(first|refine gB ?_|refine gS (λb=>?_) (λb=>?_)|refine Cl.sh Q rfl ?_)
  rfl
 rw[CJ H];unfold tf;have u:=(EN w.W i a.Value o d p).fzE rfl;by_cases c:w.W.G.Calls≠100000/\jh w.W i a.Value
 ·rw[CL c]at u |-
  rw[O0 c]at u;have E:=lM true;obtain⟨X,R⟩:=J2 w.b3 (nth w.W.J i).Id a.Value m h.ref ω;refine fO 102 [] Tryz.func264 rfl ?_ (.inl rfl)
  repeat'(first|refine gB ?_|refine gS (λb=>?_) (λb=>?_)|refine Cl.sh R rfl ?_)
  rfl
 rw[CJ c]at u |-;rw[C1 c]at u;have E:=lM false;refine fO 102 [] Tryz.func264 rfl ?_ (.inl rfl)
 repeat'(first|refine gB ?_|refine gS (λb=>?_) (λb=>?_)|fail)
 rfl
def Nh(w:bh)(a:fg)(m:Nat)(h:mW w m)(W:m<=900)(K:lQ w.W.G.a3):zzA 116 true [.val (some 26) (bh.enc .S w),.val (some 5) (fg.enc .S a)] (.tup [some 26,none]) (bh.enc .S (mY w a).1++[I (mY w a).2]):=by
 have l:=h.inv;have p:=(h.fit K).1;have C:=h.ref.sml (by omega:m<=1000);have g:=(zQ w p C).fzR;rw[bh.enc_fz]at g;have i:=cJ w.W p;rw[dM,l.to]at i;have X:=l.lens.objs;unfold mY;by_cases M:a.b2=1
 ·rw[CL M]
  obtain⟨cc,r,d⟩:=Kz w.W a.a2 a.N p l (by rw[dM];exact l.to);have c:=d.fzR;rw[co,Wy r]at c;change au _ _ _ _ _ (_++[I _,I _]) at c;by_cases e:(allocH w.W a.a2 a.N).2.2=0
  ·rw[CL e]
   have D:1<=a.N/\a.N<=1000:=by
    refine Classical.byContradiction λO=>?_
    unfold allocH at e;rw[CL O]at e;split at e
    ·exact absurd (show(5:Int)=0 from e) qs
    split at e
    ·exact absurd (show(1:Int)=0 from e) qs
    exact absurd (show(2:Int)=0 from e) qs
   have j:=EF w.b3 a.N m h.ref ω D;clear d r;generalize allocH w.W a.a2 a.N=f at c e |-;refine fO 148 [(15,11,[56,57,58,59,60,61,62,63,64,65,66])] Tryz.func116 rfl ?_ (.inl rfl)
   repeat'(first|refine gB ?_|refine gS (λb=>?_) (λb=>?_)|refine Cl.sh c rfl ?_|refine Cl.sh j rfl ?_)
   rfl
  rw[CJ e];clear d r;generalize allocH w.W a.a2 a.N=f at c e |-;refine fO 148 [(15,11,[56,57,58,59,60,61,62,63,64,65,66])] Tryz.func116 rfl ?_ (.inl rfl)
  repeat'(first|refine gB ?_|refine gS (λb=>?_) (λb=>?_)|refine Cl.sh c rfl ?_)
  rfl
 rw[CJ M];by_cases u:a.b2=2\/a.b2=3\/a.b2=4
 ·rw[CL u]
  have E:=gL w.W.J (cM a.N) ω;change au _ _ _ _ _ [I (mX w.W a.N)]at E;by_cases e:mX w.W a.N<0
  ·rw[CL e]
   rcases u with k|k|k
   all_goals
    refine fO 148 [(15,11,[56,57,58,59,60,61,62,63,64,65,66])] Tryz.func116 rfl ?_ (.inl rfl)
    repeat'(first|refine gB ?_|refine gS (λb=>?_) (λb=>?_)|refine Ce (mC (some 4) (bg.enc .S) (cM a.N) w.W.J) (vE default a).has (λL k rcs F=>?_) ?_)
    ·obtain⟨y,-,rfl,rfl,rfl⟩:=F
     exact vE y a
    rfl
  rw[CJ e];obtain⟨P,f2,f3⟩:=eZ (P5 a.N) w.W.J (by unfold mX at e;omega);have Q:=EY w a (mX w.W a.N).toNat m h W p P;have G:=ar P;change w.W.J[(mX w.W a.N).toNat]? = _ at G;generalize lK w a (mX w.W a.N).toNat=f at Q |-;rcases u with k|k|k
  all_goals
   refine fO 148 [(15,11,[56,57,58,59,60,61,62,63,64,65,66])] Tryz.func116 rfl ?_ (.inl rfl)
   repeat'(first|refine gB ?_|refine gS (λb=>?_) (λb=>?_)|refine Ce (mC (some 4) (bg.enc .S) (cM a.N) w.W.J) (vE default a).has (λL k rcs F=>?_) ?_|refine CQ ω (aa G) ?_|refine Cl.sh Q rfl ?_)
   ·obtain⟨y,-,rfl,rfl,rfl⟩:=F
    exact vE y a
   rfl
 rw[CJ u];by_cases R:a.b2=5\/a.b2=6\/a.b2=7
 ·rw[CL R]
  unfold hB;by_cases S:a.b2=5
  ·rw[CL S]
   have c:=yg w.W a.a2 p l;by_cases e:(0<=a.a2/\a.a2<=w.W.R.length - 1)/\0<(nth w.W.w.U a.a2.toNat).length
   ·rw[CL (show mH w.W a/\0<(nth w.W.w.U a.a2.toNat).length from e)]
    rw[CL e,O0 e]at c;have j:=lM true;refine fO 148 [(15,11,[56,57,58,59,60,61,62,63,64,65,66])] Tryz.func116 rfl ?_ (.inl rfl)
    repeat'(first|refine gB ?_|refine gS (λb=>?_) (λb=>?_)|refine Cl.sh c rfl ?_)
    rfl
   rw[CJ (show ¬(mH w.W a/\0<(nth w.W.w.U a.a2.toNat).length) from e)];rw[CJ e,C1 e]at c;have j:=lM false;refine fO 148 [(15,11,[56,57,58,59,60,61,62,63,64,65,66])] Tryz.func116 rfl ?_ (.inl rfl)
   repeat'(first|refine gB ?_|refine gS (λb=>?_) (λb=>?_)|refine Cl.sh c rfl ?_)
   rfl
  rw[CJ S];by_cases e:w.W.G.Calls≠100000/\0<=a.a2/\a.a2<=w.W.R.length - 1;rotate_left
  ·rw[CL (show ¬(w.W.G.Calls≠100000/\mH w.W a) from e)]
   by_cases H:a.b2=6
   ·have d:=qf w.W a.a2 p l
    rw[CJ e,CJ e]at d;have c:=d.fzE rfl;refine fO 148 [(15,11,[56,57,58,59,60,61,62,63,64,65,66])] Tryz.func116 rfl ?_ (.inl rfl)
    repeat'(first|refine gB ?_|refine gS (λb=>?_) (λb=>?_)|fail)
    rfl
   have Y:a.b2=7:=ω
   have c:=(HX w.W a.a2 p l e).fzE rfl;refine fO 148 [(15,11,[56,57,58,59,60,61,62,63,64,65,66])] Tryz.func116 rfl ?_ (.inl rfl)
   repeat'(first|refine gB ?_|refine gS (λb=>?_) (λb=>?_)|fail)
   rfl
  rw[CJ (show ¬¬(w.W.G.Calls≠100000/\mH w.W a) from S7 e)];by_cases H:a.b2=6
  ·rw[CL H]
   have d:=qf w.W a.a2 p l;rw[CL e,CL e]at d;have c:=d.fzE rfl;refine fO 148 [(15,11,[56,57,58,59,60,61,62,63,64,65,66])] Tryz.func116 rfl ?_ (.inl rfl)
   repeat'(first|refine gB ?_|refine gS (λb=>?_) (λb=>?_)|fail)
   rfl
  rw[CJ H];have Y:a.b2=7:=ω
  obtain⟨t,Z⟩:=v5 e.2.1;have c:=(AR w.W t p l.to e.1 ω).fzE rfl;rw[<-Z]at c;rw[show a.a2.toNat=t by omega];refine fO 148 [(15,11,[56,57,58,59,60,61,62,63,64,65,66])] Tryz.func116 rfl ?_ (.inl rfl)
  repeat'(first|refine gB ?_|refine gS (λb=>?_) (λb=>?_)|fail)
  rfl
 rw[CJ R];by_cases T:a.b2=8
 ·rw[CL T]
  unfold qU;by_cases e:w.W.G.Calls≠100000/\(0<=a.N/\a.N<=1000)/\w.W.b1+a.N<=1000000
  ·rw[CL e]
   have c:=(ER w.W a.N p l e.1 e.2.1 e.2.2).fzE rfl;refine fO 148 [(15,11,[56,57,58,59,60,61,62,63,64,65,66])] Tryz.func116 rfl ?_ (.inl rfl)
   repeat'(first|refine gB ?_|refine gS (λb=>?_) (λb=>?_)|fail)
   rfl
  rw[CJ e];have c:=(Km w.W a.N p l e).fzE rfl;refine fO 148 [(15,11,[56,57,58,59,60,61,62,63,64,65,66])] Tryz.func116 rfl ?_ (.inl rfl)
  repeat'(first|refine gB ?_|refine gS (λb=>?_) (λb=>?_)|fail)
  rfl
 rw[CJ T];by_cases U:a.b2=9
 ·rw[CL U]
  unfold qB;have c:=(Dl w.W p).fzE rfl;unfold H7 at c;rw[l.to]at c;cases q:w.W.q with
  | true=>
   rw[CL rfl];rw[CJ (λx=>by rw[q]at x;cases x.1)]at c;have j:=lM false;refine fO 148 [(15,11,[56,57,58,59,60,61,62,63,64,65,66])] Tryz.func116 rfl ?_ (.inl rfl)
   repeat'(first|refine gB ?_|refine gS (λb=>?_) (λb=>?_)|fail)
   rfl
  | false=>
   rw[CJ (by simp)];rw[CL ⟨q,rfl⟩]at c;have j:=lM (started w.W).2;refine fO 148 [(15,11,[56,57,58,59,60,61,62,63,64,65,66])] Tryz.func116 rfl ?_ (.inl rfl)
   repeat'(first|refine gB ?_|refine gS (λb=>?_) (λb=>?_)|fail)
   rfl
 rw[CJ U];by_cases k10:a.b2=10;rotate_left
 ·rw[CJ (λx=>k10 x.1)]
  refine fO 148 [(15,11,[56,57,58,59,60,61,62,63,64,65,66])] Tryz.func116 rfl ?_ (.inl rfl)
  repeat'(first|refine gB ?_|refine gS (λb=>?_) (λb=>?_)|fail)
  all_goals first|omega|rfl
 have c:=aK a.N 0 50;by_cases q:0<=a.N/\a.N<=50;rotate_left
 ·rw[CJ (λx=>q x.2)]
  rw[C1 q]at c;refine fO 148 [(15,11,[56,57,58,59,60,61,62,63,64,65,66])] Tryz.func116 rfl ?_ (.inl rfl)
  repeat'(first|refine gB ?_|refine gS (λb=>?_) (λb=>?_)|fail)
  rfl
 rw[CL ⟨k10,q⟩];rw[O0 q]at c;obtain⟨n,O⟩:=v5 q.1;rw[show a.N.toNat=n by omega];refine fO 148 [(15,11,[56,57,58,59,60,61,62,63,64,65,66])] Tryz.func116 rfl ?_ (.inl rfl)
 repeat'(first|refine gB ?_|refine gS (λb=>?_) (λb=>?_)|fail)
 refine lp0 n (λk=>[(3,bB (fg.enc .S a)),(4,bB [.z,.z,.z,I 0,.z,.z,.z,.z,.z,.z,.z,.z,I 0,.z,I 0,I 0,I 0,I 0,B false,I 0,I 0,.z,I 0,I 0,I 0,.z]),(6,bB (bh.enc .S ⟨(stN w.W k).1,w.b3⟩)),(7,fN ((stN w.W k).2)),(10,fN k)]) λk hk=>?_
 obtain⟨g1,g2⟩:=xv l h.ji k;have J:=W3 h K k ω;have hk2:(stN w.W k).2<=k:=Qf w.W k;have j:=(HA (stN w.W k).1 g1 J).fzE rfl;by_cases lk:k<n
 ·have o:stN w.W (k+1)=if pJ (stN w.W k).1=true then(mStep (stN w.W k).1,(stN w.W k).2+1) else stN w.W k:=rfl
  cases V:pJ (stN w.W k).1 with
  | true=>
   rw[V]at o j;rw[CL rfl]at o j
   repeat'(first|refine gE ?_|refine gS (λb=>?_) (λb=>?_)|fail)
   (refine CR (k+1) ω ω ?_)
   rw[o];exact wC
  | false=>
   rw[V]at o j;rw[CJ (by simp)]at o j
   repeat'(first|refine gE ?_|refine gS (λb=>?_) (λb=>?_)|fail)
   (refine CR (k+1) ω ω ?_)
   rw[o];exact wC
 obtain rfl:k=n:=ω
 repeat'(first|refine gE ?_|refine gS (λb=>?_) (λb=>?_)|fail)
 rfl
def qe(zs:List Int)(c:jL)(m:Nat):Nat->List fg × jL
 | 0=>([],(bK zs c (m+1)).2)
 | i+1=>((qe zs c m i).1++[(so zs (qe zs c m i).2 (1+(i:Int) / 2)).1],(so zs (qe zs c m i).2 (1+(i:Int) / 2)).2)
def vY(zs:List Int)(c:jL):List fg × jL:=qe zs c 60 (bK zs c 61).1.toNat
def AF{zs:List Int}{c:jL}(m:Nat)(h:c.i<=zs.length):∀{n:Nat},n<=100->(qe zs c m n).1.length=n/\(∀a∈(qe zs c m n).1,XU a)/\(qe zs c m n).2.i<=zs.length
 | 0,_=>⟨rfl,λa b=>(by cases b),cB h _⟩
 | n+1,k=>by
  obtain⟨d,e,f⟩:=AF m h (n:=n) ω;obtain⟨g,j⟩:=TQ (ids:=1+(n:Int) / 2) f ω;refine⟨by simp only[qe,O5,List.length_singleton,d],λa b=>?_,j⟩;rcases z5.1 b with b|b
  ·exact e a b
  rw[z3.1 b];exact g
def Ug{zs:List Int}{c:jL}(h:c.i<=zs.length):(vY zs c).1.length<=60/\∀a∈(vY zs c).1,XU a:=by
 have d:=cx zs c (n:=61) qs;obtain⟨e,b,-⟩:=AF (zs:=zs) (c:=c) 60 h (n:=(bK zs c 61).1.toNat) ω;exact⟨by show(qe zs c 60 _).1.length<=60;omega,b⟩
def NK(zs:List Int)(c:jL)(b:mQ zs)(d:c.i<=zs.length):zzB 114 false [.ptr (kZ zs c),.vI 60] [.ptr (kZ zs (vY zs c).2),.vI 60] .one (kJ .own (vY zs c).1):=by
 have e:=cz zs c 61 b d qs;have g:=cx zs c (n:=61) qs;obtain⟨n,h⟩:=v5 g.1;have a:(bK zs c 61).1.toNat=n:=by rw[h];rfl
 unfold vY;rw[a];rw[h]at e g;refine fM 27 [(61,[2,0]),(259,[2,0])] [] [(0,0),(0,0)] Tryz.func114 rfl (λu q=>?_) (.inr (F5 _))
 refine σP ?_
 refine lp0 n (λi=>[(0,bB (kZ zs (qe zs c 60 i).2)),(5,bJ (kJ .own (qe zs c 60 i).1)),(6,fN n),(7,fN i)]) λi p=>?_
 obtain⟨t,-,j⟩:=AF (zs:=zs) (c:=c) 60 d (n:=i) ω;by_cases w:i<n
 ·have k:=JV zs (qe zs c 60 i).2 (1+(i:Int) / 2) b j ω
  have l:((i:Nat):Int).tdiv 2=(i:Int) / 2:=Int.tdiv_eq_ediv_of_nonneg ω
  repeat'(first|refine gE ?_|with_reducible (first|refine CX l ?_|refine CT ω ?_)|refine Ca (aM λ_=>rfl) (λr o=>by rw[z3.1 o];rfl) (by simp[bp,eO,fg.enc]) jp (by simp only[I2];exact vm jp qs) rfl ?_)
  (refine CR (i+1) ω ω ?_)
  repeat'(first|exact tV1|rfl| exact kI _ |exact CV rfl (CV (O1 (C.s fE.own) (by simp[qe];rfl)) tV1)|refine CV ?_ ?_|(exact Ui (by first|omega|(simp only;omega)|(simp;omega))))
 obtain rfl:i=n:=ω
 refine σE ?_
 exact ka
def Hu(zs:List Int)(a:mQ zs):zzA 38 false [.val none (Xw zs)] (.tup [some 5,none]) (cr.enc .S (uy zs (zy zs))++kJ .S (vY zs (qH zs)).1):=by
 have b:(zy zs).i<=zs.length:=I1 _;obtain⟨k,e⟩:=KQ b;have h:=yL zs a;have c:=zR zs (zy zs) a b;have j:=NK zs (qH zs) a e;change aU _ _ _ _ [.ptr (kZ zs (qH zs))] _ _ at c;have key:zzA 38 false [.val none (Xw zs)] (.tup [some 5,none]) (cr.enc .own (uy zs (zy zs))++kJ .own (vY zs (qH zs)).1):=by
  generalize uy zs (zy zs)=cf at *;generalize vY zs (qH zs)=A at *;refine fP 11 [(113,[2]),(114,[2,0]),(3000004,[])] [] Tryz.func38 rfl ?_ (.inr (aD (cr.enc_fr _) (F5 _)))
  repeat'(first|refine gP ?_|refine Cl.g h (.inr rfl) ?_)
  rfl
 have d:=key.fzR;rw[co,cr.enc_fz,R5]at d;exact d
def GN(c:cr)(acts:List fg):∀i,(xc c acts i).2.length=i
 | 0=>rfl
 | k+1=>by show((xc c acts k).2++[_]).length=_;rw[O5,GN c acts k];rfl
def GL(c:cr)(acts:List fg)(h:Ea c)(b:lQ c.a3)(n:acts.length<=80):zzA 39 true [.val (some 5) (cr.enc .S c),.val none (kJ .S acts)] (.tup [some 26,none]) (bh.enc .S (xc c acts acts.length).1++aF .own (xc c acts acts.length).2):=by
 have d:=(DU c h).fzR;rw[co,bh.enc_fz]at d;change au _ _ _ _ _ (_++[B true]) at d;refine fO 47 [(5,3,[27,28,29]),(6,1,[30])] Tryz.func39 rfl ?_ (.inl rfl)
 refine σE ?_
 refine lp0 acts.length (λi=>[(1,bJ (kJ .S acts)),(4,bB [.z,.z,.z,I 0,.z,.z,.z,.z,.z,.z,.z,.z,I 0,.z,I 0,I 0,I 0,I 0,B false,I 0,I 0,.z,I 0,I 0,I 0,.z]),(6,bB (bh.enc .S (xc c acts i).1)),(8,bJ (aF .own (xc c acts i).2)),(27,bJ (kJ .S acts)),(28,fI acts.length),(29,fN i)]) λi o=>?_
 have j:=xG h acts i;have a:=Hr h acts i;have e:=GN c acts i;by_cases k:i<acts.length
 ·have g:=ar k
  have l:=Nh (xc c acts i).1 (nth acts i) i j ω (by unfold rfs at a;rw[a];exact b)
  repeat'(first|refine gE ?_|refine Cl.sh l rfl ?_|refine Ca cA (λr b=>by rw[z3.1 b];rfl) (by simp[bp,eO]) jp (by simp only[I2];exact vm jp qs) rfl ?_)
  (refine CR (i+1) ω ω ?_)
  repeat'(first|exact tV1|rfl| exact kI _ |exact CV rfl (CV (O1 (C.s fE.own) (by simp[xc,rI])) tV1)|refine CV ?_ ?_|(exact Ui (by first|omega|(simp only;omega)|(simp;omega))))
 obtain rfl:i=acts.length:=ω
 refine σE ?_
 rfl
def ED(ps:List Int)(i:Nat):List Int:=(ps.take i).map (· % 60)
def Tu{ps:List Int}(h:i<ps.length):ED ps (i+1)=ED ps i++[nth ps i % 60]:=by
 unfold ED;rw[CB,ar h];simp
def Refused_law(zs:List Int)(E:zs.length<=9223372036854775807/\∀y∈zs,0<=y/\y<=255):zzA 11 false [.val none (Xw zs)] .one [B true]:=by
 have o:=XP zs E.1;by_cases F:(zs.length:Int) > 1048576
 ·rw[O0 F]at o
  refine fO 55 [(9,8,[26,27,28,29,30,31,32,33])] Tryz.func11 rfl ?_
  refine σP ?_
  rfl
 rw[C1 F]at o;have G:mQ zs:=⟨ω,E.2⟩
 have M:(zy zs).i<=zs.length:=I1 _;obtain⟨q,N⟩:=KQ M;obtain⟨U,V⟩:=Ug (zs:=zs) (c:=qH zs) N;have cD:=Hu zs G;have cP:=zd zs G;obtain⟨-,W,O⟩:=Js zs 12;generalize (wU zs 12).1=a at *;generalize uy zs (zy zs)=b at *;generalize (vY zs (qH zs)).1=acts at *;have P:(ED a 12).length=12:=by unfold ED;rw[I2,I3];omega
 have k:∀x∈ED a 12,0<=x/\x<60:=λx h=>by
  obtain⟨y,X,rfl⟩:=O8.1 h;omega
 have d:Ea {b with a3:=ED a 12}:=⟨q.p,q.f,q.t,q.l,by show(ED a 12).length<=40;omega,λx h=>(k x h).1⟩
 have e:lQ ({b with a3:=ED a 12} : cr).a3:=⟨by show(ED a 12).length<=_;omega,λx h=>by have:=k x h;exact⟨ω,ω⟩⟩
 have H:=GL {b with a3:=ED a 12} acts d e ω;have J:=Hz {b with a3:=ED a 12} acts d e ω;have g:=xG d acts acts.length;have n:=Tk d acts acts.length;have j:=Hr d acts acts.length;unfold rfs at j;have K:=(g.fit (by rw[j];exact e)).1;have L:=HD (xc {b with a3:=ED a 12} acts acts.length).1 ⟨K,g.ref.sml ω⟩;rw[N6 g n]at L;have u:=GN {b with a3:=ED a 12} acts acts.length;have Q:=JY (xc {b with a3:=ED a 12} acts acts.length).2 ω;change au _ _ _ [.val (some 5) [I b.a1,I b.V,I b.c4,I b.c1,.s .S ((ED a 12).map (rI .S))],_] _ _ at H J;clear j K n g u d e;generalize (xc {b with a3:=ED a 12} acts acts.length).1=w at *;generalize (xc {b with a3:=ED a 12} acts acts.length).2=cs at *;refine fP 55 [(2000010,[3,4])] [(9,8,[26,27,28,29,30,31,32,33])] Tryz.func11 rfl ?_
 refine σP ?_
 refine Lp.mk (ι:=Nat) (λi=>[(3,bB [I b.a1,I b.V,I b.c4,I b.c1,.s .own ((ED a i).map (rI .own))]),(4,bJ (kJ .S acts)),(5,bJ (aF .own a)),(6,fN i)]) (λi=>i<=12) (λi=>12 - i) (0) ?_ (I1 _) λi Y=>?_
 ·exact wE
 by_cases Z:i<12
 ·have h:=ar (xs:=a) (i:=i) ω
  have D:=O _ (ax (xs:=a) (i:=i) ω);have R:(nth a i).tmod 60=nth a i % 60:=eR D.1;have S:(ED a i).length<=12:=by unfold ED;rw[I2,I3];omega
  repeat'(first|refine gE ?_|refine CT qs ?_|refine CX R ?_|refine Ca cA (λr T=>by rw[z3.1 T];rfl) (by simp[bp,eO]) jp (by simp only[I2];exact vm jp qs) rfl ?_)
  (refine CR (i+1) ω ω ?_)
  repeat'(first|exact tV1|rfl| exact kI _ |exact WA (O1 (C.s fE.own) (by rw[Tu ω];simp[rI]))|refine CV ?_ ?_|(exact Ui (by first|omega|(simp only;omega)|(simp;omega))))
 obtain rfl:i=12:=ω
 repeat'(first|refine gE ?_|refine Le.mk rfl (List.cons.inj (cR _)).1 rfl ?_|refine Cl.sh H rfl ?_|refine CN (Q) ⟨⟨rfl,cR _⟩,⟨rfl,cR _⟩,tV1⟩ ?_)
 rfl
open Go.RowKit Go.ChangeShapes Go.WideShapes Go.Deep
def ALL(w:World):am:=λb _=>b<w.heap.size
def Zk{H:Type}(e:TypeId × Value->H)(P:Program)(w:World)(t n:Nat)(enc:α->List C)(c:α->Prop):Prop:=
 ∀(fuel:Nat)(b:List Value)(x:DataW H × List MemPlace),DataW.trod e P w 0 (λ_=>true) true fuel t b=some x->b.length=n/\∃a,c a/\(enc a).length=n/\dz w (ALL w) NO (enc a) (λj=>b.getD j undef)
section
variable{H:Type}{e:TypeId × Value->H}{P:Program}{w:World}
variable{u:Nat->Value}
def Jy{S F:am}{c:C}(h:fj w S F c (u 0)):dz w S F [c] u:=
 ⟨λ_=>F,λj e a=>by cases j with
   | zero=>simp at a;subst a;exact h
   | succ j=>simp at a,λ_ _ _ _ h=>h,λj f a b d=>by simp at a b;omega⟩
def pick{α β:Type}(n:Nat){Q:Nat->β->Prop}(h:∀i,i<n->∃b,Q i b):∃l:List β,l.length=n/\∀i b,l[i]? = some b->Q i b:=by
 induction n with
 | zero=>exact⟨[],rfl,λi b h=>by simp at h⟩
 | succ n c=>
  obtain⟨l,d,e⟩:=c λi a=>h i ω
  obtain⟨b,f⟩:=h n ω;refine⟨l++[b],by simp[d],λi g a=>?_⟩;by_cases j:i<n
  ·rw[t9 ω]at a;exact e i g a
  rw[v9 ω]at a;have:i - l.length=0:=by
   have:=(C4.1 a).1;simp at this;omega
  rw[this]at a;simp at a;subst a;rw[show i=n by omega];exact f
theorem Vt{t T n:Nat}{α:Type}{enc:α->List C}{U:α->Prop}(V:Zk e P w T n enc U)(ht:P.underlying t=some (.slice T))(hn:P.cellsOf T=n)(p:0<n) :
  Zk e P w t 1 (λxs:List α=>[.s .S (xs.map enc)]) (λxs=>xs.length<=9223372036854775807/\∀y∈xs,U y):=by
 intro fuel cs x h;rcases open_slice ht h with⟨rfl,-⟩|⟨k,len,cap,m,n',D,Pl,rfl,-,hl,hm,K,-,u⟩
 ·exact⟨rfl,[],⟨by simp,by simp⟩,rfl,Jy (.nil _ _ _ tV1)⟩
 simp only[if_true]at K;subst K;have L:0<m->k.spot=none:=λW=>by
  obtain⟨E,M,N⟩:=u 0 W;rw[hn]at M;obtain⟨_,X,F⟩:=World.cells?_some M;have:=F 0 p;rw[z4 ω]at this;have:=World.cell?_spot this;simpa[Addr.add] using this
 have key:∀i,i<len->∃a,U a/\(enc a).length=n/\(∀d,d<n->∃z,cel w k.block (k.off+(i*n+d))=some z)/\k.spot=none/\dz w (ALL w) NO (enc a) (λd=>(cel w k.block (k.off+(i*n+d))).getD undef):=λi hil=>by
  have g:=L ω;obtain⟨E,M,N⟩:=u i ω;rw[hn]at M;obtain⟨h1,a,h3,h4,h5⟩:=V _ _ _ N;obtain⟨_,X,F⟩:=World.cells?_some M;have O:∀d,k.add d = ⟨k.block,k.off+d,none⟩:=λd=>by
   obtain⟨b,o,sp⟩:=k;simp only at g;subst g;unfold Addr.add;split<;>simp_all
  have A:∀d,d<n->cel w k.block (k.off+(i*n+d))=E[d]?:=λd J=>by
   have:=F d J;rw[Go.Deep.add_add,O]at this;exact this
  refine⟨a,h3,h4,λd J=>⟨_,by rw[A d J,z4 ω]⟩,g,h5.congr λd J=>?_⟩;show(cel w k.block (k.off+(i*n+d))).getD undef=E.getD d undef;rw[A d ω,List.getD]
 obtain⟨l,Q,B⟩:=pick (α:=α) len key;refine⟨rfl,l,⟨by simp only[maxLen]at hm;omega,λy R=>?_⟩,rfl,Jy ?_⟩
 ·obtain⟨i,G⟩:=List.mem_iff_getElem?.1 R
  exact(B i y G).1
 show fj w (ALL w) NO (.s .S (l.map enc)) (.slice (some k) len m);by_cases h0:len=0
 ·subst h0
  have:l=[]:=OF Q;subst this;by_cases Y:m=0
  ·subst Y;exact .nil _ _ _ tV1
  have g:=L ω;obtain⟨b,o,sp⟩:=k;simp only at g;subst g;exact .S _ b o n 0 m [] (λ_=>undef) rfl (λr Z=>by simp at Z) hl (λq hq=>by simp at hq) (λi j r c u=>by simp at u)
 obtain⟨y0,hy0⟩ : ∃y,l[0]? = some y:=⟨_,z4 ω⟩
 have g:=(B 0 y0 hy0).2.2.2.1;obtain⟨b,o,sp⟩:=k;simp only at g;subst g;refine .S _ b o n len m (l.map enc) (λq=>(cel w b (o+q)).getD undef) (by simpa using Q) (λr Z=>?_) hl (λq hq=>?_) (λi j r c u hj=>?_)
 ·obtain⟨y,R,rfl⟩:=O8.1 Z
  obtain⟨i,G⟩:=List.mem_iff_getElem?.1 R;exact(B i y G).2.1
 ·have hqd:q / n<len:=(Nat.div_lt_iff_lt_mul p).2 hq
  obtain⟨y,R⟩ : ∃y,l[q / n]? = some y:=⟨_,z4 ω⟩
  obtain⟨z,S⟩:=(B _ y R).2.2.1 (q % n) (Nat.mod_lt _ p);have J:q / n*n+q % n=q:=by rw[Nat.mul_comm];exact Nat.div_add_mod q n
  rw[J]at S;exact⟨Yo S,by simp only at S |-;rw[S];rfl⟩
 rw[I5]at u;cases H:l[i]? with
 | none=>rw[H]at u;cases u
 | some y=>
  rw[H]at u;simp only[IA,C2]at u;subst u;obtain⟨f,h1,h2,-⟩:=(B i y H).2.2.2.2;have hjl:=(C4.1 hj).1;exact(h1 j c hj).mono (λ_ _ h=>h) (h2 j hjl)
def row_val{S F:am}{x:Value}(h:dz w S F [.v x] u):u 0=x:=by
 obtain⟨f,a,-⟩:=h;have:=a 0 _ rfl;cases this
 rfl
end
open Go.RowKit Go.ChangeShapes Go.WideShapes
section
variable{H:Type}{e:TypeId × Value->H}{P:Program}{w:World}
def W5{t:Nat}(b:P.underlying t=some (.int .u8)):Zk e P w t 1 rU (λz=>0<=z/\z<=255):=by
 intro fuel c x h;obtain⟨n,rfl,-,a⟩:=DataW.trod_int b h;refine⟨rfl,n,?_,rfl,Jy (.v _ _ rfl)⟩;simp only[Lit.wf,I0,C0]at a;exact a
def op_ByteS:Zk e Tryz.prog w 22 1 (λzs:List Int=>[.s .S (zs.map rU)]) (λzs=>zs.length<=9223372036854775807/\∀y∈zs,0<=y/\y<=255):=Vt (W5 Tryz.underlying5) Tryz.underlying22 (by kernel_rfl) qs
end
end Go.Proofs.YtiopgblagimpmaaGreat.Ab
