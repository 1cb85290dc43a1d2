/- A large object trimmed: a heap stays whole. No condition. -/
import Derived.Test.YtiopgblagimpmaaGreatKuc
import Derived.Test.YtiopgblagimpmaaGreatKuf
import Derived.Test.YtiopgblagimpmaaGreatKue
import Derived.Test.YtiopgblagimpmaaGreatKud
import Derived.Laws.StructEq
set_option linter.unusedVariables false
set_option linter.defProp false
set_option linter.unusedSimpArgs false
set_option linter.constructorNameAsVariable false
namespace Go.Proofs.YtiopgblagimpmaaGreat.Ab
variable{i:Nat}{α:Type}
def lz{β:Type}[Inhabited α]{f:α->β}{xs:List α}{y:α}(a:i<xs.length)(e:f y=f (nth xs i)):(xs.set i y).map f=xs.map f:=by
 rw[X8];refine List.ext_getElem (by simp) λj b c=>?_
 rw[List.getElem_set];split
 ·rename_i g;subst g
  rw[List.getElem_map,e,bk (I3 a)]
 rfl
def oR{α β:Type}[Inhabited α](f:α->List β):∀(xs:List α)(i:Nat)(y:α),i<xs.length->(f y).Sublist (f (nth xs i))->((xs.set i y).flatMap f).Sublist (xs.flatMap f)
 | [],_,_,h,_=>absurd h (Nat.not_lt_zero _)
 | x::xs,0,y,_,a=>by
  rw[List.set_cons_zero,O9,O9];exact List.Sublist.append a (List.Sublist.refl _)
 | x::xs,i+1,y,h,a=>by
  rw[List.set_cons_succ,O9,O9];exact List.Sublist.append (List.Sublist.refl _) (oR f xs i y (by simpa using h) a)
def zK(k:am)(a:Int):Nat->am
 | 0=>k
 | m+1=>dD (zK k a m) (a+m) 0
def pS(k:am)(a:Int):∀m,(zK k a m).F.Q=k.F.Q/\(zK k a m).Calls=k.Calls/\(zK k a m).w=k.w
 | 0=>⟨rfl,rfl,rfl⟩
 | m+1=>pS k a m
def Q8{k:am}(h:aF k=true){a:Int} : ∀{m:Nat},(∀j:Nat,j<m->(af k.F.Q ((a+j) / 16)).e≠0)->aF (zK k a m)=true
 | 0,_=>h
 | m+1,b=>yv (Q8 h λj c=>b j ω) (by rw[(pS k a m).1];exact b m ω) ⟨ω,ω⟩
variable{n:Nat}{sp:List aA}{E:List Int}{h:ac}
theorem K8(j:aX h E){la:List aB}{o:List aC}{p:Int}(y:p+n<=h.G.F.Q.J.length)(A:sp.Sublist h.K)(M:∀l∈la,∀q∈lpgs l l.a2.toNat,∃w∈h.M,q∈lpgs w w.a2.toNat)(N:0<=p)(B:∀q,q∈pgs sp la↔q∈pgs h.K h.M/\¬(p<=q/\q<p+n))(O:∀q,RH o q↔RH h.o q\/(p<=q/\q<p+n)) :
  Pg (unmN h.G p n).F.Q o sp la:=by
 have b:=(f9 h.G p n).1;have d:=n7 j.ker N n y;have f:∀q:Nat,(q:Int)∈pgs sp la->nth (unmN h.G p n).F.Q.J q=nth (tbl h).J q:=λq c=>by rw[d,CC ((B q).1 c).2];rfl
 have a:∀q:Nat,(nth (unmN h.G p n).F.Q.J q).e≠0↔(nth (tbl h).J q).e≠0/\¬(p<=q/\(q:Int)<p+n):=λq=>by
  rw[d];by_cases e:p<=q/\(q:Int)<p+n
  ·rw[CD e];exact⟨λx=>absurd rfl x,λx=>absurd e x.2⟩
  rw[CC e];exact⟨λx=>⟨x,e⟩,λx=>x.1⟩
 refine⟨λl g q c r J C k=>?_,λq c=>?_,λq c=>?_,λq c=>?_,λs g u D F K=>?_⟩
 ·have t:=(a r).1 C
  rw[b]at J;rw[f q (gl g c),d,CC t.2]at k;obtain⟨w,G,H⟩:=M l g _ c;exact j.pg.one w G q H r J t.1 k
 ·rw[b];exact j.pg.bnd q ((B q).1 c).1
 ·rw[b]at c
  rw[a,B,j.pg.own q c]
 ·rw[b]at c
  rw[a,O,j.pg.fre q c]
  grind
 have i:∀s∈sp,0<=s.R:=λs g=>(aK (j.L.sok s (A.subset g))).1
 have P:=f s.R.toNat (by rw[Int.toNat_of_nonneg (i s g)];exact dJ g);have Q:=f u.R.toNat (by rw[Int.toNat_of_nonneg (i u D)];exact dJ D);rw[P,Q]at K;exact j.pg.mesh s (A.subset g) u (A.subset D) F K
def trimL(l:aB)(size:Int):aB:=⟨l.R,(size+15) / 16,size⟩
def dq(l:aB)(size:Int):Nat:=(l.a2 - (size+15) / 16).toNat
def aX.trimL{h:ac}{E:List Int}{i k:Nat}{size:Int}(t:aX h E)(T:i<h.O.length)(H:k<h.M.length)(Y:(nth h.O i).Addr=16*(nth h.M k).R)(N:9<=size/\size<=(nth h.M k).q) :
  ∃o,(dq (nth h.M k) size=0->o=h.o)/\(0<dq (nth h.M k) size->ch (gY h) h.o ⟨(nth h.M k).R+(size+15) / 16,(dq (nth h.M k) size:Nat)⟩ = some o)/\
   aX {h with G:=unmN h.G ((nth h.M k).R+(size+15) / 16) (dq (nth h.M k) size),M:=h.M.set k (trimL (nth h.M k) size),O:=h.O.set i {nth h.O i with q:=size},o:=o} E:=by
 have U:=t.L;have C:=U.lok _ (au H);have hf:=aR C;unfold bK at C;rw[C0]at C;obtain⟨b1,b2⟩:=uX t H;have O:=U.dis;have G:=λj n=>U.one j k n H
 have y:=(au H:nth h.M k∈h.M)
 have d:∀z∈h.M.set k (Ab.trimL (nth h.M k) size),z=Ab.trimL (nth h.M k) size\/∃j,j<h.M.length/\j≠k/\nth h.M j=z:=λz N=>eA N
 have p:Ab.trimL (nth h.M k) size∈h.M.set k (Ab.trimL (nth h.M k) size):=j7 _ H;have u:∀j,j<h.M.length->j≠k->nth h.M j∈h.M.set k (Ab.trimL (nth h.M k) size):=λj n e=>kH _ n e
 have hpageM:(h.M.set k (Ab.trimL (nth h.M k) size)).map (·.R)=h.M.map (·.R):=lz H rfl;have w:(pgs h.K (h.M.set k (Ab.trimL (nth h.M k) size))).Sublist (pgs h.K h.M):=by
  unfold pgs;refine List.Sublist.append (List.Sublist.refl _) (oR _ _ _ _ H ?_);unfold lpgs;exact(List.range_sublist.2 (by simp only[Ab.trimL];omega)).map _
 obtain⟨l,V⟩ : ∃l,nth h.M k=l:=⟨_,rfl⟩
 rw[V]at C hf b1 b2 G y d p u hpageM w Y N |-;generalize hla:h.M.set k (Ab.trimL l size)=la at d p u hpageM w |-;have hn1:(1:Int)<=(size+15) / 16/\(size+15) / 16+(dq l size:Nat)=l.a2:=by unfold dq;omega
 have D:∀q,q∈lpgs l l.a2.toNat↔l.R<=q/\q<l.R+l.a2:=λq=>by
  rw[dB];constructor
  ·rintro⟨j,n,rfl⟩;omega
  rintro⟨Z,q2⟩;exact⟨(q - l.R).toNat,ω,ω⟩
 have J:∀q,q∈lpgs (Ab.trimL l size) (Ab.trimL l size).a2.toNat↔l.R<=q/\q<l.R+(size+15) / 16:=λq=>by
  rw[dB];simp only[Ab.trimL];constructor
  ·rintro⟨j,n,rfl⟩;omega
  rintro⟨Z,q2⟩;exact⟨(q - l.R).toNat,ω,ω⟩
 have hpe:l.R+(size+15) / 16+(dq l size:Nat)=l.R+l.a2:=ω
 have P:∀q,q∈pgs h.K la↔q∈pgs h.K h.M/\¬(l.R+(size+15) / 16<=q/\q<l.R+(size+15) / 16+(dq l size:Nat)):=λq=>by
  rw[qy,qy,hpe];constructor
  ·rintro(⟨s,W,rfl⟩|⟨z,c,B⟩)
   ·exact⟨.inl ⟨s,W,rfl⟩,λe=>O s W l y (s.R - l.R).toNat ω ω⟩
   rcases d z c with rfl|⟨j,n,hjk,rfl⟩
   ·have:=(J q).1 B
    exact⟨.inr ⟨l,y,(D q).2 ⟨ω,ω⟩⟩,ω⟩
   refine⟨.inr ⟨_,au n,B⟩,λe=>?_⟩;obtain⟨m,hm,rfl⟩:=dB.1 B;exact hjk (G j n m ((nth h.M j).R+(m:Int) - l.R).toNat hm ω ω)
  rintro⟨⟨s,W,rfl⟩|⟨z,c,B⟩,hne⟩
  ·exact .inl ⟨s,W,rfl⟩
  obtain⟨j,n,rfl⟩:=aN c;by_cases e:j=k
  ·subst e
   rw[V]at B;have:=(D q).1 B;exact .inr ⟨_,p,(J q).2 ⟨ω,ω⟩⟩
  exact .inr ⟨_,u j n e,B⟩
 have K:∃o,(dq l size=0->o=h.o)/\(0<dq l size->ch (gY h) h.o ⟨l.R+(size+15) / 16,(dq l size:Nat)⟩ = some o)/\bH (gY h) o=true/\∀q,RH o q↔RH h.o q\/(l.R+(size+15) / 16<=q/\q<l.R+(size+15) / 16+(dq l size:Nat)):=by
  by_cases e:dq l size=0
  ·refine⟨h.o,λ_=>rfl,λg=>absurd g ω,t.rng,λq=>⟨.inl,λg=>g.resolve_right ω⟩⟩
  obtain⟨o,o1,o2,o3⟩:=wu (r:=⟨l.R+(size+15) / 16,(dq l size:Nat)⟩) t.rng ⟨by simp only;omega,by simp only;omega,by show l.R+(size+15) / 16+(dq l size:Nat)<=(gY h:Int);have:((tbl h).J.length:Int)=(gY h:Int):=rfl;omega⟩ λq Z q2=>by
   simp only at Z q2;obtain⟨m,rfl⟩:=C4 (show 0<=q by omega);have Q:m<(tbl h).J.length:=ω
   exact(t.pg.fre m Q).1 ((t.pg.own m Q).2 (gl y ((D _).2 ⟨ω,ω⟩)))
  exact⟨o,λg=>absurd g e,λ_=>o1,o2,o3⟩
 obtain⟨o,o0,o1,o2,o3⟩:=K;have R:=(f9 h.G (l.R+(size+15) / 16) (dq l size)).1;have M:∀z∈h.O.set i {nth h.O i with q:=size},z = {nth h.O i with q:=size}\/∃j,j<h.O.length/\j≠i/\nth h.O j=z:=λz N=>eA N
 have F:(h.O.set i {nth h.O i with q:=size}).map (·.Addr)=h.O.map (·.Addr):=lz T rfl;have S:(h.O.set i {nth h.O i with q:=size}).map (·.Id)=h.O.map (·.Id):=lz T rfl;have hli:=(au T:nth h.O i∈h.O)
 generalize h.O.set i {nth h.O i with q:=size} = ob at M F S |-;refine⟨o,o0,o1,{t with
   ker:=je t.ker _ _
   rng:=by show bH (((unmN h.G (l.R+(size+15) / 16) (dq l size)).F.Q.J.length:Nat):Int) o=true;rw[R];exact o2
   lay:=?_
   srl:=?_
   pg:=K8 t (by have:((tbl h).J.length:Int)=(h.G.F.Q.J.length:Int):=rfl;omega) (List.Sublist.refl _) (λz c q B=>?_) ω P o3
   osr:=?_
   onu:=λz c=>?_
   oid:=by show(ob.map (·.Id)).Nodup;rw[S];exact t.oid
   oow:=λz c=>?_
   nd:=?_
   mem:=λb=>?_}⟩
 ·obtain⟨l1,l2,l3⟩:=eB t.lay
  unfold bG;simp only[I0,C0];refine⟨⟨l1,X5.2 λz c=>?_⟩,l3.sublist w⟩;rcases d z c with rfl|⟨j,n,-,rfl⟩
  ·exact O0 ⟨N.1,by show size<=1000;omega,rfl,by show 0<=l.R;omega,by show l.R<=32 - (size+15) / 16;omega⟩
  exact U.lok _ (au n)
 ·have A:(h.M.map (·.R)).Pairwise (λa b=>a<b):=List.pairwise_map.2 t.srl
  rw[<-hpageM]at A;exact List.pairwise_map.1 A
 ·rcases d z c with rfl|⟨j,n,-,rfl⟩
  ·have:=(J q).1 B
   exact⟨l,y,(D q).2 ⟨ω,ω⟩⟩
  exact⟨_,au n,B⟩
 ·have A:(h.O.map (·.Addr)).Pairwise (λa b=>a<b):=List.pairwise_map.2 t.osr
  rw[<-F]at A;exact List.pairwise_map.1 A
 ·rcases M z c with rfl|⟨j,n,-,rfl⟩
  ·exact t.onu (nth h.O i) hli
  exact t.onu _ (au n)
 ·rcases M z c with rfl|⟨j,n,hji,rfl⟩
  ·exact .inr ⟨_,p,Y,rfl⟩
  rcases t.oow _ (au n) with A|⟨l',hl',e1,X⟩
  ·exact .inl A
  obtain⟨m,hm,rfl⟩:=aN hl';by_cases e:m=k
  ·subst e
   rw[V]at e1;exact absurd (cU (f:=(·.Addr)) (d9 t.osr) n T (e1.trans Y.symm)) hji
  exact .inr ⟨_,u m hm e,e1,X⟩
 ·have hh:holders {h with G:=unmN h.G (l.R+(size+15) / 16) (dq l size),M:=la,O:=ob,o:=o} = holders h:=by
   show((ob.map (·.Addr)++cJ h)++h.a7.a5.map (·.Addr))++aY h.a1=_;rw[F];rfl
  rw[hh];exact t.nd
 have hh:holders {h with G:=unmN h.G (l.R+(size+15) / 16) (dq l size),M:=la,O:=ob,o:=o} = holders h:=by
  show((ob.map (·.Addr)++cJ h)++h.a7.a5.map (·.Addr))++aY h.a1=_;rw[F];rfl
 rw[hh,t.mem b];show nA h.K h.M b↔nA h.K la b;unfold nA;constructor
 ·rintro(A|⟨z,c,e⟩)
  ·exact .inl A
  obtain⟨j,n,rfl⟩:=aN c;by_cases X:j=k
  ·subst X
   rw[V]at e;exact .inr ⟨_,p,e⟩
  exact .inr ⟨_,u j n X,e⟩
 rintro(A|⟨z,c,e⟩)
 ·exact .inl A
 rcases d z c with rfl|⟨j,n,-,rfl⟩
 ·exact .inr ⟨l,y,e⟩
 exact .inr ⟨_,au n,e⟩
def jL(h:ac)(k:Nat)(size:Int):am:=zK h.G (16*(nth h.M k).R+size) (16*((size+15) / 16) - size).toNat
def ya(h:ac)(k:Nat)(size:Int):List aC:=if 0<dq (nth h.M k) size then(ch (gY h) h.o ⟨(nth h.M k).R+(size+15) / 16,(dq (nth h.M k) size:Nat)⟩).getD h.o else h.o
def trimH(h:ac)(i k:Nat)(size:Int):ac:={h with G:=unmN (jL h k size) ((nth h.M k).R+(size+15) / 16) (dq (nth h.M k) size),M:=h.M.set k (trimL (nth h.M k) size),O:=h.O.set i {nth h.O i with q:=size},o:=ya h k size}
variable{a:Int}{k:Nat}
def kD(b:aX h E)(c:k<h.M.length)(g:16*(nth h.M k).R<=a/\a<16*(nth h.M k).R+16*(nth h.M k).a2):(af h.G.F.Q (a / 16)).e≠0:=by
 obtain⟨i,j⟩:=uX b c;have l:=aR (b.L.lok _ (au c));have d:(a / 16)∈pgs h.K h.M:=gl (au c) (dB.2 ⟨(a / 16 - (nth h.M k).R).toNat,ω,ω⟩);have e:=b.pg.bnd _ d;have f:=(b.pg.own (a / 16).toNat ω).2 (by rw[show(((a / 16).toNat:Nat):Int)=a / 16 by omega];exact d);unfold af;rw[CD ⟨ω,e⟩];exact f
variable{size:Int}
def zQ(b:aX h E)(c:k<h.M.length)(d:9<=size/\size<=(nth h.M k).q):∀{m:Nat},m<=(16*((size+15) / 16) - size).toNat->aF (zK h.G (16*(nth h.M k).R+size) m)=true:=fun {m} hm=>by
 have a:=b.L.lok _ (au c);unfold bK at a;rw[C0]at a;exact Q8 b.ker λj e=>kD b c ⟨ω,ω⟩
def aX.trimH{h:ac}{i k:Nat}{size:Int}(d:aX h [])(A:i<h.O.length)(f:k<h.M.length)(B:(nth h.O i).Addr=16*(nth h.M k).R)(r:9<=size/\size<=(nth h.M k).q):aX (trimH h i k size) []/\JK h (trimH h i k size):=by
 have t:=zQ d f r (O4 _);have l:=(pS h.G (16*(nth h.M k).R+size) (16*((size+15) / 16) - size).toNat).1;have C:=d.cells t l;obtain⟨o,u,w,y⟩:=C.trimL (i:=i) (k:=k) (size:=size) A f B r;simp only at u w y;have n:gY {h with G:=zK h.G (16*(nth h.M k).R+size) (16*((size+15) / 16) - size).toNat} = gY h:=by
  unfold gY;simp only[l]
 have D:ya h k size=o:=by
  unfold ya;split
  ·rename_i g;have:=w g;rw[n]at this;rw[this];rfl
  exact(u ω).symm
 have E:Ab.trimH h i k size = {h with G:=unmN (jL h k size) ((nth h.M k).R+(size+15) / 16) (dq (nth h.M k) size),M:=h.M.set k (Ab.trimL (nth h.M k) size),O:=h.O.set i {nth h.O i with q:=size},o:=o}:=by unfold Ab.trimH;rw[D]
 refine⟨by rw[E];exact y,JK.less rfl rfl rfl λq j=>?_⟩;have a:=d.L.lok _ (au f);unfold bK at a;rw[C0]at a;obtain⟨F,G⟩:=uX d f;have b:(jL h k size).F.Q=h.G.F.Q:=l;have c:=n7 (k:=jL h k size) t (p:=(nth h.M k).R+(size+15) / 16) ω (dq (nth h.M k) size) (by rw[b];have:((tbl h).J.length:Int)=(h.G.F.Q.J.length:Int):=rfl;unfold dq;omega) q;change (nth (unmN (jL h k size) ((nth h.M k).R+(size+15) / 16) (dq (nth h.M k) size)).F.Q.J q).e≠0 at j;show nth (unmN (jL h k size) ((nth h.M k).R+(size+15) / 16) (dq (nth h.M k) size)).F.Q.J q=nth h.G.F.Q.J q;rw[c]at j |-;split at j
 ·exact absurd rfl j
 rename_i e;rw[CC e,b]
variable{t:Nat}
def KB(h:1<=t/\t<=4):bU (eO t)=true:=by
 have f:∀n,n<=t->bA (eO t) n=0:=λn=>by
  induction n with
  | zero=>intro _;rfl
  | succ n g=>
   intro j;have a:nth (eO t).U n=[]:=dH ω;have b:nth (eO t).u n=[]:=dH ω;simp only[bA,g ω,a,b,List.length_nil]
   decide
 have e:(eO t).U.length=t:=I5 ..;refine eY.2 ⟨⟨ω,ω,by simp[eO]⟩,λi c=>?_,by rw[e,f t (O4 _)];omega⟩;rw[e]at c;have a:nth (eO t).U i=[]:=dH c;have b:nth (eO t).u i=[]:=dH c;rw[a,b];exact⟨λp d=>(by cases d),λp d=>(by cases d)⟩
def we(t:Nat):aY (eO t)=[]:=by
 unfold aY;split
 ·simp[eO]
 rfl
def rV(k:am)(t:Nat)(sd ck lim:Int):ac:=⟨k,[⟨0,(k.F.Q.J.length:Nat)⟩],[],[],[],List.replicate t fQ,eO t,⟨16,[]⟩,sd,ck,lim,1,false,⟨⟨0,0,[]⟩,0,0⟩⟩
def FJ:bI fQ=true:=by decide
def aX.fresh{k:am}{lim sd ck:Int}(A:aF k=true)(B:∀q,q<k.F.Q.J.length->(nth k.F.Q.J q).e=0)(E:1<=t/\t<=4)(g:0<=lim/\lim<=1000)(h:0<=sd/\sd<=1073741823)(d:0<=ck/\ck<=1000000):aX (rV k t sd ck lim) []:=by
 obtain⟨G,H,J⟩:=bu.1 (aH.1 A).2.2.1;have hca:cJ (rV k t sd ck lim)=[]:=by
  unfold cJ;refine List.flatMap_eq_nil_iff.2 λc d=>?_
  rw[(List.mem_replicate.1 d).2]
  rfl
 have C:holders (rV k t sd ck lim)=[]:=by
  unfold holders;rw[hca];show(([]++[])++[])++aY (eO t)=[];rw[we];rfl
 have i:∀a,¬nA (rV k t sd ck lim).K (rV k t sd ck lim).M a:=λa=>by
  rintro(⟨s,h,-⟩|⟨l,g,-⟩)
  ·cases h
  cases g
 exact {
   ker:=A
   rng:=gi.2 ⟨⟨List.pairwise_singleton ..,λy n=>by rw[C2.1 n];show(1:Int)<=(k.F.Q.J.length:Nat);omega⟩,λy n=>by
       rw[C2.1 n];refine⟨C7 _,by show(1:Int)<=(k.F.Q.J.length:Nat);omega,?_⟩;show(0:Int)+(k.F.Q.J.length:Nat)<=(k.F.Q.J.length:Nat);omega,by show(1:Int)<=(k.F.Q.J.length:Nat);omega,by show((k.F.Q.J.length:Nat):Int)<=32;omega⟩
   lay:=by show bG [] []=true;decide
   srs:=List.Pairwise.nil
   srl:=List.Pairwise.nil
   pg:=⟨λl g=>(by cases g),λp f=>(by cases f),λp f=>⟨λe=>absurd (B p f) e,λe=>by cases e⟩,λp f=>⟨λe=>absurd (B p f) e,λe=>absurd ⟨_,C2.2 rfl,by show(0:Int)<=p;omega,by
       show(p:Int)<0+(k.F.Q.J.length:Nat);have F:p<k.F.Q.J.length:=f;omega⟩ e⟩,λs h=>by cases h⟩
   mail:=KB E
   nc:=by show(List.replicate t fQ).length=(List.replicate t _).length;simp
   quar:=by show gS ⟨16,[]⟩ = true;decide
   snc:=λx r=>by cases r
   cach:=λc d=>by rw[(List.mem_replicate.1 d).2];exact FJ
   nums:=by unfold cT;rw[C0];simp only[rV];omega
   osr:=List.Pairwise.nil
   onu:=λo u=>by cases u
   oid:=List.nodup_nil
   oow:=λo u=>by cases u
   hca:=λc d j D a b=>by
     rw[(List.mem_replicate.1 d).2]at D b;have w:j<4:=D;have:nth fQ.a j=[]:=dH w;rw[this]at b;cases b
   hqu:=λx r=>by cases r
   hfl:=λa b=>by
     have:aY (eO t)=[]:=we t;change a∈aY (eO t) at b;rw[this]at b;cases b
   hin:=λa b=>by cases b
   nd:=by rw[C];exact List.nodup_nil
   mem:=λa=>by rw[C];exact⟨λe=>(by cases e),λe=>absurd e (i a)⟩
   job:=λe=>by cases e
   noj:=λ_=>by show xW ⟨⟨0,0,[]⟩,0,0⟩ = true;decide}
def JI.no(a:h.k=false):JI h:=⟨λe=>(by rw[a]at e;cases e),λe=>(by rw[a]at e;cases e),λe=>(by rw[a]at e;cases e),λe=>(by rw[a]at e;cases e)⟩
variable{f:Nat}
def rq{p:Nat}{a:List Int}(d:1<=p/\p<=32)(e:1<=f/\f<=32)(b:a.length<=40/\∀x∈a,0<=x):aF (ce p f a)=true:=by
 obtain⟨-,g,h,i,c⟩:=aH.1 (Eo d e);exact aH.2 ⟨λj k=>b.2 _ (au k),g,h,i,c.1,c.2.1,b.1⟩
def HS{p:Nat}{lim:Int}{a:List Int}(c:1<=p/\p<=32)(d:1<=f/\f<=32)(g:1<=t/\t<=4)(i:0<=lim/\lim<=1000)(j:a.length<=40/\∀x∈a,0<=x):aX (newHeap p f t lim a) []:=by
 have h:=aX.fresh (k:=ce p f a) (t:=t) (lim:=lim) (sd:=0) (ck:=0) (rq c d j) (λq l=>by
   have b:q<p:=by simpa[ce,fX] using l
   rw[show nth (ce p f a).F.Q.J q = ⟨0,0⟩ from dH b]) g i ω ω
 have e:(ce p f a).F.Q.J.length=p:=by simp[ce,fX]
 unfold rV at h;rw[e]at h;exact h
structure bL where
 b0:Int
 y:Int
 N:Int
 At:Int
 Value:Int
deriving DecidableEq,Inhabited
def bL.enc(_:dQ)(x:bL):List C:=[I x.b0,I x.y,I x.N,I x.At,I x.Value]
def mC(id:Int)(o:aQ):Bool:=decide (o.Id=id)
def vI(r:aI)(id:Int):Int:=cF (mC id) r.O
def jx(r:aI)(n:Int):aI:=if 1<=n/\n<=1000 then {r with b:=r.b+1,O:=r.O++[⟨r.b,List.replicate n.toNat 0⟩]} else r
def lC(r:aI)(id:Int):aI:=if vI r id<0 then r else {r with O:=dele r.O (vI r id).toNat}
def f7(r:aI)(id at_ v:Int):aI:=if 0<=vI r id/\(0<=at_/\at_<=(nth r.O (vI r id).toNat).V.length - 1)/\0<=v/\v<=999 then {r with O:=r.O.set (vI r id).toNat ⟨(nth r.O (vI r id).toNat).Id,(nth r.O (vI r id).toNat).V.set at_.toNat v⟩} else r
def gF(r:aI)(id n:Int):aI:=if 0<=vI r id/\1<=n/\n<=(nth r.O (vI r id).toNat).V.length then {r with O:=r.O.set (vI r id).toNat ⟨(nth r.O (vI r id).toNat).Id,(nth r.O (vI r id).toNat).V.take n.toNat⟩} else r
structure uU(r:aI)(m:Nat):Prop where
 len:r.O.length<=m
 cel:∀o∈r.O,o.V.length<=1000
 nx:0<=r.b/\r.b<=m+1
variable{m:Nat}{r:aI}
def uU.more(h:uU r m)(a:m<=n):uU r n:=⟨by have:=h.len;omega,h.cel,h.nx.1,by have:=h.nx.2;omega⟩
def uU.sml(h:uU r m)(b:m<=1000):aI.sml r:=⟨by have:=h.len;omega,λo a=>by have:=h.cel o a;show o.V.length<=1048576;omega⟩
def uU.alloc(h:uU r m)(n:Int):uU (jx r n) (m+1):=by
 unfold jx;split
 ·refine⟨by have:=h.len;simp only[X4,List.length_singleton];omega,λo a=>?_,by have:=h.nx.1;simp only;omega,by have:=h.nx.2;simp only;omega⟩
  rcases I4.1 a with a|a
  ·exact h.cel o a
  rw[C2.1 a];simp only[I5];omega
 exact h.more ω
def uU.free(h:uU r m)(id:Int):uU (lC r id) m:=by
 unfold lC;split
 ·exact h
 have a:=eS r.O (vI r id).toNat;exact⟨Z6 a.length_le h.len,λo b=>h.cel o (a.subset b),h.nx⟩
def uU.set{x:aQ}(h:uU r m)(b:x.V.length<=1000):uU {r with O:=r.O.set i x} m:=
 ⟨by simp only[I2];exact h.len,λo a=>by
   rcases C9 a with a|rfl
   · exact h.cel o a
   exact b,h.nx⟩
def fT[Inhabited α](p:α->Bool)(xs:List α)(h:0<=cF p xs):(cF p xs).toNat<xs.length/\p (nth xs (cF p xs).toNat)=true/\cF p xs=((cF p xs).toNat:Nat):=by
 rcases vS p xs with e|⟨n,a,e,b⟩
 ·omega
 rw[e,Z3];exact⟨a,b,rfl⟩
def uU.store(h:uU r m)(id a v:Int):uU (f7 r id a v) m:=by
 unfold f7;split
 ·rename_i e
  refine h.set ?_;simp only[I2];exact h.cel (nth r.O (vI r id).toNat) (au (fT _ _ e.1).1)
 exact h
def uU.trim(h:uU r m)(id n:Int):uU (gF r id n) m:=by
 unfold gF;split
 ·rename_i e
  refine h.set ?_;have:=h.cel (nth r.O (vI r id).toNat) (au (fT _ _ e.1).1);simp only[O2];omega
 exact h
def P7(id:Int)(o:aU):Bool:=decide (o.Id=id)
def mq(h:ac)(id:Int):Int:=cF (P7 id) h.O
def nI(a:Int)(l:aB):Bool:=decide (l.R*16=a)
def AR(h:ac)(a:Int):Int:=cF (nI a) h.M
def qR(h:ac)(a:bL):Prop:=0<=a.y/\a.y<=h.T.length - 1
instance (h:ac) (a:bL):Decidable (qR h a):=by unfold qR;infer_instance
def q7(w:bj)(a:bL)(i:Nat):bj × Int:=
 if w.Z.G.Calls=100000 then(w,6)
 else if qR w.Z a then(⟨(freeT w.Z a.y.toNat i).1,if(freeT w.Z a.y.toNat i).2=0 then lC w.b2 (nth w.Z.O i).Id else w.b2⟩,(freeT w.Z a.y.toNat i).2)
 else(w,1)
def nL(w:bj)(a:bL)(i:Nat):bj × Int:=
 if ¬(0<=a.At/\a.At<=(nth w.Z.O i).q - 1) then(w,90)
 else if(af w.Z.G.F.Q (((nth w.Z.O i).Addr+a.At) / 16)).e=1 then(w,2)
 else if ¬(0<=a.Value/\a.Value<=999) then(w,3)
 else(⟨{w.Z with G:=dD w.Z.G ((nth w.Z.O i).Addr+a.At) a.Value},f7 w.b2 (nth w.Z.O i).Id a.At a.Value⟩,0)
def mM(h:ac)(i:Nat)(n:Int):Prop:=0<=AR h (nth h.O i).Addr/\9<=n/\n<=(nth h.M (AR h (nth h.O i).Addr).toNat).q
instance (h:ac) (i:Nat) (n:Int):Decidable (mM h i n):=by unfold mM;infer_instance
def qL(w:bj)(a:bL)(i:Nat):bj × Int:=
 if w.Z.G.Calls≠100000/\mM w.Z i a.Value then(⟨trimH w.Z i (AR w.Z (nth w.Z.O i).Addr).toNat a.Value,gF w.b2 (nth w.Z.O i).Id a.Value⟩,0) else(w,90)
def mc(w:bj)(a:bL)(i:Nat):bj × Int:=if a.b0=2 then q7 w a i else if a.b0=3 then nL w a i else qL w a i
def iX(h:ac)(a:bL):ac × Int:=
 if a.b0=5 then(if qR h a/\0<(nth h.a1.U a.y.toNat).length then({h with a1:=gv h.a1 a.y.toNat},0) else(h,90))
 else if ¬(h.G.Calls≠100000/\qR h a) then(h,0)
 else if a.b0=6 then(collect h a.y.toNat,((nth h.a1.u a.y.toNat).length:Nat))
 else((flushN a.y.toNat h 4).1,((flushN a.y.toNat h 4).2:Nat))
def qK(h:ac)(n:Int):ac × Int:=if h.G.Calls≠100000/\(0<=n/\n<=1000)/\h.b1+n<=1000000 then(tick h n,((o9 h n).length:Nat)) else(h,0)
def wI(h:ac):Bool:=h.k&&decide (h.G.Calls<=99000)
def stN(h:ac):Nat->ac × Nat
 | 0=>(h,0)
 | i+1=>if wI (stN h i).1=true then(mStep (stN h i).1,(stN h i).2+1) else stN h i
def qB(h:ac):ac × Int:=if h.k=true then(h,90) else((started h).1,if(started h).2=true then 0 else 90)
def jw(w:bj)(a:bL):bj × Int:=
 if a.b0=1 then(⟨(allocH w.Z a.y a.N).1,if(allocH w.Z a.y a.N).2.2=0 then jx w.b2 a.N else w.b2⟩,(allocH w.Z a.y a.N).2.2)
 else if a.b0=2\/a.b0=3\/a.b0=4 then(if mq w.Z a.N<0 then(w,90) else mc w a (mq w.Z a.N).toNat)
 else if a.b0=5\/a.b0=6\/a.b0=7 then(⟨(iX w.Z a).1,w.b2⟩,(iX w.Z a).2)
 else if a.b0=8 then(⟨(qK w.Z a.N).1,w.b2⟩,(qK w.Z a.N).2)
 else if a.b0=9 then(⟨(qB w.Z).1,w.b2⟩,(qB w.Z).2)
 else if a.b0=10/\0<=a.N/\a.N<=50 then(⟨(stN w.Z a.N.toNat).1,w.b2⟩,((stN w.Z a.N.toNat).2:Nat))
 else(w,90)
structure uH(w:bj)(m:Nat):Prop where
 inv:aX w.Z []
 ji:JI w.Z
 ref:uU w.b2 m
variable{w:bj}
def uH.more(h:uH w m)(a:m<=n):uH w n:=⟨h.inv,h.ji,h.ref.more a⟩
def uH.jk(h:uH w m){g:ac}(a:aX g []/\JK w.Z g)(b:uU r m):uH ⟨g,r⟩ m:=⟨a.1,h.ji.keep a.1 a.2,b⟩
def cX(a:aX h E){o:aU}(p:o∈h.O){k:Int}(D:0<=k/\k<=o.q - 1):(af h.G.F.Q ((o.Addr+k) / 16)).e≠0/\0<=o.Addr/\o.Addr+k<512:=by
 rcases a.oow o p with⟨s,g,q,r⟩|⟨l,i,F,G⟩
 ·have b:=a.L.sok s g
  have t:=aK b;obtain⟨u,w,y⟩:=a.mapped g;have d:=bZ t.2.2;obtain⟨H,J,A,-⟩:=q;have f:o.q<=csz s.d:=by
   have K:=jP (n:=o.q) ω;rw[r];have:o.q=1\/o.q=2\/o.q=3\/o.q=4\/o.q=5\/o.q=6\/o.q=7\/o.q=8:=ω
   rcases this with e|e|e|e|e|e|e|e<;>rw[e]<;>decide
  have B:(o.Addr+k) / 16=s.R:=by
   rcases d with e|e|e|e<;>rw[e]at A f<;>omega
  rw[B];refine⟨?_,ω,ω⟩;unfold af;rw[CD ⟨u,w⟩];exact y
 obtain⟨j,C,rfl⟩:=aN i;have c:=a.L.lok _ i;unfold bK at c;rw[C0]at c;exact⟨kD a C ⟨ω,ω⟩,ω,ω⟩
def uH.obj(h:uH w m)(a:bL)(b:i<w.Z.O.length):uH (mc w a i).1 m:=by
 unfold mc;split
 ·unfold q7
  split
  ·exact h
  split
  ·rename_i d
   unfold qR at d;refine h.jk (h.inv.freeT b ω) ?_;split
   ·exact h.ref.free _
   exact h.ref
  exact h
 split
 ·unfold nL
  split
  ·exact h
  rename_i l;split
  ·exact h
  split
  ·exact h
  rename_i n;exact h.jk (h.inv.store (cX h.inv (au b) ω).1 ω) (h.ref.store _ _ _)
 unfold qL;split
 ·rename_i e
  obtain⟨-,f,g⟩:=e;obtain⟨j,k,o⟩:=fT _ _ f;have c:=of_decide_eq_true k;exact h.jk (h.inv.trimH b j (c.symm.trans (Int.mul_comm _ _)) g) (h.ref.trim _ _)
 exact h
def uH.thread(h:uH w m)(a:bL):uH ⟨(iX w.Z a).1,w.b2⟩ m:=by
 unfold iX;split
 ·split
  ·rename_i e
   obtain⟨b,i⟩:=e;unfold qR at b;exact h.jk (g:={w.Z with a1:=gv w.Z.a1 a.y.toNat}) ⟨h.inv.deliv (by rw[<-h.inv.nc];omega) i,JK.eq rfl rfl rfl rfl⟩ h.ref
  exact h
 split
 ·exact h
 rename_i e;have e:=Classical.not_not.1 e;obtain⟨-,b⟩:=e;unfold qR at b;split
 ·exact h.jk (g:=collect w.Z a.y.toNat) (h.inv.collect ω) h.ref
 have c:a.y.toNat<w.Z.T.length:=ω
 have d:=(iQ h.inv c (O4 4)).1;have f:=JK.flushN h.inv c (O4 4);generalize flushN a.y.toNat w.Z 4=r at d f |-;exact h.jk (g:=r.1) ⟨d,f⟩ h.ref
def yk{h:ac}(a:aX h [])(b:JI h):∀n,aX (stN h n).1 []/\JI (stN h n).1
 | 0=>⟨a,b⟩
 | n+1=>by
  obtain⟨c,d⟩:=yk a b n;unfold stN;split
  ·rename_i e
   unfold wI at e;rw[I0]at e;exact c.mStep d e.1
  exact⟨c,d⟩
def uH.act(h:uH w m)(a:bL):uH (jw w a).1 (m+1):=by
 unfold jw;split
 ·have b:=Dg (t:=a.y) (size:=a.N) h.inv
  refine⟨b.1,h.ji.keep b.1 b.2,?_⟩;show uU (if _ then _ else _) (m+1);split
  ·exact h.ref.alloc _
  exact h.ref.more ω
 refine uH.more (m:=m) ?_ ω;split
 ·split
  ·exact h
  rename_i e;exact h.obj a (fT _ _ (by unfold mq at e;omega)).1
 split
 ·exact h.thread a
 split
 ·unfold qK
  split
  ·rename_i e
   exact h.jk (h.inv.tick e.2.1.1 e.2.2) h.ref
  exact h
 split
 ·unfold qB
  split
  ·exact h
  rename_i e;have b:=Kt h.inv (by simpa using e);exact⟨b.1,b.2,h.ref⟩
 split
 ·have b:=yk h.inv h.ji a.N.toNat
  exact⟨b.1,b.2,h.ref⟩
 exact h
structure bJ where
 a2:Nat
 X:Nat
 c3:Nat
 c0:Int
 w:List Int
deriving Inhabited
structure H0(c:bJ):Prop where
 p:1<=c.a2/\c.a2<=32
 f:1<=c.X/\c.X<=32
 t:1<=c.c3/\c.c3<=4
 l:0<=c.c0/\c.c0<=1000
 r:c.w.length<=40/\∀x∈c.w,0<=x
def world0(c:bJ):bj:=⟨newHeap c.a2 c.X c.c3 c.c0 c.w,{b:=1,O:=[]}⟩
def kY(c:bJ)(acts:List bL):Nat->bj × List Int
 | 0=>(world0 c,[])
 | i+1=>((jw (kY c acts i).1 (nth acts i)).1,(kY c acts i).2++[(jw (kY c acts i).1 (nth acts i)).2])
def Np{c:bJ}(h:H0 c):uH (world0 c) 0:=
 ⟨HS h.p h.f h.t h.l h.r,JI.no rfl,⟨O4 _,λo a=>(by cases a),by show(0:Int)<=1;omega,by show(1:Int)<=((0:Nat):Int)+1;omega⟩⟩
def uB{c:bJ}(h:H0 c)(acts:List bL):∀n,uH (kY c acts n).1 n
 | 0=>Np h
 | n+1=>(uB h acts n).act _
open Go.RowKit
set_option maxRecDepth 20000
set_option maxHeartbeats 4000000
def gg(o:dQ)(x:List db):List C:=[.s o (x.map (db.enc o))]
def KD(x:List db):ed (gg .own x)=gg .S x:=by simp[ed,gg,db.enc_fz,<-cg,I8]
def zM(x:List db):iq (gg .own x):=⟨⟨.inl λh=>(by cases h),bc _ _ λy _=>db.enc_fr y⟩,trivial⟩
variable{rows:List (List C)}
def Ap.sl{b:List (List C)}{r:List C}{sz by_:Nat}{K:List (List C)->Prop}(h1:∀r∈rows,r.length=sz)(c:r.length=sz)(d:rows.length+1<=1073741824)(e:by_<=1000)(a:b=rows++[r])(f:K b):Ap false rows [r] sz by_ K:=
 CU h1 (λg a=>by rw[C2.1 a];exact c) (λh=>by cases h) (by simp;omega) (by
   have h1:(rows.length+[r].length)*by_<=1073741824*1000:=Nat.mul_le_mul (by simpa using d) e;omega) a f
def Q5{v k:Int}(a:0<=v/\v<=999)(b:0<=k/\k<=1000):0<=k*v/\k*v<=1000000:=by
 have c:0<=k*v:=Int.mul_nonneg b.1 a.1;have d:k*v<=1000*999:=Int.mul_le_mul b.2 a.2 a.1 (by decide);omega
def or64{z1 z2:Int}(h1:0<=z1/\z1<=65535)(a:0<=z2/\z2<=65535):IntKind.i64.wrap ((BitVec.ofInt IntKind.i64.bits z1 ||| BitVec.ofInt IntKind.i64.bits z2).toNat:Nat)=bor z1 z2:=by
 rw[BitVec.toNat_or,qx ω,qx ω];have b:=Kl h1 a;unfold bor at b |-;exact fJ ω ω
def uF{xs:List aU}(h:∀o∈xs,0<=o.q/\o.q<=1000):∀k:Nat,k<=xs.length->0<=u6 xs k/\u6 xs k<=1000*k
 | 0,_=>⟨C7 _,C7 _⟩
 | k+1,a=>by
  have b:=uF h k ω;have c:=h _ (au (xs:=xs) (i:=k) ω);simp only[u6];omega
def NH(b i:Int):bor b (2 ^ i.toNat)=jB b i:=by
 unfold bor jB;have:((2 ^ i.toNat:Nat):Int)=(2:Int) ^ i.toNat:=Int.natCast_pow 2 i.toNat;rw[<-this,Z3]
def oq(m:aM):∀(n i:Nat),i<n->((nth m.U i).length:Int)+(nth m.u i).length<=bA m n/\0<=bA m n
 | 0,i,h=>absurd h (Nat.not_lt_zero i)
 | n+1,i,h=>by
  have a:0<=bA m n:=by
   cases n with
   | zero=>exact C7 _
   | succ k=>exact(oq m (k+1) 0 ω).2
  simp only[bA];by_cases e:i=n
  ·subst e;omega
  have:=(oq m n i ω).1;omega
structure qb(m:aM):Prop where
 b4:1<=m.U.length/\m.U.length<=4
 i4:m.u.length=m.U.length
 bl:∀i,i<m.U.length->(nth m.U i).length<=30
 il:∀i,i<m.U.length->(nth m.u i).length<=30
def qb.of{m:aM}(h:bU m=true):qb m:=by
 obtain⟨⟨b,c,d⟩,-,e⟩:=eY.1 h;exact⟨⟨b,c⟩,d,λi a=>by have:=(oq m m.U.length i a).1;omega,λi a=>by have:=(oq m m.U.length i a).1;omega⟩
def qb.sml{m:aM}(h:qb m):aM.sml m:=by
 have c:=h.b4;have d:=h.i4;refine⟨⟨ω,λl a=>?_⟩,⟨ω,λl a=>?_⟩⟩
 ·obtain⟨i,b,rfl⟩:=aN a
  have:=h.bl i b;exact⟨ω,λ_ _=>trivial⟩
 obtain⟨i,b,rfl⟩:=aN a;have:=h.il i ω;show(nth m.u i).length<=1048576;omega
def VF{m:aM}(a:f<m.U.length):m.U[f]? = some (nth m.U f):=ax a
def Di(m:aM)(f:Nat)(p:cW):aM.enc .own (jt m f p)=[.s .own ((m.U.map (bO .own)).set f (bO .own (nth m.U f++[p]))),.s .own (m.u.map (aJ .own))]:=by simp[aM.enc,jt,X8]
def NJ{m:aM}(h:qb m)(c:f<m.U.length)(p:cW):aM.sml (jt m f p):=by
 have d:=h.b4;have b:=h.sml;refine⟨⟨by simp only[jt,I2];omega,λl a=>?_⟩,b.2⟩;rcases C9 a with a|rfl
 ·exact b.1.2 l a
 have:=h.bl f c;exact⟨by simp;omega,λ_ _=>trivial⟩
def JN(m:aM)(f t:Nat)(a:(nth (nth m.U f) 0).To=t):aM.enc .own (gv m f)=[.s .own ((m.U.map (bO .own)).set f [.s .own (((nth m.U f).drop 1).map (cW.enc .S))]),.s .own ((m.u.map (aJ .own)).set t (aJ .own (nth m.u t++[(nth (nth m.U f) 0).Addr])))]:=by
 unfold aM.enc gv;simp only[X8,a,Z3]
 rfl
def NK.set(rows:List (List C))(i:Nat){r r':List C}(h:Qn r r'):NK (.s .own (rows.set i r)) (.s .own (rows.set i r')):=by
 refine .own_ _ _ (by simp) (λj a b d f=>?_) (λj l a b c o d f n g=>?_)
 ·by_cases e:i=j
  ·subst e
   have k:i<rows.length:=by have:=(O3.1 d).1;simpa using this
   rw[C5 k]at d f;cases d;cases f;exact h.1
  rw[List.getElem?_set_ne e]at d f;rw[d]at f;cases f;rfl
 by_cases e:i=j
 ·subst e
  have k:i<rows.length:=by have:=(O3.1 d).1;simpa using this
  rw[C5 k]at d f;cases d;cases f;exact h.2 l c o n g
 rw[List.getElem?_set_ne e]at d f;rw[d]at f;cases f;rw[n]at g;cases g;exact .rfl_ _
def LV(now:Int):∀{l:List aO}{i:Nat},i<=l.length->(∀j,j<i->(nth l j).b5<now - 100)->(i<l.length->¬(nth l i).b5<now - 100)->rE now l=i
 | [],i,h,_,_=>by simp at h;subst h;rfl
 | x::xs,0,_,_,h=>by
  unfold rE;exact CC (h (by simp))
 | x::xs,i+1,b,a,c=>by
  unfold rE;refine(CD (a 0 ω)).trans ?_;rw[LV now (l:=xs) (i:=i) (by simp at b;omega) (λj d=>a (j+1) ω) (λe=>c (by simp;omega))]
def RW(q:bD)(now:Int):List C:=bD.enc .own ⟨q.b7,q.a5.drop (rE now q.a5)⟩++dX .own (q.a5.take (rE now q.a5))
def FO(t:Nat)(h:ac)(az:List Int)(k:Nat)(a:k<az.length):recycs t h (az.take (k+1))=recyc t (recycs t h (az.take k)) (nth az k):=by
 unfold recycs;rw[Y7,ax a,Option.toList_some,List.foldl_append];rfl
def BJ(a:Int)(o:aU):Bool:=decide (o.Addr<=a/\a<o.Addr+o.q)
def Pv{p:α->Bool}{xs:List α}{x:α}(a:x∈xs)(b:p x=true):0<=cF p xs:=by
 have:=lQ p xs;rw[show xs.any p=true from S5.2 ⟨x,a,b⟩,C0]at this;exact this
def nE(l:aB)(n:Int):aC:=if(n+15) / 16<l.a2 then⟨l.R+(n+15) / 16,l.a2 - (n+15) / 16⟩ else⟨0,0⟩
def PN(c:aE)(k:Nat):aE.enc .own (rG c k)=[.s .own ((c.a.map (aJ .own)).set k (aJ .own ((nth c.a k).take ((nth c.a k).length - 1))))]:=by simp[aE.enc,rG,X8]
def UU(xs:List Int)(n:Nat):(xs.take n).map (rI .S)=(xs.map (rI .S)).take n:=Y5
def HX(k:am)(p:Int)(f:Nat):am.enc .own (sE k p f)=((am.enc .own k).set 1 (.s .own ((k.F.X.a4.map (rB .own)).set f (rB .own true)))).set 2 (.s .own ((k.F.Q.J.map (bm.enc .own)).set p.toNat (bm.enc .own ⟨2,(f:Nat)⟩))):=by
 simp[am.enc,sE,X8]
def xd{p:α->Bool}{xs:List α}{y:α}(h:kU p xs=i):jG p xs y=xs.take i++y::xs.drop i:=by unfold jG;rw[h]
variable{c:Int}
def H4(a:i<h.K.length)(b:tJ h c i=true)(d:∀j,j<i->tJ h c j=false):uE h c=some i:=
 List.find?_range_eq_some.2 ⟨b,List.mem_range.2 a,λj e=>by rw[d j e];rfl⟩
def GM(a:∀j,j<h.K.length->tJ h c j=false):uE h c=none:=
 List.find?_range_eq_none.2 λj b=>by rw[a j b];rfl
def vC(a:tJ h c i=false)(b:∀j,j<i->tJ h c j=false):∀j,j<i+1->tJ h c j=false:=λj d=>by
 by_cases e:j=i
 ·rw[e];exact a
 exact b j ω
def Rv{c:Nat}(b:aX h [])(l:c<=3)(e:h.G.Calls<=90000)(h1:¬(ay h.o 1).2.2=false)(f:¬(newK h.G (ay h.o 1).2.1).2=false):aX (pU h c) []/\pm h<(pU h c).K.length:=by
 have a:(ay h.o 1).2.2=true:=by simpa using h1
 obtain⟨g,i,j,n⟩:=kv b (C7 1) a;have s:=ww.of (p:=(ay h.o 1).2.1) b.ker ω ⟨g,by have:(ay h.o 1).2.1+1<=(h.G.F.Q.J.length:Nat):=i;omega⟩ (j _ ω ω);have d:(newK h.G (ay h.o 1).2.1).2=true:=by simpa using f
 have k:ww h.G (ay h.o 1).2.1 ((newK h.G (ay h.o 1).2.1).1,true):=by rw[<-d];exact s
 exact⟨b.addS (c:=c) ⟨ω,ω⟩ a k,(E9 (GT (ay h.o 1).2.1) h.K ⟨(ay h.o 1).2.1,c,0⟩).1⟩
def LN(h:ac)(size:Int):ac × Int:=
 if(ay h.o (iy size:Nat)).2.2=false then(h,-1)
 else if(dZ h size).2=iy size then({h with G:=(dZ h size).1,o:=(ay h.o (iy size:Nat)).1,M:=jG (Uz (ay h.o (iy size:Nat)).2.1) h.M ⟨(ay h.o (iy size:Nat)).2.1,(iy size:Nat),size⟩},16*(ay h.o (iy size:Nat)).2.1)
 else({h with G:=unmN (dZ h size).1 (ay h.o (iy size:Nat)).2.1 (dZ h size).2},-1)
def zr(k:am)(p:Int)(i:Nat):newsK k p (i+1)=if(newsK k p i).2=i then((newK (newsK k p i).1 (p+(i:Nat))).1,if(newK (newsK k p i).1 (p+(i:Nat))).2=true then i+1 else i) else newsK k p i:=rfl
def Hr(k:am)(p:Int):∀i,(newsK k p i).2<=i
 | 0=>O4 _
 | i+1=>by
  have b:=Hr k p i;rw[zr];by_cases e:(newsK k p i).2=i
  ·rw[CD e]
   show(if _ then i+1 else i)<=i+1;by_cases a:(newK (newsK k p i).1 (p+(i:Nat))).2=true
   ·rw[CD a];exact O4 _
   rw[CC a];exact Nat.le_succ _
  rw[CC e];omega
def rJ{k:am}{p:Int}{i:Nat}(h:(newsK k p i).2≠i):∀j,newsK k p (i+j)=newsK k p i/\(newsK k p (i+j)).2<i+j
 | 0=>⟨rfl,by show(newsK k p i).2<i;have:=Hr k p i;omega⟩
 | j+1=>by
  have a:=rJ h j;have e:newsK k p (i+(j+1))=newsK k p (i+j):=by
   show newsK k p (i+j+1)=_;rw[zr,CC ω]
  exact⟨e.trans a.1,by rw[e];omega⟩
def H5{k:am}(h:aF k=true)(b:kj k.w):am.wf k:=by
 obtain⟨p,f,g,q,t⟩:=aH.1 h;obtain⟨u,w,y,A⟩:=aZ.1 f;obtain⟨i,B,C⟩:=bu.1 g;refine⟨⟨⟨⟨ω,λr b=>?_⟩,⟨ω,λ_ _=>trivial⟩⟩,⟨ω,λe l=>?_⟩⟩,⟨ω,ω⟩,b⟩
 ·obtain⟨j,c,rfl⟩:=aN b
  obtain⟨D,n⟩:=xN h c;exact⟨ω,λv o=>by have:=n v o;exact⟨ω,ω⟩⟩
 obtain⟨j,c,rfl⟩:=aN l;have a:=i j c;unfold lx at a;rw[C0]at a;by_cases d:(nth k.F.Q.J j).e=0
 ·have:=a.2.2.1 d;exact⟨⟨ω,ω⟩,⟨ω,ω⟩⟩
 have:=a.2.2.2 d;exact⟨⟨ω,ω⟩,⟨ω,ω⟩⟩
def LK{p:cH}(h:fj p=true):cH.wf p:=by
 have a:=λi b=>gu h (i:=i) b
 have e:p.V.length<=16:=po h;unfold fj at h;simp only[I0,C0]at h;exact⟨⟨ω,ω⟩,⟨ω,ω⟩,⟨ω,λv c=>by
   obtain⟨j,d,rfl⟩:=aN c;have:=a j d;exact⟨ω,ω⟩⟩⟩
def aX.jobWf(a:aX h E):dE.wf h.Y/\dE.sml h.Y:=by
 cases b:h.k with
 | true=>
  obtain⟨c,f,g,i,j⟩:=dM.1 (a.job b).1;have k:=po c;exact⟨⟨LK c,⟨ω,ω⟩,⟨ω,ω⟩⟩,by show h.Y.W.V.length<=1048576;omega⟩
 | false=>
  have:=a.noj b;unfold xW at this;rw[C0]at this;obtain⟨l,n,e,o,p⟩:=this;refine⟨⟨⟨⟨ω,ω⟩,⟨ω,ω⟩,⟨ω,λv d=>?_⟩⟩,⟨ω,ω⟩,⟨ω,ω⟩⟩,by show h.Y.W.V.length<=1048576;omega⟩;rw[IA e]at d;cases d
def yx{n:Int}(h:0<=aP n):1<=n/\n<=8:=by
 unfold aP at h
 repeat' split at h
 all_goals omega
def jT.wf(b:aX h E)(d:jT h.K a c):pd a:=by
 have:=d.bd b;exact⟨ω,ω⟩
def aX.wf(d:aX h E)(M:kj h.G.w):ac.wf h:=by
 have q:=d.lens;have r:=d.L;have D:=d.nums;unfold cT at D;rw[C0]at D;obtain⟨X,N,Y⟩:=gi.1 d.rng;obtain⟨O,-,-,Z,q5,-⟩:=k6.1 d.quar;have w:=d.mail;have k:=d.hfl;unfold aY at k;rw[CD w]at k;unfold bU at w;simp only[I0,C0,cC,ib,X5,oB,RU]at w;obtain⟨⟨⟨m1,m2,m3⟩,P⟩,m5⟩:=w;have A:=q.free;have Q:=q.spans;have h3:=q.larges;have h4:=q.objs;have h5:=q.caches;have h6:=q.quar;have t:∀n:Nat,bA h.a1 n<=bA h.a1 (n+1):=λn=>by simp only[bA];omega
 have g:∀a b:Nat,a<=b->bA h.a1 a<=bA h.a1 b:=λa b u=>by
  induction u with
  | refl=>exact C7 _
  | step _ R=>exact Int.le_trans R (t _)
 have B:∀n:Nat,0<=bA h.a1 n:=λn=>g 0 n (Z0 _)
 have o:∀i,i<h.a1.U.length->(nth h.a1.U i).length<=30/\(nth h.a1.u i).length<=30:=λi f=>by
  have F:=g (i+1) h.a1.U.length ω;have S:=B i;simp only[bA]at F;omega
 refine⟨H5 d.ker M,⟨ω,λx e=>?_⟩,⟨ω,λx e=>?_⟩,⟨ω,λx e=>?_⟩,⟨ω,λx e=>?_⟩,⟨ω,λx e=>?_⟩,⟨⟨ω,λl c=>?_⟩,⟨ω,λl c=>?_⟩⟩,⟨⟨ω,ω⟩,⟨ω,λx e=>?_⟩⟩,⟨ω,ω⟩,⟨ω,ω⟩,⟨ω,ω⟩,⟨ω,ω⟩,trivial,d.jobWf.1⟩
 ·have:=N x e;exact⟨⟨ω,ω⟩,⟨ω,ω⟩⟩
 ·have y:=r.sok x e
  have G:=dY y;have T:=aK y;exact⟨⟨ω,ω⟩,⟨ω,ω⟩,⟨ω,ω⟩⟩
 ·have H:=aR (r.lok x e)
  have J:=dn (r.lok x e);exact⟨⟨ω,ω⟩,⟨ω,ω⟩,⟨ω,ω⟩⟩
 ·obtain⟨o1,o2,o3,o4⟩:=d.onu x e
  have u:0<=x.Addr/\x.Addr<512/\-1000<=x.q/\x.q<=1000:=by
   rcases d.oow x e with⟨s,y,A,Q⟩|⟨l,c,F,S⟩
   ·have T:=aK (r.sok s y)
    have:=yx (n:=x.q) ω;exact⟨by have:=A.1;omega,by have:=A.2.1;omega,ω,ω⟩
   have H:=aR (r.lok l c);have J:=dn (r.lok l c);omega
  exact⟨⟨ω,ω⟩,⟨ω,ω⟩,⟨ω,ω⟩,⟨ω,ω⟩⟩
 ·obtain⟨c1,U⟩:=q.lists x e
  refine⟨ω,λl c=>⟨by have:=U l c;omega,λa C=>?_⟩⟩;obtain⟨j,V,rfl⟩:=aN c;exact jT.wf d (d.hca x e j V a C)
 ·obtain⟨i,f,rfl⟩:=aN c
  have G:=o i f;refine⟨ω,λp K=>?_⟩;have W:=(P i f).1 p K;exact⟨⟨ω,ω⟩,jT.wf d (k p.Addr (I4.2 (.inl (List.mem_flatMap.2 ⟨_,au f,C6.2 ⟨p,K,rfl⟩⟩))))⟩
 ·obtain⟨i,f,rfl⟩:=aN c
  have G:=o i ω;exact⟨ω,λa C=>jT.wf d (k a (I4.2 (.inr (List.mem_flatten.2 ⟨_,au f,C⟩))))⟩
 have H:=O x e;have J:=d.snc x e;exact⟨jT.wf d (d.hqu x e),⟨ω,ω⟩,⟨ω,ω⟩⟩
structure W5(h:ac):Prop where
 ker:aF h.G=true
 wf:ac.wf h
 sml:ac.sml h
 lens:uQ h
def aX.fit(a:aX h E)(b:kj h.G.w)(c:aM.sml h.a1):W5 h:=⟨a.ker,a.wf b,a.lens.sml a.ker c a.jobWf.2,a.lens⟩
def JG(b:aX h [])(c:h.k=true):aF (mStep h).G=true/\(mStep h).G.Calls<=h.G.Calls+1/\(mStep h).G.w=h.G.w/\(mStep h).a1=h.a1/\(NR h=true->(mStep h).k=false)/\dE.wf (mStep h).Y/\dE.sml (mStep h).Y:=by
 have s:=JS.of b c;refine⟨s.ker,s.calls.2.1,s.calls.2.2,rfl,λa=>?_,?_⟩
 ·unfold NR at a
  rw[C0]at a;show(if over _=true then false else h.k)=false;rw[CD (show over (gm h.G h.Y).2=true from O0 (.inl a))]
 show dE.wf (if over _=true then _ else _)/\dE.sml (if over _=true then _ else _);split
 ·exact⟨⟨⟨⟨by decide,by decide⟩,⟨by decide,by decide⟩,⟨by decide,λv f=>by cases f⟩⟩,⟨by decide,by decide⟩,⟨by decide,by decide⟩⟩,by show(0:Nat)<=1048576;omega⟩
 have d:=(dM.1 (b.job c).1).1;have g:=po d;obtain⟨j,k⟩:=s.ph;obtain⟨l,i⟩:=s.nxt;have e:=s.plan;refine⟨⟨by rw[e];exact LK d,⟨ω,ω⟩,⟨ω,by rw[e]at i;omega⟩⟩,by show((gm h.G h.Y).2.W.V).length<=1048576;rw[e];omega⟩
def zZ(h:ac):Nat->ac × Bool
 | 0=>(h,false)
 | i+1=>if(zZ h i).1.k=true then(mStep (zZ h i).1,NR (zZ h i).1) else zZ h i
def fin(h:ac):ac × Bool:=zZ h 100
def FG(hi:aX h []):aX (started h).1 []/\(started h).1.G=h.G/\(started h).1.a1=h.a1:=by
 have r:=hi.nums;unfold cT at r;rw[C0]at r;have t:=(lW (bv h).length (show 0<=h.b3/\h.b3<=1073741823 by omega) ((bv h).length - 1)).2;have g:=nP (bv h) (show 0<=h.b3/\h.b3<=1073741823 by omega);have c:cT {h with b3:=(shuf (bv h).length h.b3).2} = true:=by
  unfold cT;rw[C0];unfold shuf;simp only;omega
 cases j:mN (bv h) h.b3 with
 | nil=>
  have f:Ab.started h=({h with b3:=(shuf (bv h).length h.b3).2},false):=by unfold Ab.started;rw[j]
  rw[f];exact⟨{hi with nums:=c},rfl,rfl⟩
 | cons q y=>
  obtain⟨C,D,k⟩:=g q (by rw[j];exact X2 ..);have f:Ab.started h=({h with b3:=(shuf (bv h).length h.b3).2,k:=true,Y:=FQ (cR (nth (bv h) q.A.toNat) (nth (bv h) q.B.toNat))},true):=by unfold Ab.started;rw[j]
  rw[f];have d:∀s∈bv h,s∈h.K:=λs u=>ns h (O4 _) s (List.mem_of_mem_take u)
  have l:=d _ (au (xs:=bv h) (i:=q.A.toNat) ω);have n:=d _ (au (xs:=bv h) (i:=q.B.toNat) ω);generalize nth (bv h) q.A.toNat=a at k l |-;generalize nth (bv h) q.B.toNat=b at k n |-;obtain⟨w,E,F⟩:=uA k;have o:lu (FQ (cR a b))=true:=dM.2 ⟨w,by show(0:Int)<=0;omega,by show(0:Int)<=5;omega,by show(0:Int)<=0;omega,by show(0:Int)<=(((cR a b).V.length:Nat):Int);omega⟩;have p:(∃s∈h.K,s.R=(cR a b).a3)/\∃s∈h.K,s.R=(cR a b).a0:=by
   unfold cR;split
   ·exact⟨⟨b,n,rfl⟩,⟨a,l,rfl⟩⟩
   exact⟨⟨a,l,rfl⟩,⟨b,n,rfl⟩⟩
  exact⟨{hi with nums:=c,job:=λ_=>⟨o,p⟩,noj:=λe=>by cases e},rfl,rfl⟩
def aX.objSz(a:aX h E):∀o∈h.O,0<=o.q/\o.q<=1000:=λx c=>by
 rcases a.oow x c with⟨s,d,e,f⟩|⟨l,b,g,i⟩
 ·have j:=aK (a.L.sok s d)
  have:=yx (n:=x.q) ω;omega
 have k:=dn (a.L.lok l b);omega
def N8(t:Int)(c:aX h [])(d:9<=size/\size<=1000):largeA h t size=if(LN h size).2<0 then((LN h size).1,-1,4) else(addO (LN h size).1 (LN h size).2 size t,(LN h size).2,0):=by
 unfold largeA LN;by_cases a:(ay h.o (iy size:Nat)).2.2=false
 ·rw[CD a,CD a]
  exact(CD (show(-1:Int)<0 by decide)).symm
 rw[CC a,CC a];obtain⟨e,-⟩:=kv c (show(1:Int)<=(iy size:Nat) by unfold iy;omega) (by simpa using a);by_cases b:(dZ h size).2=iy size
 ·rw[CD b,CD b]
  exact(CC (show ¬16*(ay h.o (iy size:Nat)).2.1<0 by omega)).symm
 rw[CC b,CC b];exact(CD (show(-1:Int)<0 by decide)).symm
def mA(h:ac)(i k:Nat)(n:Int)(K:am):ac:={h with G:=K,M:=h.M.set k (trimL (nth h.M k) n),O:=h.O.set i {nth h.O i with q:=n}}
def My(h:ac)(i k:Nat)(n:Int)(K:am):(mA h i k n K).O.map (aU.enc .own)=(h.O.map (aU.enc .own)).set i (splice (aU.enc .own (nth h.O i)) 2 [I n]):=by
 simp[mA,X8,aU.enc,splice]
def Gl(a:α)(k:Nat):List.replicate (k+1) a=List.replicate k a++[a]:=List.replicate_succ' ..
def K5(n k:Nat):bi.enc .own ⟨List.replicate k (List.replicate 16 0),List.replicate n false⟩ = [.s .own (List.replicate k [.s .own (List.replicate 16 [I 0])]),.s .own (List.replicate n [B false])]:=by
 simp[bi.enc,aJ,rI,rB,List.map_replicate]
def yh(n:Nat)(e:1<=n/\n<=32):zzA 465 false [.val none [I (n:Nat)]] (.tup [some 2,none]) (bi.enc .own (gr n)++[B true]):=by
 have c:=aG ((n:Nat):Int) 1 32;rw[O0 ω]at c;have a:=aD (b:=[B true]) (bi.enc_fr (gr n)) ⟨trivial,trivial⟩;rw[show bi.enc .own (gr n)=_ from K5 n n]at a |-;refine fO 25 [(7,4,[18,19,20,21])] Tryz.func465 rfl ?_ (.inr a)
 repeat'(first|refine gP ?_|(conv=>whnf);first|refine CE ?_|refine CB (c) ?_|refine Mk.mk n rfl rfl ω (Eh ω (by decide)) rfl ?_)
 (conv=>whnf)
 refine CH (ι:=Nat) (λk=>[(0,.H .one [I ((n:Nat))]),(2,.H .box [.z,.z]),(4,.H .box [.s .own (List.replicate k [.s .own (List.replicate 16 [I 0])]),.s .own (List.replicate n [B false])]),(5,.H .one [I ((k:Nat):Int)])]) (λk=>k<=n) (λk=>n - k) (0) ?_ (Z0 _) λk g=>?_
 ·exact wB
 by_cases h:k<n
 ·repeat'(first|refine gE ?_|(conv=>whnf);first|refine CE ?_|refine Mk.mk 16 rfl rfl (by decide) (by decide) rfl ?_|refine Ap.sn (λr d=>by rw[(List.mem_replicate.1 d).2];rfl) rfl (by simp;omega) (by decide) (Gl _ k) ?_)
  ((conv=>whnf);refine CG (k+1) ω ω ?_;(exact wB))
 obtain rfl:k=n:=ω
 repeat'(first|refine gE ?_|(conv=>whnf);first|refine CE ?_)
 rfl
def AE(n:Nat)(e:1<=n/\n<=32):zzA 466 false [.val none [I (n:Nat)]] (.tup [some 1,none]) (aL.enc .own (fX n)++[B true]):=by
 have c:=aG ((n:Nat):Int) 1 32;rw[O0 ω]at c;have a:=aD (b:=[B true]) (aL.enc_fr (fX n)) ⟨trivial,trivial⟩;have d:aL.enc .own (fX n)=[.s .own (List.replicate n [I 0,I 0])]:=by simp[aL.enc,fX,bm.enc,List.map_replicate]
 rw[d]at a |-;refine fO 11 [] Tryz.func466 rfl ?_ (.inr a)
 repeat'(first|refine gP ?_|(conv=>whnf);first|refine CE ?_|refine CB (c) ?_|refine Mk.mk n rfl rfl ω (Eh ω (by decide)) rfl ?_)
 rfl
def wL(p f:Nat)(a:1<=p/\p<=32)(b:1<=f/\f<=32):zzA 348 false [.val none [I (p:Nat)],.val none [I (f:Nat)]] (.tup [some 3,none]) (aV.enc .own ⟨gr f,fX p⟩++[B true]):=by
 refine fO 30 [] Tryz.func348 rfl ?_ (.inr (aD (aV.enc_fr _) ⟨trivial,trivial⟩))
 repeat'(first|refine gP ?_|(conv=>whnf);first|refine CE ?_|refine CB (yh f b) ?_|refine CB (AE p a) ?_)
 rfl
def RL(n:Nat):Qn [.s .own (List.replicate n [.z]),.s .own (List.replicate n [.z]),B true] (aM.enc .own (eO n)++[B true]):=by
 have e:aM.enc .own (eO n)++[B true]=[.s .own (List.replicate n [.s .own []]),.s .own (List.replicate n [.s .own []]),B true]:=by simp[aM.enc,eO,bO,aJ,List.map_replicate]
 rw[e];exact .cons (.rep (.cons .z_ .nil)) (.cons (.rep (.cons .z_ .nil)) (.cons (.rfl_ _) .nil))
def D2(n:Nat)(b:1<=n/\n<=4):zzA 200 false [.val none [I (n:Nat)]] (.tup [some 2,none]) (aM.enc .own (eO n)++[B true]):=by
 have a:=aG ((n:Nat):Int) 1 4;rw[O0 ω]at a;refine fO 13 [(3,4,[8,9,10,11])] Tryz.func200 rfl ?_ (.inr (aD (aM.enc_fr _) ⟨trivial,trivial⟩))
 repeat'((conv=>whnf);first|with_reducible (first|refine Lm ?_|refine Wm ω ?_|refine Bn ?_|refine js.dk rfl ?_)|refine Bt ?_|refine Bu ?_|refine CE ?_|refine CB (a) ?_|refine Mk.mk n rfl rfl ω (Eh ω (by decide)) rfl ?_)
 exact RL n
def Q2:Qn [.s .own (List.replicate 4 [.z])] (aE.enc .own fQ):=.cons (.rep (.cons .z_ .nil)) .nil
def AS:zzA 202 false [] .agg (aE.enc .own fQ):=by
 refine fO 3 [] Tryz.func202 rfl ?_ (.inr (aE.enc_fr _))
 repeat'((conv=>whnf);first|with_reducible (first|refine Lm ?_|refine Wm ω ?_|refine Bn ?_|refine js.dk rfl ?_)|refine Bt ?_|refine Bu ?_|refine CE ?_|refine Mk.mk 4 rfl rfl (by decide) (by decide) rfl ?_)
 exact Q2
def DX:zzA 201 false [.val none [I 16]] (.tup [some 2,none]) (bD.enc .own ⟨16,[]⟩++[B true]):=by
 refine fO 10 [] Tryz.func201 rfl ?_ (.inr (aD (bD.enc_fr _) ⟨trivial,trivial⟩))
 repeat'((conv=>whnf);first|with_reducible (first|refine Lm ?_|refine Wm ω ?_|refine Bn ?_|refine js.wk rfl ?_)|refine Bt ?_|refine Bu ?_|refine CE ?_|refine CB (aG 16 0 500) ?_)
 exact⟨rfl,rfl,rfl,trivial⟩
def caps(h:ac)(k:Nat):ac:={h with T:=List.replicate k fQ}
def MZ(k:Nat):(List.replicate (k+1) fQ).map (aE.enc .own)=(List.replicate k fQ).map (aE.enc .own)++[aE.enc .own fQ]:=by rw[Gl,C8];rfl
def Qa : ∀r∈(List.replicate k fQ).map (aE.enc .own),r.length=1:=aS λ_=>rfl
def TQ(x:List aQ):fz (.s .own (x.map (aQ.enc .own)))=.s .S (x.map (aQ.enc .S)):=(List.cons.inj (List.cons.inj (aI.enc_fz ⟨0,x⟩)).2).1
def dI:∀a b:List C,ed (a++b)=ed a++ed b
 | [],_=>rfl
 | x::xs,b=>by show fz x::ed (xs++b)=fz x::(ed xs++ed b);rw[dI xs b]
structure iu where
 i:Nat
 h:Int
deriving Inhabited
def w64(x:Int):Int:=IntKind.i64.wrap x
def Vr(h:Int):Int:=w64 (w64 (h*6364136223846793005)+1442695040888963407)
def UD(a b:Int):Int:=w64 ((BitVec.ofInt IntKind.i64.bits a ^^^ BitVec.ofInt IntKind.i64.bits b).toNat:Nat)
def and255(a:Int):Int:=w64 ((BitVec.ofInt IntKind.i64.bits a &&& BitVec.ofInt IntKind.i64.bits 255).toNat:Nat)
def RB(h:Int)(n:Nat):Int:=h.fdiv (2 ^ (min n IntKind.i64.bits))
def Bx(h:Int):Int:=and255 (UD (RB h 33) (RB h 45))
def B3(a:Int):0<=and255 a/\and255 a<=255:=by
 have b:(BitVec.ofInt IntKind.i64.bits a &&& BitVec.ofInt IntKind.i64.bits 255).toNat<=255:=by
  rw[BitVec.toNat_and];exact Z6 Nat.and_le_right (by decide)
 unfold and255 w64;rw[fJ ω ω];omega
def dO(zs:List Int)(c:iu):Int × iu:=if c.i<zs.length then(and255 (Bx (Vr c.h)+nth zs c.i),⟨c.i+1,Vr c.h⟩) else(Bx (Vr c.h),⟨c.i,Vr c.h⟩)
def tw(zs:List Int)(c:iu):0<=(dO zs c).1/\(dO zs c).1<=255:=by
 unfold dO;split<;>exact B3 _
variable{zs:List Int}
def jf{c:iu}(h:c.i<=zs.length):(dO zs c).2.i<=zs.length:=by
 unfold dO;split
 ·simp only;omega
 exact h
def Db(zs:List Int)(c:iu):Int × iu:=
 ((dO zs c).1*16777216+(dO zs (dO zs c).2).1*65536+(dO zs (dO zs (dO zs c).2).2).1*256+(dO zs (dO zs (dO zs (dO zs c).2).2).2).1,(dO zs (dO zs (dO zs (dO zs c).2).2).2).2)
def b8(zs:List Int)(c:iu)(n:Int):Int × iu:=if n<=256 then((dO zs c).1 % n,(dO zs c).2) else((Db zs c).1 % n,(Db zs c).2)
def bS(zs:List Int)(c:iu){n:Int}(h:1<=n):0<=(b8 zs c n).1/\(b8 zs c n).1<n:=by
 unfold b8;split<;>exact⟨Int.emod_nonneg _ ω,Int.emod_lt_of_pos _ ω⟩
def bW{c:iu}(h:c.i<=zs.length)(n:Int):(b8 zs c n).2.i<=zs.length:=by
 unfold b8;split
 ·exact jf h
 exact jf (jf (jf (jf h)))
def mj(zs:List Int)(c:iu)(l:List Int):Int × iu:=(nth l (b8 zs c (l.length:Nat)).1.toNat,(b8 zs c (l.length:Nat)).2)
def qI(zs:List Int)(c:iu){l:List Int}(h:1<=l.length):(mj zs c l).1∈l:=by
 have:=bS zs c (n:=(l.length:Nat)) ω;exact au ω
def pp(zs:List Int):Nat->Nat->List Int->iu->List Int × iu
 | 0,_,out,c=>(out,(b8 zs c 4).2)
 | f+1,i,out,c=>if(i:Int)<(b8 zs c 4).1 then pp zs f (i+1) (out++[(b8 zs (b8 zs c 4).2 12).1]) (b8 zs (b8 zs c 4).2 12).2 else(out,(b8 zs c 4).2)
def TM(zs:List Int)(c:iu):List Int × iu:=pp zs 4 0 [] c
def Mn(zs:List Int):∀(f i:Nat)(out:List Int)(c:iu),(∀x∈out,0<=x)->out.length+f<=4->c.i<=zs.length->(∀x∈(pp zs f i out c).1,0<=x)/\(pp zs f i out c).1.length<=4/\(pp zs f i out c).2.i<=zs.length
 | 0,_,out,c,b,e,d=>⟨b,by show out.length<=4;omega,bW d _⟩
 | f+1,i,out,c,b,e,d=>by
  unfold pp;split
  ·refine Mn zs f (i+1) _ _ (λx a=>?_) (by simp only[X4,List.length_singleton];omega) (bW (bW d _) _)
   rcases I4.1 a with a|a
   ·exact b x a
   rw[C2.1 a];exact(bS zs _ (by decide)).1
  exact⟨b,by show out.length<=4;omega,bW d _⟩
def Ac(zs:List Int)(c:iu):Int × iu:=b8 zs c 7
def FZ(zs:List Int)(c:iu):Int × iu:=b8 zs (Ac zs c).2 3
def J4(zs:List Int)(c:iu):Int × iu:=b8 zs (FZ zs c).2 100
def EQ(zs:List Int)(c:iu):Int × iu:=b8 zs (J4 zs c).2 4
def Uq(zs:List Int)(c:iu):List Int × iu:=TM zs (EQ zs c).2
def pz(zs:List Int)(c:iu):bJ:=⟨(6+(Ac zs c).1).toNat,(6+(Ac zs c).1 - (EQ zs c).1).toNat,(1+(FZ zs c).1).toNat,40+(J4 zs c).1,(Uq zs c).1⟩
def FK{c:iu}(h:c.i<=zs.length):H0 (pz zs c)/\(Uq zs c).2.i<=zs.length:=by
 have a:=bS zs c (n:=7) (by decide);have b:=bS zs (Ac zs c).2 (n:=3) (by decide);have d:=bS zs (FZ zs c).2 (n:=100) (by decide);have e:=bS zs (J4 zs c).2 (n:=4) (by decide);change 0<=(Ac zs c).1/\(Ac zs c).1<7 at a;change 0<=(FZ zs c).1/\(FZ zs c).1<3 at b;change 0<=(J4 zs c).1/\(J4 zs c).1<100 at d;change 0<=(EQ zs c).1/\(EQ zs c).1<4 at e;obtain⟨f,k,g⟩:=Mn zs 4 0 [] (EQ zs c).2 (λx j=>by cases j) (by simp) (bW (bW (bW (bW h _) _) _) _);refine⟨⟨?_,?_,?_,?_,?_⟩,g⟩
 ·show 1<=(6+(Ac zs c).1).toNat/\(6+(Ac zs c).1).toNat<=32;omega
 ·show 1<=(6+(Ac zs c).1 - (EQ zs c).1).toNat/\(6+(Ac zs c).1 - (EQ zs c).1).toNat<=32;omega
 ·show 1<=(1+(FZ zs c).1).toNat/\(1+(FZ zs c).1).toNat<=4;omega
 ·show 0<=40+(J4 zs c).1/\40+(J4 zs c).1<=1000;omega
 exact⟨by show(pp zs 4 0 [] (EQ zs c).2).1.length<=40;omega,f⟩
def BX(zs:List Int)(c:iu):Int × iu:=b8 zs c 3
def Jg(zs:List Int)(c:iu)(ids:Int):Int × iu:=b8 zs (BX zs c).2 ids
def lU(zs:List Int)(c:iu)(ids:Int):Int × iu:=b8 zs (Jg zs c ids).2 20
def szs:List Int:=[1,1,2,2,3,4,4,5,8,9,20]
def p6(zs:List Int)(c:iu)(ids:Int):bL × iu:=
 if(lU zs c ids).1<=6 then(⟨1,(BX zs c).1,(mj zs (lU zs c ids).2 szs).1,0,0⟩,(mj zs (lU zs c ids).2 szs).2)
 else if(lU zs c ids).1<=9 then(⟨2,(BX zs c).1,1+(Jg zs c ids).1,0,0⟩,(lU zs c ids).2)
 else if(lU zs c ids).1<=12 then(⟨3,(BX zs c).1,1+(Jg zs c ids).1,(b8 zs (lU zs c ids).2 4).1,1+(b8 zs (b8 zs (lU zs c ids).2 4).2 999).1⟩,(b8 zs (b8 zs (lU zs c ids).2 4).2 999).2)
 else if(lU zs c ids).1=13 then(⟨4,(BX zs c).1,1+(Jg zs c ids).1,0,9+(b8 zs (lU zs c ids).2 10).1⟩,(b8 zs (lU zs c ids).2 10).2)
 else if(lU zs c ids).1=14 then(⟨(mj zs (lU zs c ids).2 [5,6]).1,(BX zs c).1,1+(Jg zs c ids).1,0,0⟩,(mj zs (lU zs c ids).2 [5,6]).2)
 else if(lU zs c ids).1=15 then(⟨7,(BX zs c).1,1+(Jg zs c ids).1,0,0⟩,(lU zs c ids).2)
 else if(lU zs c ids).1=16 then(⟨8,(BX zs c).1,(mj zs (lU zs c ids).2 [1,30,60,120]).1,0,0⟩,(mj zs (lU zs c ids).2 [1,30,60,120]).2)
 else if(lU zs c ids).1=17 then(⟨9,(BX zs c).1,1+(Jg zs c ids).1,0,0⟩,(lU zs c ids).2)
 else(⟨10,(BX zs c).1,(mj zs (lU zs c ids).2 [1,2,3,10,30]).1,0,0⟩,(mj zs (lU zs c ids).2 [1,2,3,10,30]).2)
structure Ve(a:bL):Prop where
 k:1<=a.b0/\a.b0<=10
 t:0<=a.y/\a.y<=1000000
 n:0<=a.N/\a.N<=1000000
 p:0<=a.At/\a.At<=1000000
 v:0<=a.Value/\a.Value<=1000000
def PI{c:iu}{ids:Int}(h:c.i<=zs.length)(b:1<=ids/\ids<=1000):Ve (p6 zs c ids).1/\(p6 zs c ids).2.i<=zs.length:=by
 have d:=bS zs c (n:=3) (by decide);have e:=bS zs (BX zs c).2 (n:=ids) b.1;change 0<=(BX zs c).1/\(BX zs c).1<3 at d;change 0<=(Jg zs c ids).1/\(Jg zs c ids).1<ids at e;have a:(lU zs c ids).2.i<=zs.length:=bW (bW (bW h _) _) _;have f:=qI zs (lU zs c ids).2 (l:=szs) (by decide);have g:=qI zs (lU zs c ids).2 (l:=[5,6]) (by decide);have j:=qI zs (lU zs c ids).2 (l:=[1,30,60,120]) (by decide);have k:=qI zs (lU zs c ids).2 (l:=[1,2,3,10,30]) (by decide);have o:=bS zs (lU zs c ids).2 (n:=4) (by decide);have p:=bS zs (b8 zs (lU zs c ids).2 4).2 (n:=999) (by decide);have q:=bS zs (lU zs c ids).2 (n:=10) (by decide);simp only[szs,List.mem_cons,List.not_mem_nil,or_false]at f g j k;unfold p6
 repeat' split
 ·exact⟨⟨by simp only;omega,by simp only;omega,by simp only[szs];omega,by simp only;omega,by simp only;omega⟩,bW a _⟩
 ·exact⟨⟨by simp only;omega,by simp only;omega,by simp only;omega,by simp only;omega,by simp only;omega⟩,a⟩
 ·exact⟨⟨by simp only;omega,by simp only;omega,by simp only;omega,by simp only;omega,by simp only;omega⟩,bW (bW a _) _⟩
 ·exact⟨⟨by simp only;omega,by simp only;omega,by simp only;omega,by simp only;omega,by simp only;omega⟩,bW a _⟩
 ·exact⟨⟨by simp only;omega,by simp only;omega,by simp only;omega,by simp only;omega,by simp only;omega⟩,bW a _⟩
 ·exact⟨⟨by simp only;omega,by simp only;omega,by simp only;omega,by simp only;omega,by simp only;omega⟩,a⟩
 ·exact⟨⟨by simp only;omega,by simp only;omega,by simp only;omega,by simp only;omega,by simp only;omega⟩,bW a _⟩
 ·exact⟨⟨by simp only;omega,by simp only;omega,by simp only;omega,by simp only;omega,by simp only;omega⟩,a⟩
 exact⟨⟨by simp only;omega,by simp only;omega,by simp only;omega,by simp only;omega,by simp only;omega⟩,bW a _⟩
def LW(zs:List Int)(c:iu):Nat->List bL × iu
 | 0=>([],(b8 zs c 41).2)
 | i+1=>((LW zs c i).1++[(p6 zs (LW zs c i).2 (1+(i:Int) / 2)).1],(p6 zs (LW zs c i).2 (1+(i:Int) / 2)).2)
def Uh(zs:List Int)(c:iu):List bL × iu:=LW zs c (b8 zs c 41).1.toNat
def qQ(zs:List Int):Nat->Int
 | 0=>w64 (98801+(zs.length:Nat))
 | i+1=>w64 ((BitVec.ofInt IntKind.i64.bits (w64 (w64 (w64 (qQ zs i*131)+nth zs i)+7)) &&& BitVec.ofInt IntKind.i64.bits 1073741823).toNat:Nat)
def wJ(zs:List Int):iu:=⟨0,qQ zs (min zs.length 4000)⟩
def ou(zs:List Int):iu:=(Uq zs (wJ zs)).2
def drawn(zs:List Int):bj:=(kY (pz zs (wJ zs)) (Uh zs (ou zs)).1 (Uh zs (ou zs)).1.length).1
def rU(z:Int):List C:=[.v (.int .u8 z)]
def jE(zs:List Int)(c:iu):List C:=[.s .S (zs.map rU),I (c.i:Nat),I c.h]
def lV(zs:List Int):Prop:=zs.length<=1048576/\∀z∈zs,0<=z/\z<=255
def lF(zs:List Int)(c:iu)(e:lV zs)(w:c.i<=zs.length):zzB 180 false [.ptr (jE zs c)] [.ptr (jE zs (dO zs c).2)] .one [I (dO zs c).1]:=by
 have g:IntKind.i64.wrap (c.h*6364136223846793005)=w64 (c.h*6364136223846793005):=rfl;have b:IntKind.i64.wrap (w64 (c.h*6364136223846793005)+1442695040888963407)=Vr c.h:=rfl;have o:=e.1;generalize p:Vr c.h=H at b;have j:H.fdiv (2 ^ (min (33:Int).toNat IntKind.i64.bits))=RB H 33:=rfl;have k:H.fdiv (2 ^ (min (45:Int).toNat IntKind.i64.bits))=RB H 45:=rfl;have l:IntKind.i64.wrap (BitVec.ofInt IntKind.i64.bits (RB H 33) ^^^ BitVec.ofInt IntKind.i64.bits (RB H 45)).toNat=UD (RB H 33) (RB H 45):=rfl;have d:IntKind.i64.wrap (BitVec.ofInt IntKind.i64.bits (UD (RB H 33) (RB H 45)) &&& BitVec.ofInt IntKind.i64.bits 255).toNat=Bx H:=rfl;have r:0<=Bx H/\Bx H<=255:=B3 _;unfold dO;rw[p];generalize Bx H=y at d r |-;refine fM 58 [] [(2,10,[13,14,15,16,17,18,19,20,21,22]),(3,9,[25,26,27,28,29,30,31,32,33]),(4,12,[35,36,37,38,39,40,41,42,43,44,45,46])] [(0,0)] Tryz.func180 rfl (λu q=>?_);by_cases a:c.i<zs.length
 ·rw[CD a]
  have n:=ax a;have B:=e.2 _ (au a);have t:IntKind.i64.wrap (BitVec.ofInt IntKind.i64.bits (y+nth zs c.i) &&& BitVec.ofInt IntKind.i64.bits 255).toNat=and255 (y+nth zs c.i):=rfl
  repeat'(first|refine gE ?_|(conv=>whnf);first|with_reducible (first|refine CM g ?_|refine CM b ?_|refine CM l ?_|refine CM d ?_|refine CM t ?_|refine CF (aa n) ?_|refine CQ (by decide) ?_|refine CS j ?_|refine CS k ?_)|refine CJ rfl (aa n) rfl ?_|refine CE ?_)
  refine CO rfl rfl ?_;exact wB
 rw[CC a]
 repeat'(first|refine gE ?_|(conv=>whnf);first|with_reducible (first|refine CM g ?_|refine CM b ?_|refine CM l ?_|refine CM d ?_|refine CQ (by decide) ?_|refine CS j ?_|refine CS k ?_)|refine CE ?_)
 refine CO rfl rfl ?_;exact wB
def bY(zs:List Int)(c:iu)(n:Int)(b:lV zs)(d:c.i<=zs.length)(p:1<=n):zzB 61 false [.ptr (jE zs c),.val none [I n]] [.ptr (jE zs (b8 zs c n).2),.val none [I n]] .one [I (b8 zs c n).1]:=by
 have j:=tw zs c;have g:=lF zs c b d;unfold b8;refine fM 37 [(180,[2])] [] [(0,0),(0,0)] Tryz.func61 rfl (λu q=>?_);by_cases h:n<=256
 ·rw[CD h]
  have a:(dO zs c).1.tmod n=(dO zs c).1 % n:=Int.tmod_eq_emod_of_nonneg j.1
  repeat'(first|refine gE ?_|(conv=>whnf);first|with_reducible (first|refine CS a ?_|refine Bf.D (λe=>?_) (λe=>?_))|refine CK (g) (.inl rfl) ?_|refine CQ ω ?_)
  refine CO rfl rfl ?_;exact wB
 rw[CC h];have r:=tw zs (dO zs c).2;have t:=tw zs (dO zs (dO zs c).2).2;have w:=tw zs (dO zs (dO zs (dO zs c).2).2).2;have k:=lF zs (dO zs c).2 b (jf d);have l:=lF zs (dO zs (dO zs c).2).2 b (jf (jf d));have o:=lF zs (dO zs (dO zs (dO zs c).2).2).2 b (jf (jf (jf d)));have a:(Db zs c).1.tmod n=(Db zs c).1 % n:=Int.tmod_eq_emod_of_nonneg (by unfold Db;simp only;omega);unfold Db at a |-;simp only at a
 repeat'(first|refine gE ?_|(conv=>whnf);first|with_reducible (first|refine CS a ?_|refine Bf.D (λe=>?_) (λe=>?_))|refine CK (g) (.inl rfl) ?_|refine CK (k) (.inl rfl) ?_|refine CK (l) (.inl rfl) ?_|refine CK (o) (.inl rfl) ?_|refine CQ ω ?_)
 refine CO rfl rfl ?_;exact wB
def NL(zs:List Int)(c:iu)(l:List Int)(b:lV zs)(d:c.i<=zs.length)(g:1<=l.length/\l.length<=1000):zzB 402 false [.ptr (jE zs c),.val none (aJ .S l)] [.ptr (jE zs (mj zs c l).2),.val none (aJ .S l)] .one [I (mj zs c l).1]:=by
 have e:=bY zs c (l.length:Nat) b d ω;have h:=bS zs c (n:=(l.length:Nat)) ω;have a:=ax (xs:=l) (i:=(b8 zs c (l.length:Nat)).1.toNat) ω;unfold mj;refine fM 12 [(61,[2,0])] [] [(0,0),(0,0)] Tryz.func402 rfl (λu q=>?_)
 repeat'(first|refine gP ?_|(conv=>whnf);first|with_reducible refine CP ω (aa a) ?_|refine CK (e) (.inl rfl) ?_|refine CJ rfl (aa a) rfl ?_)
 refine CO rfl rfl ?_;exact wC
def j9(zs:List Int)(c:iu)(l:List Int)(b:lV zs)(d:c.i<=zs.length)(g:1<=l.length/\l.length<=1000):zzB 402 false [.ptr (jE zs c),.mut none (aJ .own l)] [.ptr (jE zs (mj zs c l).2),.mut none (aJ .own l)] .one [I (mj zs c l).1]:=by
 have e:=bY zs c (l.length:Nat) b d ω;have h:=bS zs c (n:=(l.length:Nat)) ω;have a:=ax (xs:=l) (i:=(b8 zs c (l.length:Nat)).1.toNat) ω;unfold mj;refine fM 12 [(61,[2,0])] [] [(0,0),(1,0)] Tryz.func402 rfl (λu q=>?_)
 repeat'(first|refine gP ?_|(conv=>whnf);first|with_reducible refine CP ω (aa a) ?_|refine CK (e) (.inl rfl) ?_|refine CJ rfl (aa a) rfl ?_)
 refine CO rfl rfl ?_;exact wC
def Nw(zs:List Int):∀(f i:Nat)(out:List Int)(c:iu),(b8 zs c 4).1<=i->pp zs f i out c=(out,(b8 zs c 4).2)
 | 0,_,_,_,_=>rfl
 | f+1,i,out,c,h=>by unfold pp;rw[CC ω]
def Tl(zs:List Int)(f i:Nat)(out:List Int)(c:iu)(h:(i:Int)<(b8 zs c 4).1):pp zs (f+1) i out c=pp zs f (i+1) (out++[(b8 zs (b8 zs c 4).2 12).1]) (b8 zs (b8 zs c 4).2 12).2:=by
 show(if _ then _ else _)=_;rw[CD h]
structure Rq where
 i:Nat
 out:List Int
 c:iu
def yJ(zs:List Int)(c:iu)(e:lV zs)(j:c.i<=zs.length):zzB 258 false [.ptr (jE zs c)] [.ptr (jE zs (TM zs c).2)] .one (aJ .own (TM zs c).1):=by
 refine fM 18 [(61,[2,0])] [] [(0,0)] Tryz.func258 rfl (λu q=>?_) (.inr (bQ _))
 repeat'(first|refine gP ?_|fail)
 (conv=>whnf)
 refine CH (ι:=Rq) (λx=>[(0,.H .box (jE zs x.c)),(3,.H .one (aJ .own x.out)),(4,.H .one [I ((x.i:Nat):Int)])]) (λx=>(x.i<=4/\x.out.length<=x.i/\x.c.i<=zs.length)/\pp zs (4 - x.i) x.i x.out x.c=TM zs c) (λx=>4 - x.i) (⟨0,[],c⟩) ?_ (⟨⟨Z0 _,Z0 _,j⟩,rfl⟩) λx k=>?_
 ·exact wC
 obtain⟨i,out,d⟩:=x;obtain⟨⟨l,o,b⟩,a⟩:=k;simp only at l o b a |-;have B:=bS zs d (n:=4) (by decide);have g:=bY zs d 4 e b (by decide);have h:=bW b 4;have p:=bY zs (b8 zs d 4).2 12 e h (by decide);have t:=bW h 12;by_cases w:(i:Int)<(b8 zs d 4).1
 ·rw[show 4 - i=(4 - (i+1))+1 by omega,Tl zs _ _ _ _ w]at a
  repeat'(first|refine gE ?_|(conv=>whnf);first|refine CK (g) (.inl rfl) ?_|refine CK (p) (.inl rfl) ?_|refine CU dU (λr y=>by rw[C2.1 y];rfl) (by simp[bp,fx]) (by simp;omega) (by simp only[O1];exact Eh (by simp;omega) (by decide)) rfl ?_)
  ((conv=>whnf);refine CG ⟨i+1,out++[(b8 zs (b8 zs d 4).2 12).1],(b8 zs (b8 zs d 4).2 12).2⟩ ⟨⟨by simp only;omega,by simp only[X4,List.length_singleton];omega,t⟩,a⟩ (by simp only;omega) ?_)
  repeat'(first|exact trivial|rfl| exact eK _ |exact CL rfl (CL (C1 (C.s dQ.own) (by simp[rI])) trivial)|refine CL ?_ ?_|(exact Jh (by first|omega|(simp only;omega)|(simp;omega))))
 rw[Nw zs _ _ _ _ ω]at a;rw[<-a]
 repeat'(first|refine gE ?_|(conv=>whnf);first|refine CK (g) (.inl rfl) ?_)
 refine CO rfl rfl ?_;exact wC
def bJ.enc(o:dQ)(c:bJ):List C:=[I (c.a2:Nat),I (c.X:Nat),I (c.c3:Nat),I c.c0,.s o (c.w.map (rI o))]
def bJ.enc_fz(c:bJ):ed (bJ.enc .own c)=bJ.enc .S c:=by simp[ed,bJ.enc,rI,<-cg,I8]
def bJ.enc_fr(c:bJ):iq (bJ.enc .own c):=⟨trivial,trivial,trivial,trivial,⟨.inl λh=>(by cases h),bc _ _ λy _=>rg y⟩,trivial⟩
def zA(zs:List Int)(c:iu)(a:lV zs)(h:c.i<=zs.length):zzB 113 false [.ptr (jE zs c)] [.ptr (jE zs (Uq zs c).2)] .agg (bJ.enc .own (pz zs c)):=by
 have j:=bW h 7;have k:=bW j 3;have l:=bW k 100;have y:=bW l 4;have b:=bY zs c 7 a h (by decide);have d:=bY zs (Ac zs c).2 3 a j (by decide);have e:=bY zs (FZ zs c).2 100 a k (by decide);have g:=bY zs (J4 zs c).2 4 a l (by decide);have o:=yJ zs (EQ zs c).2 a y;have p:=bS zs c (n:=7) (by decide);have r:=bS zs (Ac zs c).2 (n:=3) (by decide);have B:=bS zs (FZ zs c).2 (n:=100) (by decide);have t:=bS zs (J4 zs c).2 (n:=4) (by decide);have w:=bJ.enc_fr (pz zs c);have C:bJ.enc .own (pz zs c)=[I (6+(Ac zs c).1),I (6+(Ac zs c).1 - (EQ zs c).1),I (1+(FZ zs c).1),I (40+(J4 zs c).1),.s .own ((Uq zs c).1.map (rI .own))]:=by
  have D:0<=(Ac zs c).1/\(Ac zs c).1<7:=p;have E:0<=(FZ zs c).1/\(FZ zs c).1<3:=r;have F:0<=(EQ zs c).1/\(EQ zs c).1<4:=t;unfold bJ.enc pz;simp only;rw[Int.toNat_of_nonneg ω,Int.toNat_of_nonneg ω,Int.toNat_of_nonneg ω]
 rw[C]at w |-;change bg _ _ _ _ [.ptr (jE zs (Ac zs c).2),_] _ _ at b;change bg _ _ _ _ [.ptr (jE zs (FZ zs c).2),_] _ _ at d;change bg _ _ _ _ [.ptr (jE zs (J4 zs c).2),_] _ _ at e;change bg _ _ _ _ [.ptr (jE zs (EQ zs c).2),_] _ _ at g;change bg _ _ _ _ [.ptr (jE zs (Uq zs c).2)] _ (aJ .own (Uq zs c).1) at o;change bg _ _ _ _ _ _ [I (Ac zs c).1]at b;change bg _ _ _ _ _ _ [I (FZ zs c).1]at d;change bg _ _ _ _ _ _ [I (J4 zs c).1]at e;change bg _ _ _ _ _ _ [I (EQ zs c).1]at g;change 0<=(Ac zs c).1/\(Ac zs c).1<7 at p;change 0<=(FZ zs c).1/\(FZ zs c).1<3 at r;change 0<=(J4 zs c).1/\(J4 zs c).1<100 at B;change 0<=(EQ zs c).1/\(EQ zs c).1<4 at t;generalize Uq zs c=r5 at *;generalize EQ zs c=r4 at *;generalize J4 zs c=r3 at *;generalize FZ zs c=r2 at *;generalize Ac zs c=r1 at *;refine fM 24 [(61,[2,0]),(258,[2])] [(2,65536,[])] [(0,0)] Tryz.func113 rfl (λu q=>?_) (.inr w)
 repeat'(first|refine gP ?_|(conv=>whnf);first|refine CK (b) (.inl rfl) ?_|refine CK (d) (.inl rfl) ?_|refine CK (e) (.inl rfl) ?_|refine CK (g) (.inl rfl) ?_|refine CK (o) (.inl rfl) ?_|refine CL ?_ ?_)
 all_goals
  refine CO rfl rfl ?_;exact wC
def fh(o:dQ)(l:List bL):List C:=[.s o (l.map (bL.enc o))]
def bL.enc_fr(x:bL):iq (bL.enc .own x):=⟨trivial,trivial,trivial,trivial,trivial,trivial⟩
def v7(l:List bL):iq (fh .own l):=⟨⟨.inl λh=>(by cases h),bc _ _ λy _=>bL.enc_fr y⟩,trivial⟩
def B9(l:List bL):ed (fh .own l)=fh .S l:=by simp[ed,fh,bL.enc,<-cg,I8]
def H8(zs:List Int)(c:iu)(ids:Int)(b:lV zs)(p:c.i<=zs.length)(r:1<=ids/\ids<=1000):zzB 259 false [.ptr (jE zs c),.val none [I ids]] [.ptr (jE zs (p6 zs c ids).2),.val none [I ids]] .agg (bL.enc .own (p6 zs c ids).1):=by
 have w:=bW p 3;have y:=bW w ids;have d:(lU zs c ids).2.i<=zs.length:=bW y 20;have B:=bY zs c 3 b p (by decide);have C:=bY zs (BX zs c).2 ids b w r.1;have j:=bY zs (Jg zs c ids).2 20 b y (by decide);have H:=bS zs c (n:=3) (by decide);have J:=bS zs (BX zs c).2 (n:=ids) r.1;have D:=bS zs (Jg zs c ids).2 (n:=20) (by decide);have e:=j9 zs (lU zs c ids).2 szs b d (by decide);have E:=j9 zs (lU zs c ids).2 [5,6] b d (by decide);have F:=j9 zs (lU zs c ids).2 [1,30,60,120] b d (by decide);have l:=j9 zs (lU zs c ids).2 [1,2,3,10,30] b d (by decide);have g:=bY zs (lU zs c ids).2 4 b d (by decide);have h:=bY zs (b8 zs (lU zs c ids).2 4).2 999 b (bW d _) (by decide);have G:=bY zs (lU zs c ids).2 10 b d (by decide);have K:=bS zs (b8 zs (lU zs c ids).2 4).2 (n:=999) (by decide);have L:=bS zs (lU zs c ids).2 (n:=10) (by decide);change bg _ _ _ _ [.ptr (jE zs (BX zs c).2),_] _ [I (BX zs c).1]at B;change bg _ _ _ _ [.ptr (jE zs (Jg zs c ids).2),_] _ [I (Jg zs c ids).1]at C;change bg _ _ _ _ [.ptr (jE zs (lU zs c ids).2),_] _ [I (lU zs c ids).1]at j;change 0<=(BX zs c).1/\(BX zs c).1<3 at H;change 0<=(Jg zs c ids).1/\(Jg zs c ids).1<ids at J;change 0<=(lU zs c ids).1/\(lU zs c ids).1<20 at D;have o:=bL.enc_fr (p6 zs c ids).1;unfold p6 at o |-;generalize lU zs c ids=k at *;generalize Jg zs c ids=n at *;generalize BX zs c=t at *;obtain⟨a,M⟩:=k;dsimp only at d e E F l g h G K L D j o |-;refine fM 77 [(61,[2,0]),(402,[2,1])] [] [(0,0),(0,0)] Tryz.func259 rfl (λu q=>?_) (.inr o)
 repeat'(first|refine gP ?_|(conv=>whnf);first|refine CK (B) (.inl rfl) ?_|refine CK (C) (.inl rfl) ?_|refine CK (j) (.inl rfl) ?_)
 obtain rfl|rfl|rfl|rfl|rfl|rfl|rfl|rfl|rfl|rfl|rfl|rfl|rfl|rfl|rfl|rfl|rfl|rfl|rfl|rfl:=(show a=0\/a=1\/a=2\/a=3\/a=4\/a=5\/a=6\/a=7\/a=8\/a=9\/a=10\/a=11\/a=12\/a=13\/a=14\/a=15\/a=16\/a=17\/a=18\/a=19 by omega)
 ·rw[CD (show((0:Int))<=6 by decide)]
  repeat'(first|refine gP ?_|(conv=>whnf);first|refine CK (e) (.inl rfl) ?_)
  refine CO rfl rfl ?_;exact wC
 ·rw[CD (show((1:Int))<=6 by decide)]
  repeat'(first|refine gP ?_|(conv=>whnf);first|refine CK (e) (.inl rfl) ?_)
  refine CO rfl rfl ?_;exact wC
 ·rw[CD (show((2:Int))<=6 by decide)]
  repeat'(first|refine gP ?_|(conv=>whnf);first|refine CK (e) (.inl rfl) ?_)
  refine CO rfl rfl ?_;exact wC
 ·rw[CD (show((3:Int))<=6 by decide)]
  repeat'(first|refine gP ?_|(conv=>whnf);first|refine CK (e) (.inl rfl) ?_)
  refine CO rfl rfl ?_;exact wC
 ·rw[CD (show((4:Int))<=6 by decide)]
  repeat'(first|refine gP ?_|(conv=>whnf);first|refine CK (e) (.inl rfl) ?_)
  refine CO rfl rfl ?_;exact wC
 ·rw[CD (show((5:Int))<=6 by decide)]
  repeat'(first|refine gP ?_|(conv=>whnf);first|refine CK (e) (.inl rfl) ?_)
  refine CO rfl rfl ?_;exact wC
 ·rw[CD (show((6:Int))<=6 by decide)]
  repeat'(first|refine gP ?_|(conv=>whnf);first|refine CK (e) (.inl rfl) ?_)
  refine CO rfl rfl ?_;exact wC
 ·rw[CC (show ¬((7:Int)<=6) by decide),CD (show((7:Int))<=9 by decide)]
  repeat'(first|refine gP ?_|fail)
  refine CO rfl rfl ?_;exact wC
 ·rw[CC (show ¬((8:Int)<=6) by decide),CD (show((8:Int))<=9 by decide)]
  repeat'(first|refine gP ?_|fail)
  refine CO rfl rfl ?_;exact wC
 ·rw[CC (show ¬((9:Int)<=6) by decide),CD (show((9:Int))<=9 by decide)]
  repeat'(first|refine gP ?_|fail)
  refine CO rfl rfl ?_;exact wC
 ·rw[CC (show ¬((10:Int)<=6) by decide),CC (show ¬((10:Int)<=9) by decide),CD (show((10:Int))<=12 by decide)]
  repeat'(first|refine gP ?_|(conv=>whnf);first|refine CK (g) (.inl rfl) ?_|refine CK (h) (.inl rfl) ?_)
  refine CO rfl rfl ?_;exact wC
 ·rw[CC (show ¬((11:Int)<=6) by decide),CC (show ¬((11:Int)<=9) by decide),CD (show((11:Int))<=12 by decide)]
  repeat'(first|refine gP ?_|(conv=>whnf);first|refine CK (g) (.inl rfl) ?_|refine CK (h) (.inl rfl) ?_)
  refine CO rfl rfl ?_;exact wC
 ·rw[CC (show ¬((12:Int)<=6) by decide),CC (show ¬((12:Int)<=9) by decide),CD (show((12:Int))<=12 by decide)]
  repeat'(first|refine gP ?_|(conv=>whnf);first|refine CK (g) (.inl rfl) ?_|refine CK (h) (.inl rfl) ?_)
  refine CO rfl rfl ?_;exact wC
 ·rw[CC (show ¬((13:Int)<=6) by decide),CC (show ¬((13:Int)<=9) by decide),CC (show ¬((13:Int)<=12) by decide),CD (show((13:Int))=13 by decide)]
  repeat'(first|refine gP ?_|(conv=>whnf);first|refine CK (G) (.inl rfl) ?_)
  refine CO rfl rfl ?_;exact wC
 ·rw[CC (show ¬((14:Int)<=6) by decide),CC (show ¬((14:Int)<=9) by decide),CC (show ¬((14:Int)<=12) by decide),CC (show ¬((14:Int)=13) by decide),CD (show((14:Int))=14 by decide)]
  repeat'(first|refine gP ?_|(conv=>whnf);first|refine CK (E) (.inl rfl) ?_)
  refine CO rfl rfl ?_;exact wC
 ·rw[CC (show ¬((15:Int)<=6) by decide),CC (show ¬((15:Int)<=9) by decide),CC (show ¬((15:Int)<=12) by decide),CC (show ¬((15:Int)=13) by decide),CC (show ¬((15:Int)=14) by decide),CD (show((15:Int))=15 by decide)]
  repeat'(first|refine gP ?_|fail)
  refine CO rfl rfl ?_;exact wC
 ·rw[CC (show ¬((16:Int)<=6) by decide),CC (show ¬((16:Int)<=9) by decide),CC (show ¬((16:Int)<=12) by decide),CC (show ¬((16:Int)=13) by decide),CC (show ¬((16:Int)=14) by decide),CC (show ¬((16:Int)=15) by decide),CD (show((16:Int))=16 by decide)]
  repeat'(first|refine gP ?_|(conv=>whnf);first|refine CK (F) (.inl rfl) ?_)
  refine CO rfl rfl ?_;exact wC
 ·rw[CC (show ¬((17:Int)<=6) by decide),CC (show ¬((17:Int)<=9) by decide),CC (show ¬((17:Int)<=12) by decide),CC (show ¬((17:Int)=13) by decide),CC (show ¬((17:Int)=14) by decide),CC (show ¬((17:Int)=15) by decide),CC (show ¬((17:Int)=16) by decide),CD (show((17:Int))=17 by decide)]
  repeat'(first|refine gP ?_|fail)
  refine CO rfl rfl ?_;exact wC
 ·rw[CC (show ¬((18:Int)<=6) by decide),CC (show ¬((18:Int)<=9) by decide),CC (show ¬((18:Int)<=12) by decide),CC (show ¬((18:Int)=13) by decide),CC (show ¬((18:Int)=14) by decide),CC (show ¬((18:Int)=15) by decide),CC (show ¬((18:Int)=16) by decide),CC (show ¬((18:Int)=17) by decide)]
  repeat'(first|refine gP ?_|(conv=>whnf);first|refine CK (l) (.inl rfl) ?_)
  refine CO rfl rfl ?_;exact wC
 rw[CC (show ¬((19:Int)<=6) by decide),CC (show ¬((19:Int)<=9) by decide),CC (show ¬((19:Int)<=12) by decide),CC (show ¬((19:Int)=13) by decide),CC (show ¬((19:Int)=14) by decide),CC (show ¬((19:Int)=15) by decide),CC (show ¬((19:Int)=16) by decide),CC (show ¬((19:Int)=17) by decide)]
 repeat'(first|refine gP ?_|(conv=>whnf);first|refine CK (l) (.inl rfl) ?_)
 refine CO rfl rfl ?_;exact wC
def rfs(h:ac):List Int:=h.G.w
def DG(k:am)(p:Int):(newK k p).1.w=k.w:=by unfold newK;split<;>rfl
def td(k:am)(p:Int):∀n,(newsK k p n).1.w=k.w
 | 0=>rfl
 | n+1=>by
  unfold newsK;split
  ·exact(DG _ _).trans (td k p n)
  exact td k p n
def Pa(h:ac)(i:Nat):rfs (oT h i).1=rfs h:=by unfold oT;split<;>rfl
def B2(h:ac)(t c:Nat):rfs (smallA h t c).1=rfs h:=by
 unfold smallA;split
 ·rfl
 split
 ·rfl
 split
 ·rfl
 split
 ·exact DG _ _
 exact(Pa _ _).trans (DG _ _)
def M6(h:ac)(t n:Int):rfs (allocH h t n).1=rfs h:=by
 unfold allocH;split
 ·rfl
 split
 ·rfl
 split
 ·rfl
 split
 ·rfl
 split
 ·split
  ·exact B2 _ _ _
  exact B2 _ _ _
 unfold largeA;split
 ·rfl
 split
 ·exact td _ _ _
 exact((qD _ _ _).2).trans (td _ _ _)
def PS(h:ac)(t i:Nat):rfs (freeT h t i).1=rfs h:=by
 unfold freeT;split
 ·exact(qD _ _ _).2
 split
 ·rfl
 split
 ·exact(fB t _ _).2.2.2.2.2.2.2
 split<;>rfl
def BI(t:Nat)(h:ac):∀k,rfs (flushN t h k).1=rfs h
 | 0=>rfl
 | k+1=>((fZ _ (spilt (flushN t h k).1 t k)).2.2.2.2.2.2.2).trans (BI t h k)
def Ku{h:ac}(a:aX h [])(b:JI h):∀n,rfs (stN h n).1=rfs h
 | 0=>rfl
 | n+1=>by
  obtain⟨c,d⟩:=yk a b n;unfold stN;split
  ·rename_i e
   unfold wI at e;rw[I0]at e;exact((JG c e.1).2.2.1).trans (Ku a b n)
  exact Ku a b n
def FT(h:uH w m)(a:bL):rfs (jw w a).1.Z=rfs w.Z:=by
 unfold jw;split
 ·exact M6 _ _ _
 split
 ·split
  ·rfl
  unfold mc;split
  ·unfold q7
   split
   ·rfl
   split
   ·exact PS _ _ _
   rfl
  split
  ·unfold nL
   split
   ·rfl
   split
   ·rfl
   split<;>rfl
  unfold qL;split
  ·exact((qD _ _ _).2).trans (pS _ _ _).2.2
  rfl
 split
 ·unfold iX
  split
  ·split<;>rfl
  split
  ·rfl
  split
  ·exact(fB _ _ _).2.2.2.2.2.2.2
  exact BI _ _ _
 split
 ·unfold qK
  split
  ·exact(fZ _ _).2.2.2.2.2.2.2
  rfl
 split
 ·unfold qB
  split
  ·rfl
  show rfs (started w.Z).1=_;unfold rfs;rw[(FG h.inv).2.1]
 split
 ·exact Ku h.inv h.ji _
 rfl
def Fz{c:bJ}(h:H0 c)(acts:List bL):∀n,rfs (kY c acts n).1.Z=c.w
 | 0=>rfl
 | n+1=>(FT (uB h acts n) _).trans (Fz h acts n)
def uH.fit(h:uH w m)(a:kj w.Z.G.w):ac.sml w.Z/\ac.wf w.Z:=
 ⟨(h.inv.fit a (qb.of h.inv.mail).sml).sml,h.inv.wf a⟩
def PV(zs:List Int)(c:iu):kj (pz zs c).w:=by
 show kj (pp zs 4 0 [] (EQ zs c).2).1;have key:∀(f i:Nat)(out:List Int)(c:iu),(∀x∈out,pd x)->∀x∈(pp zs f i out c).1,pd x:=by
  intro f
  induction f with
  | zero=>intro i out c h;exact h
  | succ f b=>
   intro i out c h;unfold pp;split
   ·refine b _ _ _ λx a=>?_
    rcases I4.1 a with a|a
    ·exact h x a
    rw[C2.1 a];have:=bS zs (b8 zs c 4).2 (n:=12) (by decide);exact⟨ω,ω⟩
   exact h
 exact⟨by
   have d:∀(f i:Nat)(out:List Int)(c:iu),out.length+f<=4->(pp zs f i out c).1.length<=4:=by
     intro f
     induction f with
     | zero=>intro i out c h;exact h
     | succ f b=>
       intro i out c h;unfold pp;split
       · exact b _ _ _ (by simp only[X4,List.length_singleton];omega)
       show out.length<=4;omega
   have:=d 4 0 [] (EQ zs c).2 (O4 _);omega,key 4 0 [] _ (λx a=>by cases a)⟩
def Vt(z:List Int):List C:=[.s .S (z.map rU)]
def GH(zs:List Int)(b:lV zs):sC Tryz.prog 60 true [.val none (Vt zs)] .box (jE zs (wJ zs)):=by
 have r:=b.1;have e:IntKind.i64.wrap (98801+(zs.length:Nat))=w64 (98801+(zs.length:Nat)):=rfl;have g:qQ zs 0=98801+(zs.length:Nat):=by show w64 _=_;rw[<-e];exact fJ ω ω
 have a:=C1 I g;refine V4 (n:=32) (t:=2) (mo:=[]) (tb:=[]) Tryz.func60 (by kernel_rfl) rfl (by kernel_rfl) (by rfl) rfl ?_
 repeat'(first|refine gP ?_|fail)
 (conv=>whnf)
 refine CH (ι:=Nat) (λi=>[(0,.H .one (Vt zs)),(3,.H .one [I (qQ zs i)]),(4,.H .one [I ((i:Nat):Int)])]) (λi=>i<=min zs.length 4000) (λi=>min zs.length 4000 - i) (0) ?_ (Z0 _) λi u=>?_
 ·repeat'(first|exact trivial|rfl |exact E4 a|exact eK _|refine CL ?_ ?_|(exact Jh (by first|omega|(simp only;omega)|(simp;omega))))
 have h:IntKind.i64.wrap (qQ zs i*131)=w64 (qQ zs i*131):=rfl;have j:IntKind.i64.wrap (w64 (qQ zs i*131)+nth zs i)=w64 (w64 (qQ zs i*131)+nth zs i):=rfl;have k:IntKind.i64.wrap (w64 (w64 (qQ zs i*131)+nth zs i)+7)=w64 (w64 (w64 (qQ zs i*131)+nth zs i)+7):=rfl;have l:IntKind.i64.wrap (BitVec.ofInt IntKind.i64.bits (w64 (w64 (w64 (qQ zs i*131)+nth zs i)+7)) &&& BitVec.ofInt IntKind.i64.bits 1073741823).toNat=qQ zs (i+1):=rfl;by_cases c:i<zs.length/\i<4000
 ·have d:=ax c.1
  have w:=b.2 _ (au c.1);generalize qQ zs i=H at *;generalize o:qQ zs (i+1)=H2 at *
  repeat'(first|refine gE ?_|(conv=>whnf);first|with_reducible (first|refine CF (aa d) ?_|refine CM h ?_|refine CM j ?_|refine CM k ?_|refine CM l ?_)|refine CJ rfl (aa d) rfl ?_)
  ((conv=>whnf);refine CG (i+1) ω ω ?_)
  rw[o];exact wC
 obtain rfl:i=min zs.length 4000:=ω
 have p:wJ zs = ⟨0,qQ zs (min zs.length 4000)⟩:=rfl;rw[p];generalize qQ zs (min zs.length 4000)=H at *
 repeat'(first|refine gE ?_|(conv=>whnf);first|with_reducible refine Bf.D (λq=>?_) (λq=>?_))
 all_goals rfl
set_option maxHeartbeats 2000000
set_option maxHeartbeats 2000000
set_option maxHeartbeats 2000000
set_option maxHeartbeats 2000000
set_option maxHeartbeats 2000000
set_option maxHeartbeats 2000000
def U7(zs:List Int)(a:zs.length<=9223372036854775807):zzA 14 false [.val none (Vt zs)] .one [B (decide ((zs.length:Int) > 1048576))]:=by
 refine fO 6 [] Tryz.func14 rfl ?_
 repeat'(first|refine gP ?_|fail)
 rfl
set_option maxHeartbeats 2000000
def jA(r:aI)(c:aI.sml r):zzA 403 false [.val (some 2) (aI.enc .S r)] .agg (aI.enc .own r):=by
 have e:r.O.length<=1048576:=c.1;refine fO 29 [(5,264,[16,17,18,19,20,21,22,26,0,1,2,3,4,5,6,7,1000,1001,8,1000,1001,9,10,11])] Tryz.func403 rfl ?_ (.inr (aI.enc_fr _))
 repeat'(first|refine gP ?_|(conv=>whnf);first|refine CE ?_)
 (conv=>whnf)
 refine CH (ι:=Nat) (λi=>[(2,.H .box [I 0,.z]),(3,.H .box [I r.b,.s .own ((r.O.take i).map (aQ.enc .own))]),(10,.H .one ([.s .S (r.O.map (aQ.enc .S))])),(11,.H .one [I (r.O.length)]),(12,.H .one [I ((i:Nat):Int)])]) (λi=>i<=r.O.length) (λi=>r.O.length - i) (0) ?_ (Z0 _) λi g=>?_
 ·exact wC
 by_cases a:i<r.O.length
 ·have d:=ax a
  have b:(nth r.O i).V.length<=1048576:=c.2 _ (au a)
  repeat'(first|refine gE ?_|(conv=>whnf);first|with_reducible refine CF (aa d) ?_|refine CE ?_|refine CJ rfl (aa d) rfl ?_|refine CB (ef (nth r.O i).V b) ?_|refine Ap.sn (aS λ_=>rfl) rfl (by simp;omega) (by decide) (fk a) ?_|refine CE ?_)
  ((conv=>whnf);refine CG (i+1) ω ω ?_;(exact wC))
 repeat'(first|refine gE ?_|(conv=>whnf);first|refine CE ?_)
 obtain rfl:i=r.O.length:=ω
 rw[I7]
 rfl
def yi(w:bj)(h1:ac.sml w.Z)(a:aI.sml w.b2):zzA 261 false [.val (some 26) (bj.enc .S w)] .agg (bj.enc .own w):=by
 have b:=i7 w.Z h1;have c:=jA w.b2 a;refine fO 10 [(1,5,[3,4,5,6,7])] Tryz.func261 rfl ?_ (.inr (bj.enc_fr _))
 repeat'(first|refine gP ?_|(conv=>whnf);first|refine CE ?_|refine CB (b) ?_|refine CB (c) ?_|refine CE ?_)
 rfl
def tD(o:aU)(a:bL):zzA 263 false [.val (some 4) (aU.enc .S o),.ptr (bL.enc .S a)] .one [B (dP a.N o)]:=by
 refine fO 9 [] Tryz.func263 rfl ?_
 repeat'(first|refine gP ?_|(conv=>whnf);first|refine CE ?_)
 exact C1 (λz=>[B z]) ((by unfold dP;rw[Y6];simp))
def jK(sp:List aA)(ps:List Int)(b:Int):Nat->Int
 | 0=>b
 | j+1=>if(nth sp j).R∈ps then bor (jK sp ps b j) (nth sp j).a8 else jK sp ps b j
def xm{sp:List aA}(h:∀s∈sp,bh s=true){ps:List Int}{b:Int}(a:0<=b/\b<=65535):∀j,j<=sp.length->0<=jK sp ps b j/\jK sp ps b j<=65535
 | 0,_=>a
 | j+1,d=>by
  have c:=xm h (ps:=ps) a j ω;simp only[jK];split
  ·exact Kl c (qm h ω)
  exact c
def qY(h:ac)(i:Nat)(n:fL h.K)(c:FE h)(a:∀s∈h.K,bh s=true)(t:i<h.K.length):zzA 336 false [.val (some 24) (ac.enc .S h),.val none [I (i:Nat)]] .one [I (jK h.K (bB h (nth h.K i).R) (nth h.K i).a8 h.K.length)]:=by
 have C:=n.1;have u:=ax t;have d:=qm a t;have w:=aG ((i:Nat):Int) 0 ((h.K.length:Int) - 1);rw[O0 (show(0:Int)<=(i:Nat)/\((i:Nat):Int)<=(h.K.length:Int) - 1 by omega)]at w;have y:=ll h (nth h.K i).R c;have o:=ku h (nth h.K i).R;have D:gY h<=1048576:=c.1;obtain⟨ps,p⟩ : ∃ps,bB h (nth h.K i).R=ps:=⟨_,rfl⟩
 obtain⟨b,q⟩ : ∃b,(nth h.K i).a8=b:=⟨_,rfl⟩
 rw[p]at y o |-;rw[q]at d |-;have E:jK h.K ps b 0=b:=rfl;refine fO 47 [(4,7,[22,23,24,25,26,27,28])] Tryz.func336 rfl ?_
 repeat'(first|refine gP ?_|(conv=>whnf);first|with_reducible refine CF (aa u) ?_|refine CB (w) ?_|refine CB (y) ?_|refine CJ rfl (aa u) rfl ?_)
 (conv=>whnf)
 refine CH (ι:=Nat) (λj=>[(5,.H .one [I (jK h.K ps b j)]),(6,.H .one (aJ .own ps)),(31,.H .one (cw .S h.K)),(32,.H .one [I ((h.K.length:Nat))]),(33,.H .one [I ((j:Nat):Int)])]) (λj=>j<=h.K.length) (λj=>h.K.length - j) (0) ?_ (Z0 _) λj F=>?_
 ·exact wC
 by_cases B:j<h.K.length
 ·have k:=ax B
  have r:=xm a (ps:=ps) d j F;have l:=rv ps (nth h.K j).R ω;by_cases e:(nth h.K j).R∈ps
  ·have g:jK h.K ps b (j+1)=bor (jK h.K ps b j) (nth h.K j).a8:=CD e
   rw[O0 e]at l
   repeat'(first|refine gE ?_|(conv=>whnf);first|with_reducible refine CF (aa k) ?_|refine CJ rfl (aa k) rfl ?_|refine CM (or64 r (qm a B)) ?_|refine CN (l) ⟨⟨rfl,dm _⟩,⟨rfl,rfl⟩,trivial⟩ ?_)
   ((conv=>whnf);refine CG (j+1) ω ω ?_;(exact wC))
  have g:jK h.K ps b (j+1)=jK h.K ps b j:=CC e;rw[X0 e]at l
  repeat'(first|refine gE ?_|(conv=>whnf);first|with_reducible refine CF (aa k) ?_|refine CJ rfl (aa k) rfl ?_|refine CN (l) ⟨⟨rfl,dm _⟩,⟨rfl,rfl⟩,trivial⟩ ?_)
  ((conv=>whnf);refine CG (j+1) ω ω ?_;(exact wC))
 obtain rfl:j=h.K.length:=ω
 repeat'(first|refine gE ?_|fail)
 rfl
def Qx(a b:Int)(k:Nat):(bor a b).toNat.testBit k=true↔a.toNat.testBit k=true\/b.toNat.testBit k=true:=by
 unfold bor;rw[Z3,Nat.testBit_or,Y8]
def KV(sp:List aA)(p b:Int)(k:Nat):∀j,(w5 sp p b j).toNat.testBit k=true↔b.toNat.testBit k=true\/∃i,i<j/\(nth sp i).R=p/\(nth sp i).a8.toNat.testBit k=true
 | 0=>by simp[w5]
 | j+1=>by
  have g:=KV sp p b k j;simp only[w5];split
  ·rename_i e
   rw[Qx,g];constructor
   ·rintro((h|⟨i,d,a,c⟩)|h)
    ·exact .inl h
    ·exact .inr ⟨i,ω,a,c⟩
    exact .inr ⟨j,ω,e,h⟩
   rintro(h|⟨i,d,a,c⟩)
   ·exact .inl (.inl h)
   by_cases f:i=j
   ·subst f;exact .inr c
   exact .inl (.inr ⟨i,ω,a,c⟩)
  rename_i e;rw[g];constructor
  ·rintro(h|⟨i,d,a,c⟩)
   ·exact .inl h
   exact .inr ⟨i,ω,a,c⟩
  rintro(h|⟨i,d,a,c⟩)
  ·exact .inl h
  by_cases f:i=j
  ·subst f;exact absurd a e
  exact .inr ⟨i,ω,a,c⟩
def Hz(sp:List aA)(ps:List Int)(b:Int)(k:Nat):∀m,(nG sp ps b m).toNat.testBit k=true↔b.toNat.testBit k=true\/∃u,u<m/\∃i,i<sp.length/\(nth sp i).R=nth ps u/\(nth sp i).a8.toNat.testBit k=true
 | 0=>by simp[nG]
 | m+1=>by
  have c:=Hz sp ps b k m;simp only[nG];rw[KV,c];constructor
  ·rintro((h|⟨u,d,a⟩)|h)
   ·exact .inl h
   ·exact .inr ⟨u,ω,a⟩
   exact .inr ⟨m,ω,h⟩
  rintro(h|⟨u,d,a⟩)
  ·exact .inl (.inl h)
  by_cases e:u=m
  ·subst e;exact .inr a
  exact .inl (.inr ⟨u,ω,a⟩)
def Gt(sp:List aA)(ps:List Int)(b:Int)(k:Nat):∀j,(jK sp ps b j).toNat.testBit k=true↔b.toNat.testBit k=true\/∃i,i<j/\(nth sp i).R∈ps/\(nth sp i).a8.toNat.testBit k=true
 | 0=>by simp[jK]
 | j+1=>by
  have g:=Gt sp ps b k j;simp only[jK];split
  ·rename_i e
   rw[Qx,g];constructor
   ·rintro((h|⟨i,d,a,c⟩)|h)
    ·exact .inl h
    ·exact .inr ⟨i,ω,a,c⟩
    exact .inr ⟨j,ω,e,h⟩
   rintro(h|⟨i,d,a,c⟩)
   ·exact .inl (.inl h)
   by_cases f:i=j
   ·subst f;exact .inr c
   exact .inl (.inr ⟨i,ω,a,c⟩)
  rename_i e;rw[g];constructor
  ·rintro(h|⟨i,d,a,c⟩)
   ·exact .inl h
   exact .inr ⟨i,ω,a,c⟩
  rintro(h|⟨i,d,a,c⟩)
  ·exact .inl h
  by_cases f:i=j
  ·subst f;exact absurd a e
  exact .inr ⟨i,ω,a,c⟩
def NY(h:∀s∈sp,bh s=true){ps:List Int}{b:Int}(f:0<=b/\b<=65535):jK sp ps b sp.length=nG sp ps b ps.length:=by
 have a:=xm h (ps:=ps) f sp.length (O4 _);have c:=qa h (ps:=ps) f ps.length;have e:(jK sp ps b sp.length).toNat=(nG sp ps b ps.length).toNat:=by
  apply Nat.eq_of_testBit_eq;intro k;rw[Y6,Gt,Hz];constructor
  ·rintro(h|⟨i,a,c,d⟩)
   ·exact .inl h
   obtain⟨u,g⟩:=List.getElem?_of_mem c;exact .inr ⟨u,(O3.1 g).1,i,a,(bk g).symm,d⟩
  rintro(h|⟨u,a,i,c,d,j⟩)
  ·exact .inl h
  exact .inr ⟨i,c,by rw[d];exact au a,j⟩
 omega
def vQ(a:∀s∈h.K,bh s=true)(b:i<h.K.length):jK h.K (bB h (nth h.K i).R) (nth h.K i).a8 h.K.length=gk h i:=NY a (qm a b)
def zL(h:ac)(a:∀o∈h.O,0<=o.q/\o.q<=1000)(e:h.O.length<=1048576):zzA 18 false [.val (some 24) (ac.enc .S h)] .one [I (vz h)]:=by
 refine fO 19 [] Tryz.func18 rfl ?_
 repeat'(first|refine gP ?_|fail)
 (conv=>whnf)
 refine CH (ι:=Nat) (λk=>[(3,.H .one [I (u6 h.O k)]),(7,.H .one (ml .S h.O)),(8,.H .one [I (h.O.length)]),(9,.H .one [I ((k:Nat):Int)])]) (λk=>k<=h.O.length) (λk=>h.O.length - k) (0) ?_ (Z0 _) λk d=>?_
 ·exact wC
 have g:=uF a k d;by_cases b:k<h.O.length
 ·have c:=ax b
  have i:=a _ (au b)
  repeat'(first|refine gE ?_|(conv=>whnf);first|refine CF (aa c) ?_|refine CJ rfl (aa c) rfl ?_)
  ((conv=>whnf);refine CG (k+1) ω ω ?_;(exact wC))
 obtain rfl:k=h.O.length:=ω
 repeat'(first|refine gE ?_|fail)
 rfl
def pH(k b:Int)(e:b<=9223372036854775807):zzA 334 false [.val none [I (slots k)],.val none [I b]] .one (aJ .own (rR k b)):=by
 have c:=rp k b;have n:0<=slots k/\slots k<=16:=by unfold slots;repeat' split<;>omega
 unfold rR;cases g:P9 k b<;>rw[g]at c
 ·rw[CC (by simp)]
  refine fO 26 [] Tryz.func334 rfl ?_ (.inr (bQ _))
  repeat'((conv=>whnf);first|with_reducible (first|refine Lm ?_|refine Wm ω ?_|refine Bn ?_|refine js.wk rfl ?_)|refine Bt ?_|refine Bu ?_|refine CB (c) ?_)
  all_goals exact⟨rfl,trivial⟩
 rw[CD rfl];refine fO 26 [] Tryz.func334 rfl ?_ (.inr (bQ _))
 repeat'(first|refine gP ?_|(conv=>whnf);first|refine CB (c) ?_)
 (conv=>whnf)
 refine CH (ι:=Nat) (λj=>[(0,.H .one [I (slots k)]),(1,.H .one [I (b)]),(5,.H .one (aJ .own (pG b j))),(6,.H .one [I ((j:Nat):Int)])]) (λj=>j<=(slots k).toNat) (λj=>(slots k).toNat - j) (0) ?_ (Z0 _) λj o=>?_
 ·exact wC
 have h:=ve b j;by_cases p:j<(slots k).toNat
 ·have d:=hC b (j:Nat) e
  have a:pG b (j+1)=if aT b (j:Nat)=true then pG b j else pG b j++[((j:Nat):Int)]:=rfl
  cases i:aT b (j:Nat)<;>rw[i]at d a
  ·rw[CC (by simp)]at a
   repeat'(first|refine gE ?_|(conv=>whnf);first|refine CB (d) ?_|refine CU dU (λr l=>by rw[C2.1 l];rfl) (by simp[bp,fx]) (by simp;omega) (by simp only[O1];exact Eh (by simp;omega) (by decide)) rfl ?_)
   ((conv=>whnf);refine CG (j+1) ω ω ?_)
   rw[a]
   repeat'(first|exact trivial|rfl| exact eK _ |exact CL rfl (CL (C1 (C.s dQ.own) (by simp[rI])) trivial)|refine CL ?_ ?_|(exact Jh (by first|omega|(simp only;omega)|(simp;omega))))
  rw[CD rfl]at a
  repeat'(first|refine gE ?_|(conv=>whnf);first|refine CB (d) ?_)
  ((conv=>whnf);refine CG (j+1) ω ω ?_)
  rw[a];exact wC
 obtain rfl:j=(slots k).toNat:=ω
 repeat'(first|refine gE ?_|fail)
 rfl
def Ao(b i:Int)(d:0<=b/\b<=65535)(a:0<=i/\i<=15):zzA 338 false [.val none [I b],.val none [I i]] .one [I (jB b i)]:=by
 have c:=qw b i;rw[O0 ω]at c;have e:=(or64 (z1:=b) (z2:=2 ^ i.toNat) d (by have:=shl64 a;omega)).trans (NH b i);refine fO 14 [] Tryz.func338 rfl ?_
 repeat'(first|refine gP ?_|(conv=>whnf);first|refine CB (c) ?_|refine CQ ω ?_|refine CM (shl64 a).1 ?_|refine CM e ?_)
 rfl
def B0(f:bi)(i:Nat):bi.enc .own ⟨f.V,f.a4.set i true⟩ = [.s .own (f.V.map (aJ .own)),.s .own ((f.a4.map (rB .own)).set i (rB .own true))]:=by
 simp[bi.enc,X8]
def wj(f:bi):bi × Int × Bool:=
 if cF (λu=>!u) f.a4<0 then(f,-1,false) else(⟨f.V,f.a4.set (cF (λu=>!u) f.a4).toNat true⟩,cF (λu=>!u) f.a4,true)
def x6(f:bi)(l:dA f=true)(b:bi.sml f):zzA 460 false [.val (some 2) (bi.enc .S f)] (.tup [some 2,none,none]) (bi.enc .own (wj f).1++[I (wj f).2.1,B (wj f).2.2]):=by
 have n:=oH f b;have h:=rn f b;rw[l]at h;have p:f.a4.length<=1048576:=b.2;refine fO 30 [] Tryz.func460 rfl ?_ (.inr (aD (bi.enc_fr _) ⟨trivial,trivial,trivial⟩))
 repeat'(first|refine gP ?_|(conv=>whnf);first|refine CB (n) ?_|refine CB (h) ?_)
 (conv=>whnf)
 refine CH (ι:=Nat) (λi=>[(2,.H .box [.z,.z]),(5,.H .box (bi.enc .own f)),(13,.H .one (PE .S f.a4)),(14,.H .one [I (f.a4.length)]),(15,.H .one [I ((i:Nat):Int)])]) (λi=>i<=f.a4.length/\∀(j:Nat)(z:Bool),j<i->f.a4[j]? = some z->(!z)=false) (λi=>f.a4.length - i) (0) ?_ (⟨Z0 _,λj z q=>ω⟩) λi k=>?_
 ·exact wC
 obtain⟨k,c⟩:=k;by_cases o:i<f.a4.length
 ·have a:=ax o
  cases e:nth f.a4 i<;>rw[e]at a
  ·have d:cF (λu=>!u) f.a4=(i:Nat):=eD a rfl c
   have g:wj f=((⟨f.V,f.a4.set i true⟩ : bi),((i:Nat):Int),true):=by unfold wj;rw[d,CC ω];rfl
   rw[g];simp only;rw[B0]
   repeat'(first|refine gE ?_|(conv=>whnf);first|with_reducible refine CF (aa a) ?_|refine CR rfl rfl (aa a) rfl (Z1 rfl) rfl ?_)
   rfl
  repeat'(first|refine gE ?_|(conv=>whnf);first|with_reducible refine CF (aa a) ?_)
  ((conv=>whnf);refine CG (i+1) ⟨ω,iE a rfl c⟩ ω ?_;(exact wC))
 have d:cF (λu=>!u) f.a4 = -1:=gQ ω c;have g:wj f=(f,-1,false):=by unfold wj;rw[d];rfl
 rw[g]
 repeat'(first|refine gE ?_|fail)
 rfl
def dK.fzAt{w:World}{S F:ah}{o:dQ}{v:Value}(h:dK w S F (.s o rows) v)(ho:o≠.S){r:List C}(D:rows[k]? = some r) :
  ∃V:ah,(∀b q,V b q->F b q)/\dK w (λb q=>S b q\/V b q) (λb q=>F b q/\¬V b q) (.s o (rows.set k (ed r))) v:=by
 cases h with
 | nil=>simp at D
 | S=>exact absurd rfl ho
 | own _ _ g K n O _ u f P Q M E G X hu N Y Z=>
  have A:k<n:=by have:=(O3.1 D).1;omega
  have hq:∀j,j<K->(k*K+j) / K=k:=λj a=>by
   rw[Nat.mul_comm,Nat.mul_add_div ω,Nat.div_eq_of_lt a,Nat.add_zero]
  refine⟨λb q=>∃j,j<K/\f (k*K+j) b q,λb q ⟨j,a,l⟩=>(N _ (dR A a) b q l).1,?_⟩;refine .own _ o g K n O _ u (λq=>if q / K=k then NO else f q) P (by simpa using Q) (λr' R=>?_) E G (λq d=>⟨⟨(X q d).1,λ⟨j,a,l⟩=>(N _ (dR A a) _ _ l).2 ⟨rfl,d⟩⟩,(X q d).2⟩) hu (λq d b y l=>?_) (λq T h1 h2 h3 b y H J=>?_) (λi j r' c L a=>?_)
  ·rcases C9 R with h|rfl
   ·exact M _ h
   rw[cg,O1];exact M _ (Z2 D)
  ·replace l:(if q / K=k then NO else f q) b y:=l
   split at l
   ·exact l.elim
   rename_i B;refine⟨⟨(N q d b y l).1,λ⟨j,a,U⟩=>Y q (k*K+j) d (dR A a) (λe=>B (by rw[e];exact hq j a)) b y l U⟩,(N q d b y l).2⟩
  ·replace H:(if q / K=k then NO else f q) b y:=H
   replace J:(if T / K=k then NO else f T) b y:=J;split at H
   ·exact H.elim
   split at J
   ·exact J.elim
   exact Y q T h1 h2 h3 b y H J
  by_cases e:i=k
  ·subst e
   have W:(rows.set i (ed r))[i]? = some (ed r):=by
    rw[C5 ω]
   rw[W]at L;obtain rfl:=Option.some.inj L;rw[cg,S4]at a;cases p:r[j]? with
   | none=>rw[p]at a;cases a
   | some c'=>
    rw[p]at a;simp only[O7,I1]at a;subst a;have t:=(rX Q M D p).2;show dK w _ (if(i*K+j) / K=i then NO else f (i*K+j)) _ _;rw[CD (hq j t)];exact(Z i j r c' D p).freeze.mono (λb o h=>h.elim .inl λh=>.inr ⟨j,t,h⟩) (λ_ _ h=>h)
  rw[List.getElem?_set_ne ω]at L;have t:=(rX Q M L a).2;have B:¬(i*K+j) / K=k:=by
   rw[Nat.mul_comm,Nat.mul_add_div ω,Nat.div_eq_of_lt t,Nat.add_zero];exact e
  show dK w _ (if(i*K+j) / K=k then NO else f (i*K+j)) _ _;rw[CC B];exact(Z i j r' c L a).mono (λ_ _ h=>.inl h) (λ_ _ h=>h)
def cK.fzAt{w:World}{S F:ah}{cs:List C}{u:Nat->Value}(h:cK w S F cs u){off:Nat}{o:dQ}(B:cs[off]? = some (.s o rows))(G:o≠.S){r:List C}(H:rows[k]? = some r) :
  ∃V:ah,(∀b q,V b q->F b q)/\cK w (λb q=>S b q\/V b q) (λb q=>F b q/\¬V b q) (cs.set off (.s o (rows.set k (ed r)))) u:=by
 obtain⟨f,D,y,t⟩:=h;have i:=(O3.1 B).1;obtain⟨V,E,J⟩:=(D off _ B).fzAt G H;refine⟨V,λb q A=>y off i b q (E b q A),λj=>if j=off then(λb q=>f off b q/\¬V b q) else f j,λj c g=>?_,λj g b q d=>?_,λj p g l n b q d a=>?_⟩
 ·by_cases e:j=off
  ·subst e
   rw[C5 i]at g;obtain rfl:=Option.some.inj g;simpa using J
  rw[List.getElem?_set_ne ω]at g;show dK w _ (if j=off then _ else f j) _ _;rw[CC e];exact(D j c g).mono (λ_ _ h=>.inl h) (λ_ _ h=>h)
 ·rw[I2]at g
  replace d:(if j=off then(λb q=>f off b q/\¬V b q) else f j) b q:=d;split at d
  ·exact⟨y off i b q d.1,d.2⟩
  rename_i e;exact⟨y j g b q d,λA=>t j off g i e b q d (E b q A)⟩
 rw[I2]at g l;replace d:(if j=off then(λb q=>f off b q/\¬V b q) else f j) b q:=d;replace a:(if p=off then(λb q=>f off b q/\¬V b q) else f p) b q:=a;split at d
 ·rename_i e
  rw[CC ω]at a;exact t j p g l n b q (e ▸ d.1) a
 split at a
 ·rename_i e
  exact t j p g l n b q d (e ▸ a.1)
 exact t j p g l n b q d a
variable{rcs:List C}
def ar.fzAt{P:Program}{sh:Bool}{A:List RA}{k:Kd}(h:ar P f sh A k rcs){off:Nat}{o:dQ}(g:rcs[off]? = some (.s o rows))(i:o≠.S){j:Nat}{r:List C}(l:rows[j]? = some r) :
  ar P f sh A k (rcs.set off (.s o (rows.set j (ed r)))):=by
 obtain⟨n,p⟩:=h;refine⟨n,λw S t u y=>(p w S t u y).mono λe w1 B=>?_⟩;obtain⟨v,D,E,X,S1,d,F,G,H,J⟩:=B;obtain⟨V,K,L⟩:=J.fzAt g i l;refine⟨v,D,E,_,_,λb q c=>d b q c.1,λb q c=>?_,λb q c a=>?_,by rw[I2];exact H,L⟩
 ·rcases c with c|c
  ·exact F b q c
  exact .inr (d b q (K b q c))
 rcases a with a|a
 ·exact G b q c.1 a
 exact c.2 a
def bg.noS{P:Program}{A B:List MA}{k:Kd}(h:bg P f true A B k rcs)(d:∀(w:World)(S:ah)(V:Nat->ah)(vs:List Value),NM w S V A vs->NM w NO V A vs):bg P f false A B k rcs:=by
 obtain⟨g,j⟩:=h;refine⟨g,λw S V vs L l c n=>(j w NO V vs (λ_ _ h=>h.elim) (λi b o a=>⟨(l i b o a).1,λh=>h.elim⟩) c (d w S V vs n)).mono λe w1 p=>?_⟩;obtain⟨v,q,r,X,t,S1,u,y,D,E,F,G,H,J,K,a10⟩:=p;exact⟨v,q,r,X,t,S1,u,y,λb o a=>(D b o a).elim (λh=>h.2.elim) .inr,E,F,G,H,J,K,a10.mono λb o a=>a.elim (λh=>h.elim) .inr⟩
def VX(c:aE)(k:Nat):List C:=if 0<(nth c.a k).length then [.s .own ((c.a.map (aJ .own)).set k (aJ .S ((nth c.a k).take ((nth c.a k).length - 1)))),I (nth (nth c.a k) ((nth c.a k).length - 1)),B true] else aE.enc .own c++[I (-1),B false]
def yM(c:aE)(k:Nat)(r:bI c=true)(P:k<=3):zzB 186 false [.mut (some 1) (aE.enc .own c),.val none [I (k:Nat)]] [.mut (some 1) (aE.enc .own c),.val none [I (k:Nat)]] (.tup [some 1,none,none]) (VX c k):=by
 obtain⟨Q,t⟩:=eN r;have d:aE.sml c:=⟨ω,λl C=>by have:=t l C;show l.length<=1048576;omega⟩
 have e:=se c k d;rw[r,O0 ω]at e;have a:=qv (c:=c) (k:=k) ω;have D:=t _ (au (xs:=c.a) (i:=k) ω);refine bg.noS ?_ λw S V E F=>?_
 case refine_2=>
  match E,F with
  | [v,R],⟨⟨G,u,H,J⟩,⟨K,L,M,N⟩,_⟩=>
   exact⟨⟨G,u,H,J.fresh (aE.enc_fr c)⟩,⟨K,L,M,N.fresh ⟨trivial,trivial⟩⟩,trivial⟩
 unfold VX;by_cases y:0<(nth c.a k).length
 ·rw[CD y]
  have g:zzA 182 false [.val (some 1) (aE.enc .S c)] .agg [.s .own ((c.a.map (aJ .own)).set k (aJ .S (nth c.a k)))]:=by
   have h:=(gN c d).fzAt (off:=0) (o:=.own) (rows:=c.a.map (aJ .own)) rfl (by simp) (j:=k) (aa a);rw[dm]at h;exact h
  have n:((c.a.map (aJ .own)).set k (aJ .S (nth c.a k)))[k]? = some (aJ .S (nth c.a k)):=C5 (by rw[O1];omega);have B:=ax (xs:=nth c.a k) (i:=(nth c.a k).length - 1) ω;have b:(nth c.a k)[(((nth c.a k).length:Int) - 1).toNat]? = some (nth (nth c.a k) ((nth c.a k).length - 1)):=by rw[show(((nth c.a k).length:Int) - 1).toNat=(nth c.a k).length - 1 by omega];exact B
  have p:((((nth c.a k).length:Nat):Int) - 1)=(((nth c.a k).length - 1:Nat):Int):=ω
  have O:((c.a.map (aJ .own)).set k (aJ .S (nth c.a k))).set k (aJ .S ((nth c.a k).take ((nth c.a k).length - 1)))=(c.a.map (aJ .own)).set k (aJ .S ((nth c.a k).take ((nth c.a k).length - 1))):=List.set_set ..;rw[<-O];refine fM 54 [] [(6,10,[41,42,43,44,45,46,47,48,49,50])] [(2,0),(0,0)] Tryz.func186 rfl (λu q=>?_) (.inl rfl)
  repeat'(first|refine gB ?_|(conv=>whnf);first|with_reducible refine CF (aa a) ?_|refine CJ rfl (aa a) rfl ?_|refine CJ rfl n rfl ?_|refine CN (e) ⟨⟨rfl,Cb c⟩,⟨rfl,rfl⟩,trivial⟩ ?_|refine CN (g) ⟨⟨rfl,Cb c⟩,trivial⟩ ?_|refine CP ω (aa b) ?_|refine CF (aa B) ?_|refine CF n ?_|refine Rw.two rfl (aa a) rfl rfl (aa b) rfl ?_|refine Sl.pre ((nth c.a k).length - 1) p (by rw[O1];omega) (aS λ_=>rfl) (UU _ _) ?_|refine CE ?_|refine CR rfl rfl n rfl (Z1 rfl) rfl ?_)
  refine CO rfl rfl ?_;exact wC
 rw[CC y];have g:=gN c d;refine fM 54 [] [(6,10,[41,42,43,44,45,46,47,48,49,50])] [(2,0),(0,0)] Tryz.func186 rfl (λu q=>?_) (.inl rfl)
 repeat'(first|refine gB ?_|(conv=>whnf);first|with_reducible refine CF (aa a) ?_|refine CJ rfl (aa a) rfl ?_|refine CN (e) ⟨⟨rfl,Cb c⟩,⟨rfl,rfl⟩,trivial⟩ ?_|refine CN (g) ⟨⟨rfl,Cb c⟩,trivial⟩ ?_)
 refine CO rfl rfl ?_;exact wC
set_option maxRecDepth 100000
def GZ:∀w,(zeroValue 325).run Tryz.prog w=.ok (.agg #[.int .i64 0,.slice none 0 0]) w:=λ_=>by kernel_rfl
def zX:vd Tryz.prog 503 2:=by
 refine⟨⟨_,Tryz.func503,by kernel_rfl,by kernel_rfl⟩,λw g n c i news r y o B C b=>?_⟩;obtain⟨A,W,a⟩:=tp o y r B;have a:Hid (∀t u,news[t]? = some u->w.drew.cell? (A.add t)=some u):=a;have S:Hid (news.length=(n - (i+1))*2):=o;have X:Hid (∀u∈news,u.oneCell'=true):=C;have Y:Hid (∀t,t<news.length->(w.drew.cell? ⟨g,0+i*2+t,none⟩).isSome=true/\w.drew.frozen? ⟨g,0+i*2+t,none⟩ = false):=λt ht=>by
  rw[W9];exact b (i*2+t) ω
 obtain⟨p,d⟩ : ∃p,p=w.drew.setCells g (0+i*2) news:=⟨_,rfl⟩
 have K:∀q,q<n*2->(p.cell? ⟨g,q,none⟩).isSome=true/\p.frozen? ⟨g,q,none⟩ = false:=λq T=>by
  have D:∀j,j<news.length->∃z,cel w.drew g (0+i*2+j)=some z:=λj L=>by
   have:=(b (0+i*2+j) ω).1;exact Option.isSome_iff_exists.1 this
  refine⟨?_,by rw[d];exact(C1 Prod.fst (bM g _ news w.drew g q)).trans (b q T).2⟩;rw[d];by_cases h:0+i*2<=q/\q<0+i*2+news.length
  ·have:=bo D (I3 (show q - (0+i*2)<news.length by omega))
   rw[show 0+i*2+(q - (0+i*2))=q by omega]at this;show(cel _ g q).isSome=true;rw[this];rfl
  show(cel _ g q).isSome=true;rw[aW (λx=>h x.2)];exact(b q T).1
 obtain⟨zs,E,F,G⟩:=tG (P:=Tryz.prog) p 53 325 2 (.agg #[.int .i64 0,.slice none 0 0]) Tryz.underlying53 GZ rfl (by intro v U;simp[Value.cells]at U;rcases U with rfl|rfl<;>rfl) g ((i+(n - (i+1)))*2) (n - (i+(n - (i+1)))) ω (by decide) (λj L=>(K _ ω).1) (λj L=>(K _ ω).2);have k:Hid (zs.length=(n - (i+(n - (i+1))))*2):=E;have H:Hid (∀v∈zs,v.oneCell'=true):=F;have V:Hid (p=w.drew.setCells g (0+i*2) news):=d;have Z:i<=c:=ω
 have M:i+1<=c:=ω
 have N:¬i=i+1:=ω
 have O:i+1<=n:=r;have l:n - 1=i+(n - (i+1)):=ω
 clear d K b B C o E F;rw[l];generalize L:i+1=j at W a S G k M N O l |-;obtain⟨J,Q,R⟩ : ∃J,Tryz.prog.info? 325=some J/\J.size=2:=by
  have h:=(mF 325 _ rfl).1;cases e : Tryz.prog.info? 325 with
  | none=>rw[e]at h;cases h
  | some x=>rw[e]at h;simp only[O7,I1,Prod.mk.injEq]at h;exact⟨x,rfl,h.2.1⟩
 have mixed : Tryz.prog.follows .mixedOrders=true:=by kernel_rfl
 go_enter Tryz.func503,Tryz.ntmps503
 go_wp2_with fail
 go_region_law_o (refine step_append_room rfl (.tmp 22) (.tmp 25) 53 rfl 325 J 2 Tryz.underlying53 Q R g 0 i c (by simp[Act.eval,Act.put]) A (n - j) (c - j) news (by simp[Act.eval,Act.put]) S.out a.out X.out ω Y.out ?_;rw[<-V.out])
 go_wp2
 go_ret
 refine⟨rfl,zs,by have:=k.out;omega,H.out,?_⟩;rw[V.out,W9]
def zU(xs:List aQ)(i:Nat)(a:i<xs.length):zzB 503 false [.mut none [.s .own (xs.map (aQ.enc .own))],.val none [I (i:Nat)],.val none [I ((i+1:Nat):Int)]] [.mut none [.x],.val none [I (i:Nat)],.val none [I ((i+1:Nat):Int)]] .one [oE ((dele xs i).map (aQ.enc .own))]:=by
 have h:=xQ zX (rows:=xs.map (aQ.enc .own)) (i:=i) (by rw[O1];exact a) (aS λ_=>rfl) (bc _ _ λx _=>aQ.enc_fr x)
 rwa [show dele (xs.map (aQ.enc .own)) i=(dele xs i).map (aQ.enc .own) by simp[dele,Y5,Z5]]at h
def vq(xs:List aQ)(pr:aQ->Bool)(g:xs.length<=9223372036854775807):zzA 565 false [.val none ([.s .S (xs.map (aQ.enc .S))]),.fn (kI Tryz.prog (nl (some 2) (aQ.enc .S) pr xs))] .one [I (cF pr xs)]:=by
 refine fO 19 [] Tryz.func565 rfl ?_
 repeat'(first|refine gP ?_|(conv=>whnf);first|refine CE ?_)
 (conv=>whnf)
 refine CH (ι:=Nat) (λi=>[(0,.H .one ([.s .S (xs.map (aQ.enc .S))])),(1,.fv (kI Tryz.prog (nl (some 2) (aQ.enc .S) pr xs))),(7,.H .one [I xs.length]),(8,.H .one [I (i:Nat)])]) (λi=>i<=xs.length/\∀(j:Nat)(z:aQ),j<i->xs[j]? = some z->pr z=false) (λi=>xs.length - i) 0 ?_ ⟨Z0 _,λj z h=>ω⟩ λi d=>?_
 ·exact wB
 obtain⟨d,b⟩:=d;by_cases c:i<xs.length
 ·obtain⟨y,a⟩ : ∃y,xs[i]? = some y:=⟨_,I3 c⟩
  repeat'(first|refine gE ?_|(conv=>whnf);first|with_reducible refine CF (aa a) ?_|refine CE ?_|refine Fv.mk (k:=.one) (rcs:=[B (pr y)]) ⟨y,Z2 a,rfl,rfl,rfl⟩ ?_|refine Bf.P (λe=>?_) (λe=>?_))
  ·exact C1 (λz=>[I z]) (eD a ‹_› b).symm
  (conv=>whnf)
  refine CG (i+1) ⟨ω,iE a (by assumption) b⟩ ω ?_;exact wB
 repeat'(first|refine gE ?_|(conv=>whnf);first|refine CE ?_)
 exact C1 (λz=>[I z]) (gQ ω b).symm
def wn(o:aQ)(id:Int):zzA 566 false [.val (some 2) (aQ.enc .S o),.ptr [I id]] .one [B (mC id o)]:=by
 refine fO 8 [] Tryz.func566 rfl ?_
 repeat'(first|refine gP ?_|(conv=>whnf);first|refine CE ?_)
 exact C1 (λz=>[B z]) (by unfold mC;rw[Y6];simp)
def nj(r:aI)(id:Int)(b:r.O.length<=1048576):zzA 502 false [.val (some 2) (aI.enc .S r),.val none [I id]] .one [I (vI r id)]:=by
 refine fO 9 [] Tryz.func502 rfl ?_
 repeat'(first|refine gP ?_|(conv=>whnf);first|refine CE ?_|refine Cq.mk (nl (some 2) (aQ.enc .S) (mC id) r.O) (wn default id).has (λL k rcs a=>?_) ?_|refine CB (vq r.O (mC id) ω) ?_)
 ·obtain⟨y,-,rfl,rfl,rfl⟩:=a
  exact wn y id
 rfl
def G4:zzA 260 false [] .agg (aI.enc .own ⟨1,[]⟩):=by
 refine fO 2 [] Tryz.func260 rfl ?_ (.inr (aI.enc_fr _))
 repeat'((conv=>whnf);first|with_reducible (first|refine Lm ?_|refine Wm ω ?_|refine Bn ?_|refine js.wk rfl ?_)|refine Bt ?_|refine Bu ?_|refine CE ?_)
 exact⟨rfl,rfl,trivial⟩
def T5(l:List aQ):(l.map (aQ.enc .own)).map (·.map fz)=l.map (aQ.enc .S):=by
 rw[List.map_map];exact List.map_congr_left λx _=>(cg _).symm.trans (aQ.enc_fz x)
def Ae(r:aI)(n:Int)(m:Nat)(a:uU r m)(g:m<=1000)(b:1<=n/\n<=1000):zzA 262 true [.val (some 2) (aI.enc .S r),.val none [I n]] (.tup [some 2,none]) (aI.enc .S (jx r n)++[I r.b]):=by
 have h:=a.sml g;have c:=a.len;have i:=a.nx;have j:=jA r h;have d:=aG n 1 1000;rw[O0 b]at d;have key:zzA 262 true [.val (some 2) (aI.enc .S r),.val none [I n]] (.tup [some 2,none]) (aI.enc .own (jx r n)++[I r.b]):=by
  unfold jx;rw[CD b];have k:aI.enc .own {r with b:=r.b+1,O:=r.O++[⟨r.b,List.replicate n.toNat 0⟩]} = [I (r.b+1),.s .own (r.O.map (aQ.enc .own)++[[I r.b,.s .own (List.replicate n.toNat [I 0])]])]:=by
   simp[aI.enc,aQ.enc,rI]
  rw[k];refine fO 30 [(4,263,[13,14,15,16,17,18,22,0,1,2,3,4,5,6,1000,1001,7,1000,1001,8,9,10]),(6,259,[27,28,29,0,1,2,3,1001,1002,4])] Tryz.func262 rfl ?_ (.inl rfl)
  repeat'(first|refine gP ?_|(conv=>whnf);first|refine CE ?_|refine CB (j) ?_|refine CB (d) ?_|refine Mk.mk n.toNat ω ω ω (Eh ω (by decide)) rfl ?_|refine CE ?_|refine Ap.sn (aS λ_=>rfl) rfl (by simp;omega) (by decide) rfl ?_)
  (conv=>whnf)
  rfl
 have e:=key.fzR;rw[dI,aI.enc_fz]at e;exact e
def UZ(l:List aQ):fz (oE (l.map (aQ.enc .own)))=.s .S (l.map (aQ.enc .S)):=by rw[GV];exact TQ l
def Fc(r:aI)(id:Int)(m:Nat)(g:uU r m)(o:m<=1000):zzA 404 true [.val (some 2) (aI.enc .S r),.val none [I id]] (.tup [some 2,none]) (aI.enc .S (lC r id)++[B (!decide (vI r id<0))]):=by
 have h:=g.sml o;have i:=g.len;have k:=jA r h;have b:=nj r id h.1;by_cases e:vI r id<0
 ·have key:zzA 404 true [.val (some 2) (aI.enc .S r),.val none [I id]] (.tup [some 2,none]) (aI.enc .own r++[B false]):=by
   refine fP 24 [(503,[1,0,0])] [] Tryz.func404 rfl ?_ (.inl rfl)
   repeat'(first|refine gE ?_|(conv=>whnf);first|refine CE ?_|refine CB (k) ?_|refine CB (b) ?_)
   rfl
  have a:=key.fzR;rw[dI,aI.enc_fz]at a;unfold lC;rw[CD e,O0 e];exact a
 obtain⟨p,q,t⟩:=fT (mC id) r.O (by unfold vI at e;omega);obtain⟨j,c⟩:=C4 (show 0<=vI r id by omega);have d:j<r.O.length:=by unfold vI at c;omega
 have l:=zU r.O j d;have key:zzA 404 true [.val (some 2) (aI.enc .S r),.val none [I id]] (.tup [some 2,none]) ([I r.b,oE ((dele r.O j).map (aQ.enc .own))]++[B true]):=by
  rw[c]at b;rcases pZ (rows:=(dele r.O j).map (aQ.enc .own)) with n|⟨-,n⟩
  all_goals
   rw[n]at l |-;refine fP 24 [(503,[1,0,0])] [] Tryz.func404 rfl ?_ (.inl rfl)
   repeat'(first|refine gE ?_|(conv=>whnf);first|refine CE ?_|refine CB (k) ?_|refine CB (b) ?_|refine CK (l) (.inl rfl) ?_)
   rfl
 have a:=key.fzR;unfold lC;rw[CC e,X0 e,c];change ar _ _ _ _ _ [fz (I _),fz (oE _),fz (B true)]at a;rw[UZ]at a;exact a
def Ax(r:aI)(id a v:Int)(m:Nat)(q:uU r m)(D:m<=1000)(t:0<=v/\v<=999):∃b:Bool,zzA 406 true [.val (some 2) (aI.enc .S r),.val none [I id],.val none [I a],.val none [I v]] (.tup [some 2,none]) (aI.enc .S (f7 r id a v)++[B b]):=by
 have o:=q.sml D;have u:=q.len;have p:=jA r o;have k:=nj r id o.1;by_cases l:0<=vI r id;rotate_left
 ·rw[show f7 r id a v=r by unfold f7;rw[CC (λx=>l x.1)]]
  refine⟨false,?_⟩;have key:zzA 406 true [.val (some 2) (aI.enc .S r),.val none [I id],.val none [I a],.val none [I v]] (.tup [some 2,none]) (aI.enc .own r++[B false]):=by
   refine fO 48 [] Tryz.func406 rfl ?_ (.inl rfl)
   repeat'(first|refine gE ?_|(conv=>whnf);first|refine CE ?_|refine CB (p) ?_|refine CB (k) ?_)
   rfl
  have c:=key.fzR;rw[dI,aI.enc_fz]at c;exact c
 obtain⟨H,J,K⟩:=fT (mC id) r.O l;obtain⟨j,e⟩:=C4 l;have g:j<r.O.length:=by unfold vI at e;omega
 have d:=ax g;have E:(nth r.O j).V.length<=1048576:=o.2 _ (au g);rw[e]at k;have n:=aG a 0 (((nth r.O j).V.length:Nat) - 1:Int);by_cases h:0<=a/\a<=((nth r.O j).V.length:Nat) - 1;rotate_left
 ·rw[show f7 r id a v=r by unfold f7;rw[CC (λx=>h (by have:=x.2.1;rw[e]at this;exact this))]]
  rw[X0 h]at n;refine⟨false,?_⟩;have key:zzA 406 true [.val (some 2) (aI.enc .S r),.val none [I id],.val none [I a],.val none [I v]] (.tup [some 2,none]) (aI.enc .own r++[B false]):=by
   refine fO 48 [] Tryz.func406 rfl ?_ (.inl rfl)
   repeat'(first|refine gE ?_|(conv=>whnf);first|with_reducible refine CF (aa d) ?_|refine CE ?_|refine CB (p) ?_|refine CB (k) ?_|refine CB (n) ?_|refine CJ rfl (aa d) rfl ?_)
   rfl
  have c:=key.fzR;rw[dI,aI.enc_fz]at c;exact c
 obtain⟨b,w⟩:=C4 h.1;have F:f7 r id a v = {r with O:=r.O.set j ⟨(nth r.O j).Id,(nth r.O j).V.set b v⟩}:=by
  unfold f7;rw[CD ⟨l,by rw[e];exact h,t⟩,e,w];rfl
 rw[O0 h]at n;rw[F];subst w;have y:=ax (xs:=(nth r.O j).V) (i:=b) ω;have C:=aG v 0 999;rw[O0 t]at C;refine⟨true,?_⟩;have key:zzA 406 true [.val (some 2) (aI.enc .S r),.val none [I id],.val none [I (b:Nat)],.val none [I v]] (.tup [some 2,none]) (aI.enc .own {r with O:=r.O.set j ⟨(nth r.O j).Id,(nth r.O j).V.set b v⟩}++[B true]):=by
  have G:aI.enc .own {r with O:=r.O.set j ⟨(nth r.O j).Id,(nth r.O j).V.set b v⟩} = [I r.b,.s .own ((r.O.map (aQ.enc .own)).set j [I (nth r.O j).Id,.s .own (((nth r.O j).V.map (rI .own)).set b [I v])])]:=by
   simp[aI.enc,aQ.enc,rI,X8]
  rw[G];refine fO 48 [] Tryz.func406 rfl ?_ (.inl rfl)
  repeat'(first|refine gE ?_|(conv=>whnf);first|with_reducible (first|refine CF (aa d) ?_|refine CF (aa y) ?_|refine CP ω (aa d) ?_)|refine CE ?_|refine CB (p) ?_|refine CB (k) ?_|refine CB (n) ?_|refine CB (C) ?_|refine CJ rfl (aa d) rfl ?_|refine Pu.two rfl rfl (aa d) rfl rfl rfl (aa y) rfl (O4 _) rfl ?_)
  rfl
 have c:=key.fzR;rw[dI,aI.enc_fz]at c;exact c
def E8(r:aI)(id n:Int)(m:Nat)(w:uU r m)(E:m<=1000):∃b:Bool,zzA 408 true [.val (some 2) (aI.enc .S r),.val none [I id],.val none [I n]] (.tup [some 2,none]) (aI.enc .S (gF r id n)++[B b]):=by
 have q:=w.sml E;have y:=w.len;have t:=jA r q;have g:=nj r id q.1;by_cases i:0<=vI r id;rotate_left
 ·rw[show gF r id n=r by unfold gF;rw[CC (λx=>i x.1)]]
  refine⟨false,?_⟩;have key:zzA 408 true [.val (some 2) (aI.enc .S r),.val none [I id],.val none [I n]] (.tup [some 2,none]) (aI.enc .own r++[B false]):=by
   refine fO 44 [(5,11,[30,31,32,33,34,35,36,37,38,39,40])] Tryz.func408 rfl ?_ (.inl rfl)
   repeat'(first|refine gE ?_|(conv=>whnf);first|refine CE ?_|refine CB (t) ?_|refine CB (g) ?_)
   rfl
  have a:=key.fzR;rw[dI,aI.enc_fz]at a;exact a
 obtain⟨K,L,M⟩:=fT (mC id) r.O i;obtain⟨j,c⟩:=C4 i;have d:j<r.O.length:=by unfold vI at c;omega
 have e:=ax d;have F:(nth r.O j).V.length<=1048576:=q.2 _ (au d);rw[c]at g;have k:=aG n 1 (((nth r.O j).V.length:Nat):Int);by_cases l:1<=n/\n<=((nth r.O j).V.length:Nat);rotate_left
 ·rw[show gF r id n=r by unfold gF;rw[CC (λx=>l (by have:=x.2;rw[c]at this;exact this))]]
  rw[X0 l]at k;refine⟨false,?_⟩;have key:zzA 408 true [.val (some 2) (aI.enc .S r),.val none [I id],.val none [I n]] (.tup [some 2,none]) (aI.enc .own r++[B false]):=by
   refine fO 44 [(5,11,[30,31,32,33,34,35,36,37,38,39,40])] Tryz.func408 rfl ?_ (.inl rfl)
   repeat'(first|refine gE ?_|(conv=>whnf);first|with_reducible refine CF (aa e) ?_|refine CE ?_|refine CB (t) ?_|refine CB (g) ?_|refine CB (k) ?_|refine CJ rfl (aa e) rfl ?_)
   rfl
  have a:=key.fzR;rw[dI,aI.enc_fz]at a;exact a
 obtain⟨b,D⟩:=C4 (show 0<=n by omega);have G:gF r id n = {r with O:=r.O.set j ⟨(nth r.O j).Id,(nth r.O j).V.take b⟩}:=by
  unfold gF;rw[CD ⟨i,by rw[c];exact l⟩,c,D];rfl
 rw[O0 l]at k;rw[G];subst D;have u:zzA 403 false [.val (some 2) (aI.enc .S r)] .agg [I r.b,.s .own ((r.O.map (aQ.enc .own)).set j (aQ.enc .S (nth r.O j)))]:=by
  have h:=t.fzAt (off:=1) (o:=.own) (rows:=r.O.map (aQ.enc .own)) rfl (by simp) (j:=j) (aa e);rw[aQ.enc_fz]at h;exact h
 have p:((r.O.map (aQ.enc .own)).set j (aQ.enc .S (nth r.O j)))[j]? = some (aQ.enc .S (nth r.O j)):=C5 (by rw[O1];omega);refine⟨true,?_⟩;have key:zzA 408 true [.val (some 2) (aI.enc .S r),.val none [I id],.val none [I (b:Nat)]] (.tup [some 2,none]) ([I r.b,.s .own (((r.O.map (aQ.enc .own)).set j (aQ.enc .S (nth r.O j))).set j [I (nth r.O j).Id,.s .S (((nth r.O j).V.take b).map (rI .S))])]++[B true]):=by
  refine fO 44 [(5,11,[30,31,32,33,34,35,36,37,38,39,40])] Tryz.func408 rfl ?_ (.inl rfl)
  repeat'(first|refine gE ?_|(conv=>whnf);first|with_reducible (first|refine CF (aa e) ?_|refine CP ω p ?_)|refine CE ?_|refine CB (u) ?_|refine CB (g) ?_|refine CB (k) ?_|refine CJ rfl (aa e) rfl ?_|refine CJ rfl p rfl ?_|refine CF p ?_|refine Sl.pre b rfl (by rw[O1];omega) (aS λ_=>rfl) Y5 ?_|refine CE ?_|refine CR rfl rfl p rfl (Z1 rfl) rfl ?_)
  rfl
 have a:=key.fzR;rw[List.set_set]at a;change ar _ _ _ _ _ [fz (I _),fz (.s .own _),fz (B true)]at a;rw[ML,X8,T5]at a;have H:aQ.enc .S ⟨(nth r.O j).Id,(nth r.O j).V.take b⟩ = [I (nth r.O j).Id,C.s .S (((nth r.O j).V.take b).map (rI .S))].map fz:=by
  show [I _,C.s .S (((nth r.O j).V.take b).map (rI .S))]=[fz (I _),fz (.s .S _)];rw[ML,List.map_map];rfl
 have J:aI.enc .S {r with O:=r.O.set j ⟨(nth r.O j).Id,(nth r.O j).V.take b⟩} = [I r.b,.s .S ((r.O.map (aQ.enc .S)).set j ([I (nth r.O j).Id,.s .S (((nth r.O j).V.take b).map (rI .S))].map fz))]:=by
  rw[<-H,<-X8];rfl
 rw[J];exact a
def El(p f:Nat)(a:List Int)(b:1<=p/\p<=32)(c:1<=f/\f<=32)(d:a.length<=40/\∀x∈a,0<=x):zzA 199 false [.val none [I (p:Nat)],.val none [I (f:Nat)],.val none (aJ .S a)] (.tup [some 5,none]) (am.enc .own (ce p f a)++[B true]):=by
 have e:=rq b c d;have h:=d.1;have g:=mW (ce p f a) (bX e);rw[e]at g;have i:=ef a ω;refine fO 30 [(2,260,[17,18,19,10,0,1,2,4,3,1004,5])] Tryz.func199 rfl ?_ (.inr (aD (CZ _) ⟨trivial,trivial⟩))
 repeat'(first|refine gP ?_|(conv=>whnf);first|refine CE ?_|refine CB (wL p f b c) ?_|refine CB (i) ?_|refine CN (g) ⟨⟨rfl,am.enc_fz (ce p f a)⟩,trivial⟩ ?_)
 rfl
def Jk(p f t:Nat)(lim:Int)(a:List Int)(c:1<=p/\p<=32)(d:1<=f/\f<=32)(e:1<=t/\t<=4)(g:0<=lim/\lim<=1000)(h:a.length<=40/\∀x∈a,0<=x):zzA 70 false [.val none [I (p:Nat)],.val none [I (f:Nat)],.val none [I (t:Nat)],.val none [I lim],.val none (aJ .S a)] (.tup [some 24,none]) (ac.enc .own (newHeap p f t lim a)++[B true]):=by
 have b:=aG lim 0 1000;rw[O0 g]at b;refine fO 68 [(10,4,[61,62,63,64])] Tryz.func70 rfl ?_ (.inr (aD (ac.enc_fr _) ⟨trivial,trivial⟩))
 repeat'(first|refine gP ?_|(conv=>whnf);first|refine CE ?_|refine CB (El p f a c d h) ?_|refine CB (D2 t e) ?_|refine CB (b) ?_|refine CB (DX) ?_)
 (conv=>whnf)
 refine CH (ι:=Nat) (λk=>[(2,.H .one [I ((t:Nat))]),(10,.H .box [.z,.z,.z,I 0,.z,.z,.z,.z,.z,.z,.z,.z,I 0,.z,I 0,I 0,I 0,I 0,B false,I 0,I 0,.z,I 0,I 0]),(18,.H .box (ac.enc .own (caps (newHeap p f t lim a) k))),(19,.H .one [I ((k:Nat):Int)])]) (λk=>k<=t) (λk=>t - k) (0) ?_ (Z0 _) λk i=>?_
 ·exact wB
 by_cases j:k<t
 ·repeat'(first|refine gE ?_|(conv=>whnf);first|refine CE ?_|refine CB (AS) ?_|refine Ap.sn Qa rfl (by rw[O1];show(List.replicate _ fQ).length+1<=_;rw[I5];omega) (by decide) (MZ k) ?_)
  ((conv=>whnf);refine CG (k+1) ω ω ?_;(exact wB))
 obtain rfl:k=t:=ω
 repeat'(first|refine gE ?_|(conv=>whnf);first|refine CE ?_)
 rfl
def Ah(c:bJ)(h:H0 c):zzA 115 false [.val (some 5) (bJ.enc .S c)] (.tup [some 26,none]) (bj.enc .own (world0 c)++[B true]):=by
 have a:=Jk c.a2 c.X c.c3 c.c0 c.w h.p h.f h.t h.l h.r;refine fO 26 [(4,2,[23,24])] Tryz.func115 rfl ?_ (.inr (aD (bj.enc_fr _) ⟨trivial,trivial⟩))
 repeat'(first|refine gP ?_|(conv=>whnf);first|refine CE ?_|refine CB (a) ?_|refine CB (G4) ?_)
 rfl
def R2(a:Int)(l:aB):Bool:=decide (l.R*16=a)
def mJ(l:aB)(a:Int)(b:0<=l.R/\l.R<=32):zzA 101 false [.val (some 3) (aB.enc .S l),.ptr [I a]] .one [B (R2 a l)]:=by
 refine fO 9 [] Tryz.func101 rfl ?_
 repeat'(first|refine gP ?_|fail)
 exact C1 (λz=>[B z]) ((by unfold R2;rw[Y6];simp))
def xX(h:ac)(b:ac.sml h)(a:h.O≠[]):zzA 62 false [.val (some 24) (ac.enc .S h)] .agg (cE h (oS h) (oL h) (.s .own (h.O.map (aU.enc .own)))):=by
 have c:=dw h b
 rwa [show cV h=cE h (oS h) (oL h) (.s .own (h.O.map (aU.enc .own))) by unfold cV oO;rw[oM λe=>a (List.map_eq_nil_iff.1 e)]]at c
def DJ(h:ac)(t a:Int)(b:ac.sml h)(d:fg h=true)(e:h.G.Calls=100000):zzA 33 false [.val (some 24) (ac.enc .S h),.val none [I t],.val none [I a]] (.tup [some 24,none]) (cV h++[I 6]):=by
 have c:=cr h b;rw[dz,d]at c;refine fP 163 [(99,[1,0,0]),(102,[1,0,0]),(103,[2,0]),(105,[2,0,0]),(109,[2,0,0])] [(20,12,[85,86,87,88,89,90,91,92,93,94,95,96]),(24,4,[111,112,113,114])] Tryz.func33 rfl ?_ (.inr (aD (bT _) ⟨trivial,trivial⟩))
 repeat'(first|refine gB ?_|(conv=>whnf);first|refine CB (c) ?_|refine CB (dw h b) ?_)
 rfl
def AM(h:ac)(o:aU)(t:Nat)(S:ac.sml h)(e1:fg h=true)(hc:h.G.Calls≠100000)(X:o∈h.O)(ht:o.y=t):zzA 33 false [.val (some 24) (ac.enc .S h),.val none [I (t:Nat)],.val none [I o.Addr]] (.tup [some 24,none]) (cV (freeOb h t (oJ h o.Addr)).1++[I (freeOb h t (oJ h o.Addr)).2]):=by
 have b:=aX.of e1;have T:=cr h S;rw[dz,e1]at T;obtain⟨p,G,H⟩:=b.objAt X;have q:=yw b X;have hon:=b.onu o X;have a:=b.lens;have hno:=a.objs;have hnl:=a.larges;have hlc:=a.caches;have J:t<h.T.length:=ω
 have U:=aG (t:Nat) 0 (h.T.length - 1:Int);rw[O0 ω]at U;have K:=r9 h o.Addr ω;rw[H]at K;have V:=xX h S (fW p);generalize oJ h o.Addr=i at p G K;subst G;have Y:=ax p;have Z:=lG (nth h.O i).q;have C:=zg h.O i p;have hks:=bX b.ker;have c6:=cz h.G.F.Q ((nth h.O i).Addr / 16) hks.1.2;have M:cV h=cE h (oS h) (oL h) (.s .own (h.O.map (aU.enc .own))):=by unfold cV oO;rw[oM λe=>fW p (List.map_eq_nil_iff.1 e)]
 unfold freeOb;by_cases d:aP (nth h.O i).q<0
 ·rw[CD d]
  obtain⟨l,hl,h1,-⟩:=(dL b (au p)).1 d;obtain⟨r,ea,-,hfi⟩:=uh hl h1;have E:=lf h.M (R2 (nth h.O i).Addr) ω;rw[show cF (R2 (nth h.O i).Addr) h.M=(wx h (nth h.O i).Addr:Nat) by unfold cF R2;rw[hfi]]at E;generalize wx h (nth h.O i).Addr=g at r ea E;have hf:=aR (b.L.lok _ (au r));have hxl:=ax r;have N:=ug h.M g r;have F:=jj {h with O:=dele h.O i,M:=dele h.M g} ⟨(nth h.M g).R,(nth h.M g).a2⟩ (nth h.M g).a2.toNat b.ker hc (by show h.o.length<=_;have:=a.free;omega) ⟨by show(nth h.M g).a2=_;omega,by show 0<=(nth h.M g).R;omega,by show(nth h.M g).R<=_;omega,ω⟩;have hg:cV {h with O:=dele h.O i,M:=dele h.M g} = cE h (oS h) (oE ((dele h.M g).map (aB.enc .own))) (oE ((dele h.O i).map (aU.enc .own))):=rfl;have u:oL h=.s .own (h.M.map (aB.enc .own)):=by unfold oL;rw[oM λe=>fW r (List.map_eq_nil_iff.1 e)]
  rw[u]at V;rw[hg]at F;have hpg:∀y∈h.M,0<=y.R/\y.R<=32:=λy w=>by have:=aR (b.L.lok y w);omega
  rcases pZ (rows:=(dele h.O i).map (aU.enc .own)) with e|⟨-,e⟩<;>rcases pZ (rows:=(dele h.M g).map (aB.enc .own)) with e'|⟨-,e'⟩
  all_goals
   rw[e]at C F;rw[e']at N F;refine fP 163 [(99,[1,0,0]),(102,[1,0,0]),(103,[2,0]),(105,[2,0,0]),(109,[2,0,0])] [(20,12,[85,86,87,88,89,90,91,92,93,94,95,96]),(24,4,[111,112,113,114])] Tryz.func33 rfl ?_ (.inr (aD (bT _) ⟨trivial,trivial⟩))
   repeat'(first|refine gB ?_|(conv=>whnf);first|with_reducible refine Bf.D (λO=>?_) (λO=>?_)|refine CB (U) ?_|refine CB (T) ?_|refine CB (K) ?_|refine CB (V) ?_|refine CB (Z) ?_|refine CF (aa Y) ?_|refine CF (aa hxl) ?_|refine Cq.mk (nl (some 3) (aB.enc .S) (R2 (nth h.O i).Addr) h.M) (mJ ⟨0,0,0⟩ (nth h.O i).Addr ⟨by decide,by decide⟩).has (λL k rcs hQ=>?_) ?_|refine CB (E) ?_|refine CK (C) (.inl rfl) ?_|refine CK (N) (.inl rfl) ?_|refine CK (F) (.inl rfl) ?_)
   ·obtain⟨y,w,rfl,rfl,rfl⟩:=hQ
    exact mJ y _ (hpg y w)
   rfl
 rw[CC d];obtain⟨s1,s2,s3,s4⟩:=VU.of b (au p) d;have hcz:=Q7 s1;by_cases W:(af (tbl h) ((nth h.O i).Addr / 16)).e=1
 ·rw[CD W]
  unfold tbl at W;have B:=bT h;simp only;rw[M]at B |-;rcases pZ (rows:=(dele h.O i).map (aU.enc .own)) with e|⟨-,e⟩
  all_goals
   rw[e]at C;refine fP 163 [(99,[1,0,0]),(102,[1,0,0]),(103,[2,0]),(105,[2,0,0]),(109,[2,0,0])] [(20,12,[85,86,87,88,89,90,91,92,93,94,95,96]),(24,4,[111,112,113,114])] Tryz.func33 rfl ?_ (.inr (aD B ⟨trivial,trivial⟩))
   repeat'(first|refine gB ?_|(conv=>whnf);first|with_reducible refine Bf.D (λO=>?_) (λO=>?_)|refine CQ (by decide) ?_|refine CM (xJ q) ?_|refine CB (U) ?_|refine CB (T) ?_|refine CB (K) ?_|refine CB (V) ?_|refine CB (Z) ?_|refine CF (aa Y) ?_|refine CK (C) (.inl rfl) ?_|refine CB (c6) ?_)
   rfl
 rw[CC W];unfold tbl at W;have B:dG h.G (nth h.O i).Addr<h.G.F.X.V.length:=by unfold dG;omega
 have j:=b.inQuar p d;have P:=di (aP (nth h.O i).q);rw[show csz (aP (nth h.O i).q)=((csz (aP (nth h.O i).q)).toNat:Nat) by omega]at P;have n:=b.nums;unfold cT at n;rw[C0]at n;have Q:=(b.dropO p (jT.any (c:=aP (nth h.O i).q) (by obtain⟨⟨s,S,k1,k2⟩,-⟩:=(dL b (au p)).2 d;exact⟨s,S,k1,.inr k2⟩))).nd;rw[List.cons_append,List.nil_append]at Q;have E:=EH h.a7 (mz h (nth h.O i)) (by have:=a.quar;omega) b.quar ⟨s1.1,s1.2,q.1,n.2.2.1⟩ (λy w=>b.snc y w) (λy w e=>(List.nodup_cons.1 Q).1 (by rw[show(nth h.O i).Addr=y.Addr from e.symm];unfold holders;simp only[I4];exact .inl (.inr (C6.2 ⟨y,w,rfl⟩))));unfold UJ at E;have u:(Aw h.a7 (mz h (nth h.O i))).length<=513:=by have:=a.quar;unfold Aw;rw[O2,X4];simp only[List.length_singleton];omega
 have hfq:GN h t i=recycs t (inQuar h i) ((Aw h.a7 (mz h (nth h.O i))).map (·.Addr)):=rfl;have hqc:(inQuar h i).G.Calls≠100000:=hc;rw[hfq];rcases pZ (rows:=(dele h.O i).map (aU.enc .own)) with e|⟨-,e⟩
 all_goals
  have hoo:oO (inQuar h i)=_:=e;rw[e]at C;have N:=lh h (oS h) (oL h) (oE ((dele h.O i).map (aU.enc .own))) (nth h.O i).Addr (csz (aP (nth h.O i).q)).toNat b.ker q s2 ω s4;rw[e]at N;refine fP 163 [(99,[1,0,0]),(102,[1,0,0]),(103,[2,0]),(105,[2,0,0]),(109,[2,0,0])] [(20,12,[85,86,87,88,89,90,91,92,93,94,95,96]),(24,4,[111,112,113,114])] Tryz.func33 rfl ?_ (.inr (aD (bT _) ⟨trivial,trivial⟩))
  repeat'(first|refine gB ?_|(conv=>whnf);first|with_reducible refine Bf.D (λO=>?_) (λO=>?_)|refine CQ (by decide) ?_|refine CM (xJ q) ?_|refine CB (U) ?_|refine CB (T) ?_|refine CB (K) ?_|refine CB (V) ?_|refine CB (Z) ?_|refine CF (aa Y) ?_|refine CK (C) (.inl rfl) ?_|refine CB (c6) ?_|refine CB (P) ?_|refine CK (N) (.inl rfl) ?_|refine CB (E) ?_)
  generalize Aw h.a7 (mz h (nth h.O i))=out at j u
  (conv=>whnf)
  refine CH (ι:=Nat) (λk=>[(1,.H .one [I ((t:Nat):Int)]),(6,.H .box tZ),(8,.H .box (cV (recycs t (inQuar h i) ((out.take k).map (·.Addr))))),(16,.H .one (dX .own out)),(151,.c1 16 0 [] none),(152,.H .one [I (out.length)]),(153,.H .one [I ((k:Nat):Int)])]) (λk=>k<=out.length) (λk=>out.length - k) (0) ?_ (Z0 _) λk hk=>?_
  ·repeat'(first|exact trivial|rfl |exact E4 hoo|exact eK _|refine CL ?_ ?_|(exact Jh (by first|omega|(simp only;omega)|(simp;omega))))
  by_cases r:k<out.length
  ·have R:=ax r
   have hsp:out.map (·.Addr)=(out.take k).map (·.Addr)++(nth out k).Addr::(out.drop (k+1)).map (·.Addr):=by
    conv=>lhs;rw[<-List.take_append_drop k out,iC r]
    simp
   have hik:aX (recycs t (inQuar h i) ((out.take k).map (·.Addr))) ((nth out k).Addr::(out.drop (k+1)).map (·.Addr)):=aX.recycs (by rw[<-hsp];exact j) J;have F:=ua _ _ t _ hik (by rw[(fB t _ _).1];exact J) (by rw[(fB t _ _).2.2.1];exact hqc)
   repeat'(first|refine gE ?_|(conv=>whnf);first|refine CF (aa R) ?_|refine CJ rfl (aa R) rfl ?_|refine CK (F) (.inl rfl) ?_)
   ((conv=>whnf);refine CG (k+1) ω ω ?_)
   rw[FA t _ out k r];exact wC
  obtain rfl:k=out.length:=ω
  rw[I7]
  repeat'(first|refine gE ?_|fail)
  rfl
def jz(m:aM)(k:Int)(a:aM.sml m):zzA 255 false [.val (some 2) (aM.enc .S m),.val none [I k]] .one [B (decide (0<=k/\k<=m.U.length - 1)&&bU m)]:=by
 have b:=mD m a;have g:m.U.length<=1048576:=a.1.1;have c:=aG k 0 (m.U.length - 1:Int);cases e:bU m<;>rw[e]at b<;>cases d:decide (0<=k/\k<=(m.U.length:Int) - 1)<;>rw[d]at c
 all_goals
  refine fO 15 [] Tryz.func255 rfl ?_
  repeat'(first|refine gP ?_|(conv=>whnf);first|refine CE ?_|refine CB (b) ?_|refine CB (c) ?_)
  rfl
def Nd(m:aM)(f:Nat)(p:cW)(k:bU m=true)(d:f<m.U.length):zzA 107 false [.val (some 2) (aM.enc .S m),.val none [I (f:Nat)],.val (some 2) (cW.enc .S p)] (.tup [some 2,none]) (aM.enc .own (if bU (jt m f p)=true then jt m f p else m)++[B (bU (jt m f p))]):=by
 have c:=qb.of k;have l:=c.sml;have q:=c.b4;have g:=jz m f l;rw[k,O0 ω]at g;have n:=iz m l;have h:=NJ c d p;have i:=mD (jt m f p) h;have a:=VF d;have o:=c.bl f d;have j:=aM.enc_fz (jt m f p);have b:=aM.enc_fr (jt m f p);rw[Di]at j b;cases e:bU (jt m f p)<;>rw[e]at i
 ·rw[CC (by simp)]
  refine fO 35 [(4,267,[17,18,19,20,21,22,23,24,25,26,28,0,1,2,3,4,5,6,7,8,9,10,1000,1001,1002,11,12])] Tryz.func107 rfl ?_ (.inr (aD (aM.enc_fr _) ⟨trivial,trivial⟩))
  repeat'(first|refine gP ?_|(conv=>whnf);first|with_reducible refine CF (aa a) ?_|refine CE ?_|refine CF (fD a) ?_|refine CJ rfl (fD a) rfl ?_|refine CB (g) ?_|refine CB (n) ?_|refine Lq.one rfl rfl (aa a) rfl (Z1 rfl) rfl rfl ?_|refine CJ rfl (aa a) rfl ?_|refine CR rfl rfl (fD a) rfl (Z1 rfl) (show [C.s dQ.own ((m.U.map (bO .own)).set f (bO .own (nth m.U f++[p]))),C.s .own (m.u.map (aJ .own))]=_ from by simp only[List.set_cons_zero,List.set_set,Z3];rfl) ?_|refine Ap.sm (aS λ_=>rfl) rfl (by simp;omega) (by decide) (gH _ _ _) ?_|refine CN (i) ⟨⟨rfl,j⟩,trivial⟩ ?_)
  rfl
 rw[CD rfl,Di];refine fO 35 [(4,267,[17,18,19,20,21,22,23,24,25,26,28,0,1,2,3,4,5,6,7,8,9,10,1000,1001,1002,11,12])] Tryz.func107 rfl ?_ (.inr (aD b ⟨trivial,trivial⟩))
 repeat'(first|refine gP ?_|(conv=>whnf);first|with_reducible refine CF (aa a) ?_|refine CE ?_|refine CF (fD a) ?_|refine CJ rfl (fD a) rfl ?_|refine CB (g) ?_|refine CB (n) ?_|refine Lq.one rfl rfl (aa a) rfl (Z1 rfl) rfl rfl ?_|refine CJ rfl (aa a) rfl ?_|refine CR rfl rfl (fD a) rfl (Z1 rfl) (show [C.s dQ.own ((m.U.map (bO .own)).set f (bO .own (nth m.U f++[p]))),C.s .own (m.u.map (aJ .own))]=_ from by simp only[List.set_cons_zero,List.set_set,Z3];rfl) ?_|refine Ap.sm (aS λ_=>rfl) rfl (by simp;omega) (by decide) (gH _ _ _) ?_|refine CN (i) ⟨⟨rfl,j⟩,trivial⟩ ?_)
 rfl
def EB(h:ac)(o:aU)(t:Nat)(S:ac.sml h)(N:fg h=true)(hc:h.G.Calls≠100000)(F:o∈h.O)(T:t<h.T.length):zzA 33 false [.val (some 24) (ac.enc .S h),.val none [I (t:Nat)],.val none [I o.Addr]] (.tup [some 24,none]) (cV (freeT h t (oJ h o.Addr)).1++[I (freeT h t (oJ h o.Addr)).2]):=by
 by_cases U:o.y=t
 ·have hh:=AM h o t S N hc F U
  rwa [<-BF (by obtain⟨-,d,-⟩:=(aX.of N).objAt F;rw[d];exact U)]at hh
 have b:=aX.of N;have G:=cr h S;rw[dz,N]at G;obtain⟨r,d,H⟩:=b.objAt F;have j:=yw b F;have hon:=b.onu o F;have a:=b.lens;have hno:=a.objs;have hnl:=a.larges;have hlc:=a.caches;have J:=aG (t:Nat) 0 (h.T.length - 1:Int);rw[O0 ω]at J;have C:=r9 h o.Addr ω;rw[H]at C;have K:=xX h S (fW r);generalize oJ h o.Addr=i at r d C;subst d;have O:=ax r;have P:=lG (nth h.O i).q;have u:=zg h.O i r;have V:=bX b.ker;have W:=cz h.G.F.Q ((nth h.O i).Addr / 16) V.1.2;have p:cV h=cE h (oS h) (oL h) (.s .own (h.O.map (aU.enc .own))):=by unfold cV oO;rw[oM λe=>fW r (List.map_eq_nil_iff.1 e)]
 unfold freeT;by_cases n:aP (nth h.O i).q<0
 ·rw[CD n]
  obtain⟨l,hl,h1,-⟩:=(dL b (au r)).1 n;obtain⟨M,ea,-,X⟩:=uh hl h1;have Y:=lf h.M (R2 (nth h.O i).Addr) ω;rw[show cF (R2 (nth h.O i).Addr) h.M=(wx h (nth h.O i).Addr:Nat) by unfold cF R2;rw[X]]at Y;generalize wx h (nth h.O i).Addr=g at M ea Y;have hf:=aR (b.L.lok _ (au M));have Z:=ax M;have E:=ug h.M g M;have Q:=jj {h with O:=dele h.O i,M:=dele h.M g} ⟨(nth h.M g).R,(nth h.M g).a2⟩ (nth h.M g).a2.toNat b.ker hc (by show h.o.length<=_;have:=a.free;omega) ⟨by show(nth h.M g).a2=_;omega,by show 0<=(nth h.M g).R;omega,by show(nth h.M g).R<=_;omega,ω⟩;have hg:cV {h with O:=dele h.O i,M:=dele h.M g} = cE h (oS h) (oE ((dele h.M g).map (aB.enc .own))) (oE ((dele h.O i).map (aU.enc .own))):=rfl;have hol:oL h=.s .own (h.M.map (aB.enc .own)):=by unfold oL;rw[oM λe=>fW M (List.map_eq_nil_iff.1 e)]
  rw[hol]at K;rw[hg]at Q;have hpg:∀y∈h.M,0<=y.R/\y.R<=32:=λy hy=>by have:=aR (b.L.lok y hy);omega
  rcases pZ (rows:=(dele h.O i).map (aU.enc .own)) with e|⟨-,e⟩<;>rcases pZ (rows:=(dele h.M g).map (aB.enc .own)) with e'|⟨-,e'⟩
  all_goals
   rw[e]at u Q;rw[e']at E Q;refine fP 163 [(99,[1,0,0]),(102,[1,0,0]),(103,[2,0]),(105,[2,0,0]),(109,[2,0,0])] [(20,12,[85,86,87,88,89,90,91,92,93,94,95,96]),(24,4,[111,112,113,114])] Tryz.func33 rfl ?_ (.inr (aD (bT _) ⟨trivial,trivial⟩))
   repeat'(first|refine gB ?_|(conv=>whnf);first|with_reducible refine Bf.D (λw=>?_) (λw=>?_)|refine CE ?_|refine CB (J) ?_|refine CB (G) ?_|refine CB (C) ?_|refine CB (K) ?_|refine CB (P) ?_|refine CF (aa O) ?_|refine CF (aa Z) ?_|refine Cq.mk (nl (some 3) (aB.enc .S) (R2 (nth h.O i).Addr) h.M) (mJ ⟨0,0,0⟩ (nth h.O i).Addr ⟨by decide,by decide⟩).has (λL k rcs hQ=>?_) ?_|refine CB (Y) ?_|refine CK (u) (.inl rfl) ?_|refine CK (E) (.inl rfl) ?_|refine CK (Q) (.inl rfl) ?_)
   ·obtain⟨y,hy,rfl,rfl,rfl⟩:=hQ
    exact mJ y _ (hpg y hy)
   rfl
 rw[CC n];obtain⟨s1,s2,s3,s4⟩:=VU.of b (au r) n;have hcz:=Q7 s1;by_cases R:(af (tbl h) ((nth h.O i).Addr / 16)).e=1
 ·rw[CD R]
  unfold tbl at R;have c:=bT h;simp only;rw[p]at c |-;rcases pZ (rows:=(dele h.O i).map (aU.enc .own)) with e|⟨-,e⟩
  all_goals
   rw[e]at u;refine fP 163 [(99,[1,0,0]),(102,[1,0,0]),(103,[2,0]),(105,[2,0,0]),(109,[2,0,0])] [(20,12,[85,86,87,88,89,90,91,92,93,94,95,96]),(24,4,[111,112,113,114])] Tryz.func33 rfl ?_ (.inr (aD c ⟨trivial,trivial⟩))
   repeat'(first|refine gB ?_|(conv=>whnf);first|with_reducible refine Bf.D (λw=>?_) (λw=>?_)|refine CE ?_|refine CQ (by decide) ?_|refine CM (xJ j) ?_|refine CB (J) ?_|refine CB (G) ?_|refine CB (C) ?_|refine CB (K) ?_|refine CB (P) ?_|refine CF (aa O) ?_|refine CK (u) (.inl rfl) ?_|refine CB (W) ?_)
   rfl
 rw[CC R,CC U];unfold tbl at R;have c:=bT h;have q:=bT (Bi h t i);have B:=di (aP (nth h.O i).q);rw[show csz (aP (nth h.O i).q)=((csz (aP (nth h.O i).q)).toNat:Nat) by omega]at B;have cS:=Nd h.a1 t ⟨(nth h.O i).y,(nth h.O i).Addr⟩ b.mail (by rw[<-b.nc];exact T);rcases pZ (rows:=(dele h.O i).map (aU.enc .own)) with e|⟨-,e⟩
 all_goals
  have hoo:oO (Bi h t i)=_:=e;rw[e]at u;have E:=lh h (oS h) (oL h) (oE ((dele h.O i).map (aU.enc .own))) (nth h.O i).Addr (csz (aP (nth h.O i).q)).toNat b.ker j s2 ω s4;rw[e]at E;cases em:bU (jt h.a1 t ⟨(nth h.O i).y,(nth h.O i).Addr⟩)<;>rw[em]at cS
  ·rw[CC (by simp)]at cS |-
   simp only;rw[p]at c |-;refine fP 163 [(99,[1,0,0]),(102,[1,0,0]),(103,[2,0]),(105,[2,0,0]),(109,[2,0,0])] [(20,12,[85,86,87,88,89,90,91,92,93,94,95,96]),(24,4,[111,112,113,114])] Tryz.func33 rfl ?_ (.inr (aD c ⟨trivial,trivial⟩))
   repeat'(first|refine gB ?_|(conv=>whnf);first|with_reducible refine Bf.D (λw=>?_) (λw=>?_)|refine CE ?_|refine CQ (by decide) ?_|refine CM (xJ j) ?_|refine CB (J) ?_|refine CB (G) ?_|refine CB (C) ?_|refine CB (K) ?_|refine CB (P) ?_|refine CF (aa O) ?_|refine CK (u) (.inl rfl) ?_|refine CB (W) ?_|refine CB (B) ?_|refine CK (E) (.inl rfl) ?_|refine CB (cS) ?_|refine CE ?_)
   rfl
  rw[CD rfl]at cS |-;simp only;have he:cV (Bi h t i)=cE (Bi h t i) (oS h) (oL h) (oE ((dele h.O i).map (aU.enc .own))):=rfl;rw[he,e]at q |-;refine fP 163 [(99,[1,0,0]),(102,[1,0,0]),(103,[2,0]),(105,[2,0,0]),(109,[2,0,0])] [(20,12,[85,86,87,88,89,90,91,92,93,94,95,96]),(24,4,[111,112,113,114])] Tryz.func33 rfl ?_ (.inr (aD q ⟨trivial,trivial⟩))
  repeat'(first|refine gB ?_|(conv=>whnf);first|with_reducible refine Bf.D (λw=>?_) (λw=>?_)|refine CE ?_|refine CQ (by decide) ?_|refine CM (xJ j) ?_|refine CB (J) ?_|refine CB (G) ?_|refine CB (C) ?_|refine CB (K) ?_|refine CB (P) ?_|refine CF (aa O) ?_|refine CK (u) (.inl rfl) ?_|refine CB (W) ?_|refine CB (B) ?_|refine CK (E) (.inl rfl) ?_|refine CB (cS) ?_|refine CE ?_)
  rfl
def TW{j:Nat}{r r':List C}(h:ed r=ed r'):fz (.s .own (rows.set j r))=fz (.s .own (rows.set j r')):=by
 simp only[ML,X8];rw[<-cg,<-cg,h]
def jN(b:Bool):zzA 266 false [.val none [B b]] .one [I (if b=true then 0 else 90)]:=by
 cases b
 all_goals
  refine fO 4 [] Tryz.func266 rfl ?_
  repeat'(first|refine gP ?_|(conv=>whnf);first|refine CE ?_)
  rfl
def Gu(m:aM)(f:Int)(a:bU m=true)(e:¬(0<=f/\f<=m.U.length - 1)):zzA 409 true [.val (some 2) (aM.enc .S m),.val none [I f]] (.tup [some 2,none]) (aM.enc .S m++[B false]):=by
 have g:=qb.of a;have b:=g.sml;have c:=jz m f b;rw[a,X0 e]at c;have h:=iz m b;have key:zzA 409 true [.val (some 2) (aM.enc .S m),.val none [I f]] (.tup [some 2,none]) (aM.enc .own m++[B false]):=by
  refine fO 57 [(5,9,[31,32,33,34,35,36,37,38,39]),(6,270,[41,42,43,44,45,46,47,48,49,50,51,52,53,55,0,1,2,3,4,5,6,7,8,9,10,11,12,13,1000,1001,1002,1003,14,15])] Tryz.func409 rfl ?_ (.inl rfl)
  repeat'(first|refine gP ?_|(conv=>whnf);first|refine CE ?_|refine CB (c) ?_|refine CB (h) ?_)
  rfl
 have d:=key.fzR;rw[dI,aM.enc_fz]at d;exact d
def E3(m:aM)(f:Nat)(i:bU m=true)(k:f<m.U.length):zzA 409 true [.val (some 2) (aM.enc .S m),.val none [I (f:Nat)]] (.tup [some 2,none]) (aM.enc .S (if 0<(nth m.U f).length then gv m f else m)++[B (decide (0<(nth m.U f).length))]):=by
 have d:=qb.of i;have F:=d.sml;have N:=d.b4;have J:=d.i4;have l:=jz m f F;rw[i,O0 ω]at l;have G:=iz m F;have a:=VF k;have K:=d.bl f k;by_cases e:0<(nth m.U f).length
 ·rw[CD e,O0 e]
  have g:=((eY.1 i).2.1 f k).1 _ (au e);obtain⟨t,n⟩:=C4 g.1;have q:t<m.u.length:=ω
  have u:=ax e;have b:=ax q;have L:=d.il t ω;have w:=aM.enc_fz (gv m f);rw[JN m f t n]at w;generalize O:nth (nth m.U f) 0=p at *;obtain⟨P,H⟩:=p;simp only at n g w;subst n;have M:zzA 183 false [.val (some 2) (aM.enc .S m)] .agg [.s .own ((m.U.map (bO .own)).set f (bO .S (nth m.U f))),.s .own (m.u.map (aJ .own))]:=by
   have h:=G.fzAt (off:=0) (o:=.own) (rows:=m.U.map (bO .own)) rfl (by simp) (j:=f) (aa a);rw[lR]at h;exact h
  have y:((m.U.map (bO .own)).set f (bO .S (nth m.U f)))[f]? = some (bO .S (nth m.U f)):=C5 (by rw[O1];omega);have key:zzA 409 true [.val (some 2) (aM.enc .S m),.val none [I (f:Nat)]] (.tup [some 2,none]) ([.s .own ((m.U.map (bO .own)).set f [.s .S (((nth m.U f).drop 1).map (cW.enc .S))]),.s .own ((m.u.map (aJ .own)).set t (aJ .own (nth m.u t++[H])))]++[B true]):=by
   refine fO 57 [(5,9,[31,32,33,34,35,36,37,38,39]),(6,270,[41,42,43,44,45,46,47,48,49,50,51,52,53,55,0,1,2,3,4,5,6,7,8,9,10,11,12,13,1000,1001,1002,1003,14,15])] Tryz.func409 rfl ?_ (.inl rfl)
   repeat'(first|refine gB ?_|(conv=>whnf);first|with_reducible (first|refine CF (aa a) ?_|refine CF (aa b) ?_|refine Bf.E (λD=>?_) (λD=>?_))|refine CE ?_|refine CP (by decide) (aa u) ?_|refine CF y ?_|refine CF (fD b) ?_|refine CJ rfl y rfl ?_|refine CJ rfl (fD b) rfl ?_|refine CB (l) ?_|refine CB (M) ?_|refine CJ rfl (aa a) rfl ?_|refine CJ rfl (aa b) rfl ?_|refine Rw.two rfl (aa a) rfl rfl (aa u) rfl ?_|refine CJ rfl (aa u) rfl ?_|refine Lq.one rfl rfl (aa b) rfl (Z1 rfl) rfl rfl ?_|refine Sl.suf 1 rfl (by rw[O1];omega) (aS λ_=>rfl) Z5 ?_|refine CR rfl rfl y rfl (Z1 rfl) (show [C.s dQ.own ((m.U.map (bO .own)).set f [.s .S (((nth m.U f).drop 1).map (cW.enc .S))]),C.s .own (m.u.map (aJ .own))]=_ from by simp only[List.set_cons_zero,List.set_set,Z3];rfl) ?_|refine CR rfl rfl (fD b) rfl (Z1 rfl) (show [C.s dQ.own ((m.U.map (bO .own)).set f [.s .S (((nth m.U f).drop 1).map (cW.enc .S))]),C.s .own ((m.u.map (aJ .own)).set t (aJ .own (nth m.u t++[H])))]=_ from by simp only[List.set_cons_zero,List.set_cons_succ,List.set_set,Z3];rfl) ?_|refine Ap.sm (aS λ_=>rfl) rfl (by simp;omega) (by decide) (gH _ _ _) ?_|refine CE ?_)
   rfl
  have c:=key.fzR;change ar _ _ _ _ _ [fz (.s .own _),fz (.s .own _),fz (B true)]at c;rw[TW (r:=[.s .S (((nth m.U f).drop 1).map (cW.enc .S))]) (r':=[.s .own (((nth m.U f).drop 1).map (cW.enc .S))]) rfl]at c;rw[<-w];exact c
 rw[CC e,X0 e];have key:zzA 409 true [.val (some 2) (aM.enc .S m),.val none [I (f:Nat)]] (.tup [some 2,none]) (aM.enc .own m++[B false]):=by
  refine fO 57 [(5,9,[31,32,33,34,35,36,37,38,39]),(6,270,[41,42,43,44,45,46,47,48,49,50,51,52,53,55,0,1,2,3,4,5,6,7,8,9,10,11,12,13,1000,1001,1002,1003,14,15])] Tryz.func409 rfl ?_ (.inl rfl)
  repeat'(first|refine gB ?_|(conv=>whnf);first|with_reducible (first|refine CF (aa a) ?_|refine Bf.E (λD=>?_) (λD=>?_))|refine CE ?_|refine CB (l) ?_|refine CB (G) ?_|refine CJ rfl (aa a) rfl ?_)
  rfl
 have c:=key.fzR;rw[dI,aM.enc_fz]at c;exact c
def uK(h:ac)(t:Int)(i:ac.sml h)(d:aX h []):zzA 265 true [.val (some 24) (ac.enc .S h),.val none [I t]] (.tup [some 24,none]) (ac.enc .S (if(0<=t/\t<=h.T.length - 1)/\0<(nth h.a1.U t.toNat).length then {h with a1:=gv h.a1 t.toNat} else h)++[B (decide ((0<=t/\t<=h.T.length - 1)/\0<(nth h.a1.U t.toNat).length))]):=by
 have j:=d.nc;have e:=(i7 h i).fzR;rw[ac.enc_fz]at e;have g:=cr h i;rw[dz,d.to]at g;by_cases c:0<=t/\t<=h.T.length - 1
 ·obtain⟨k,rfl⟩:=C4 c.1
  simp only[Z3];have a:=E3 h.a1 k d.mail ω;by_cases b:0<(nth h.a1.U k).length
  ·rw[CD ⟨c,b⟩,O0 ⟨c,b⟩]
   rw[CD b,O0 b]at a;refine fO 29 [] Tryz.func265 rfl ?_ (.inl rfl)
   repeat'(first|refine gP ?_|(conv=>whnf);first|refine CE ?_|refine CB (e) ?_|refine CB (g) ?_|refine Cl.sh a rfl ?_|refine CB (a) ?_)
   rfl
  rw[CC (λx=>b x.2),X0 (λx=>b x.2)];rw[CC b,X0 b]at a;refine fO 29 [] Tryz.func265 rfl ?_ (.inl rfl)
  repeat'(first|refine gP ?_|(conv=>whnf);first|refine CE ?_|refine CB (e) ?_|refine CB (g) ?_|refine Cl.sh a rfl ?_|refine CB (a) ?_)
  rfl
 rw[CC (λx=>c x.1),X0 (λx=>c x.1)];have a:=Gu h.a1 t d.mail ω;refine fO 29 [] Tryz.func265 rfl ?_ (.inl rfl)
 repeat'(first|refine gP ?_|(conv=>whnf);first|refine CE ?_|refine CB (e) ?_|refine CB (g) ?_|refine Cl.sh a rfl ?_|refine CB (a) ?_)
 rfl
def D5(m:aM)(t:Nat)(d:bU m=true)(h:t<m.U.length):zzA 410 false [.val (some 2) (aM.enc .S m),.val none [I (t:Nat)]] (.tup [some 2,none]) (aM.enc .own (mg m t)++aJ .own (nth m.u t)):=by
 have b:=qb.of d;have e:=b.sml;have p:=b.b4;have j:=b.i4;have g:=jz m t e;rw[d,O0 ω]at g;have k:=iz m e;have c:=ax (xs:=m.u) (i:=t) ω;have l:=b.il t h;have n:=ef (nth m.u t) ω;have a:=aD (aM.enc_fr (mg m t)) (bQ (nth m.u t));have o:aM.enc .own (mg m t)=[.s .own (m.U.map (bO .own)),.s .own ((m.u.map (aJ .own)).set t [.s .own []])]:=by simp[aM.enc,mg,X8];rfl
 rw[o]at a |-;refine fO 25 [(5,7,[18,19,20,21,22,23,24])] Tryz.func410 rfl ?_ (.inr a)
 repeat'((conv=>whnf);first|with_reducible (first|refine Lm ?_|refine Wm ω ?_|refine CF (aa c) ?_|refine Bn ?_|refine js.dk rfl ?_)|refine Bt ?_|refine Bu ?_|refine CE ?_|refine CB (g) ?_|refine CB (k) ?_|refine CB (n) ?_|refine CJ rfl (aa c) rfl ?_|refine CR rfl rfl (aa c) rfl (Z1 rfl) rfl ?_|refine CE ?_)
 exact .cons (.rfl_ _) (.cons (NK.set _ _ (.cons .z_ .nil)) (.cons (.rfl_ _) .nil))
def nK(h:ac)(t:Int)(l:ac.sml h)(a:aX h []):zzA 267 false [.val (some 24) (ac.enc .S h),.val none [I t]] (.tup [some 24,none]) (cV (if h.G.Calls≠100000/\0<=t/\t<=h.T.length - 1 then collect h t.toNat else h)++[I (if h.G.Calls≠100000/\0<=t/\t<=h.T.length - 1 then((nth h.a1.u t.toNat).length:Nat) else 0)]):=by
 have r:=a.nc;have u:=(eY.1 a.mail).1.2.2;have n:=dw h l;have b:=oo h t l;rw[a.to]at b;by_cases e:h.G.Calls≠100000/\0<=t/\t<=h.T.length - 1;rotate_left
 ·rw[CC e,CC e]
  rw[show(decide (0<=t/\t<=h.T.length - 1)&&decide (h.G.Calls≠100000)&&true)=false by
    rw[Bool.and_true,<-X7,I0,C0,C0];exact λx=>e ⟨x.2,x.1⟩]at b
  refine fP 40 [(109,[2,0,0])] [] Tryz.func267 rfl ?_ (.inr (aD (bT _) ⟨trivial,trivial⟩))
  repeat'(first|refine gP ?_|(conv=>whnf);first|refine CE ?_|refine CB (n) ?_|refine CB (b) ?_)
  rfl
 rw[CD e,CD e];obtain⟨o,p⟩:=e;rw[show(decide (0<=t/\t<=h.T.length - 1)&&decide (h.G.Calls≠100000)&&true)=true by
   rw[Bool.and_true,I0,C0,C0];exact⟨p,o⟩]at b
 obtain⟨T,rfl⟩:=C4 p.1;simp only[Z3];have q:=D5 h.a1 T a.mail ω;have d:=(qb.of a.mail).il T ω;have g:=a.coll (t:=T) ω;rw[List.append_nil]at g;unfold collect;generalize nth h.a1.u T=out at q g d |-;refine fP 40 [(109,[2,0,0])] [] Tryz.func267 rfl ?_ (.inr (aD (bT _) ⟨trivial,trivial⟩))
 repeat'(first|refine gP ?_|(conv=>whnf);first|refine CE ?_|refine CB (n) ?_|refine CB (b) ?_|refine CB (q) ?_)
 (conv=>whnf)
 refine CH (ι:=Nat) (λk=>[(1,.H .one [I ((T:Nat):Int)]),(4,.H .box tZ),(6,.H .box (cV (recycs T {h with a1:=mg h.a1 T} (out.take k)))),(8,.H .one (aJ .own out)),(27,.c1 8 0 [] none),(28,.H .one [I (out.length)]),(29,.H .one [I ((k:Nat):Int)])]) (λk=>k<=out.length) (λk=>out.length - k) (0) ?_ (Z0 _) λk y=>?_
 ·exact wC
 by_cases i:k<out.length
 ·have c:=ax i
  have j:aX (recycs T {h with a1:=mg h.a1 T} (out.take k)) (nth out k::out.drop (k+1)):=by
   refine aX.recycs ?_ (by show T<h.T.length;omega);rw[<-iC i,List.take_append_drop];exact g
  have w:=ua _ _ T _ j (by rw[(fB T _ _).1];show T<h.T.length;omega) (by rw[(fB T _ _).2.2.1];exact o)
  repeat'(first|refine gE ?_|(conv=>whnf);first|refine CE ?_|refine CF (aa c) ?_|refine CJ rfl (aa c) rfl ?_|refine CK (w) (.inl rfl) ?_)
  ((conv=>whnf);refine CG (k+1) ω ω ?_)
  rw[FO _ _ _ _ i];exact wC
 obtain rfl:k=out.length:=ω
 rw[I7]
 repeat'(first|refine gE ?_|(conv=>whnf);first|refine CE ?_)
 rfl
def mod1(k:am)(q:Nat):Prop:=(nth k.F.Q.J q).e=1
def K1(k a:am):Prop:=∀q,mod1 a q->mod1 k q
structure S1(h g:ac):Prop where
 k:K1 h.G g.G
 m:g.k=h.k
 j:g.Y=h.Y
def FS(h:ac)(a:Int):Int:=cF (BJ a) h.O
def RP(e:0<=FS h a):(FS h a).toNat<h.O.length/\(nth h.O (FS h a).toNat).Addr<=a/\a<(nth h.O (FS h a).toNat).Addr+(nth h.O (FS h a).toNat).q:=by
 obtain⟨b,c,-⟩:=fT (BJ a) h.O e;exact⟨b,of_decide_eq_true c⟩
def wi(o:aU)(a:Int)(c:0<=o.q/\o.q<=1000/\0<=o.Addr/\o.Addr<=1000):zzA 587 false [.val (some 4) (aU.enc .S o),.ptr [I a]] .one [B (BJ a o)]:=by
 have b:=aG a o.Addr (o.Addr+o.q - 1);refine fO 14 [] Tryz.func587 rfl ?_
 repeat'(first|refine gP ?_|(conv=>whnf);first|refine CE ?_|refine CB (b) ?_)
 exact C1 (λz=>[B z]) ((by unfold BJ;exact decide_eq_decide.2 ω))
def zV(h:ac)(a:Int)(e:h.O.length<=1048576)(b:∀o∈h.O,0<=o.q/\o.q<=1000/\0<=o.Addr/\o.Addr<=1000):zzA 567 false [.val (some 24) (ac.enc .S h),.val none [I a]] .one [I (FS h a)]:=by
 refine fO 9 [] Tryz.func567 rfl ?_
 repeat'(first|refine gP ?_|(conv=>whnf);first|refine CE ?_|refine Cq.mk (nl (some 4) (aU.enc .S) (BJ a) h.O) (wi ⟨0,0,0,0⟩ a (by decide)).has (λL k rcs c=>?_) ?_|refine CB (ko h.O (BJ a) ω) ?_)
 ·obtain⟨y,d,rfl,rfl,rfl⟩:=c
  exact wi y a (b y d)
 rfl
def rc(h:ac)(a:Int)(e:ac.sml h)(b:aX h []):zzA 504 false [.val (some 24) (ac.enc .S h),.val none [I a]] .one [I (FS h a)]:=by
 have c:=cr h e;rw[dz,b.to]at c;have g:=b.lens.objs;have i:=zV h a ω (λo d=>by
   have j:=b.objSz o d;have k:=yw b d;omega)
 refine fO 11 [] Tryz.func504 rfl ?_
 repeat'(first|refine gP ?_|(conv=>whnf);first|refine CE ?_|refine CB (c) ?_|refine CB (i) ?_)
 rfl
def Lk(b:aX h [])(e:0<=FS h a):(af (tbl h) (a / 16)).e≠0/\0<=a/\a<512:=by
 obtain⟨c,d,f⟩:=RP e;have:=cX b (au c) (k:=a - (nth h.O (FS h a).toNat).Addr) ω;rw[show(nth h.O (FS h a).toNat).Addr+(a - (nth h.O (FS h a).toNat).Addr)=a by omega]at this;exact⟨this.1,ω,ω⟩
def E7(h:ac)(a v:Int):ac × Int:=if FS h a<0 then(h,1) else if(af (tbl h) (a / 16)).e=1 then(h,2) else({h with G:=dD h.G a v},0)
def x7(h:ac)(a v:Int)(l:ac.sml h)(c:aX h [])(o:0<=v/\v<=999):zzA 405 false [.val (some 24) (ac.enc .S h),.val none [I a],.val none [I v]] (.tup [some 24,none]) (cV (E7 h a v).1++[I (E7 h a v).2]):=by
 have i:=dw h l;have j:=rc h a l c;unfold E7;by_cases e:FS h a<0
 ·rw[CD e]
  refine fO 38 [] Tryz.func405 rfl ?_ (.inr (aD (bT _) ⟨trivial,trivial⟩))
  repeat'(first|refine gE ?_|(conv=>whnf);first|with_reducible refine Bf.D (λb=>?_) (λb=>?_)|refine CE ?_|refine CB (i) ?_|refine CB (j) ?_)
  rfl
 rw[CC e];obtain⟨n,p⟩:=Lk c (show 0<=FS h a by omega);have k:=bX c.ker;obtain⟨-,-,-,q,u⟩:=bR c.ker n;have r:=(aZ.1 (aH.1 c.ker).2.1).2.2.1;have d:=yo h.G.F a v (kg c.ker) k.1 p o (λ_=>⟨q,ω,c.lens.row _ (au ω)⟩);unfold iP at d;rw[CC (show ¬(af h.G.F.Q (a / 16)).e=0 from n)]at d;by_cases g:(af h.G.F.Q (a / 16)).e=1
 ·rw[CD g]at d
  rw[CD (show(af (tbl h) (a / 16)).e=1 from g)];refine fO 38 [] Tryz.func405 rfl ?_ (.inr (aD (bT _) ⟨trivial,trivial⟩))
  repeat'(first|refine gB ?_|(conv=>whnf);first|with_reducible (first|refine Bf.D (λb=>?_) (λb=>?_)|refine Bf.E (λb=>?_) (λb=>?_))|refine CE ?_|refine CB (i) ?_|refine CB (j) ?_|refine CB (d) ?_)
  rfl
 rw[CC g]at d;rw[CC (show ¬(af (tbl h) (a / 16)).e=1 from g)];have t:cV {h with G:=dD h.G a v} = (cV h).set 0 (.s .own ((dD h.G a v).F.X.V.map (aJ .own))):=rfl;refine fO 38 [] Tryz.func405 rfl ?_ (.inr (aD (bT _) ⟨trivial,trivial⟩))
 repeat'(first|refine gB ?_|(conv=>whnf);first|with_reducible (first|refine Bf.D (λb=>?_) (λb=>?_)|refine Bf.E (λb=>?_) (λb=>?_))|refine CE ?_|refine CB (i) ?_|refine CB (j) ?_|refine CB (d) ?_)
 rfl
def Qd{k:am}{a:Int}(b:dG k a<k.F.X.V.length):∀m:Nat,a % 16+m<=16->zK k a m=fA k a m
 | 0,_=>by
  unfold zK fA lT;rw[Ed b]
 | m+1,h=>by
  have c:(af k.F.Q ((a+m) / 16))=af k.F.Q (a / 16):=by rw[show(a+(m:Int)) / 16=a / 16 by omega]
  have d:((a+(m:Int)) % 16).toNat=(a % 16).toNat+m:=ω
  show dD (zK k a m) (a+m) 0=_;rw[Qd b m ω];unfold dD setCell dG fA;simp only[c,d,lT];rw[show(af k.F.Q (a / 16)).j.toNat=dG k a from rfl,bz,CD ⟨rfl,b⟩,List.set_set]
def zo(l:aB)(n:Int)(d:bK l=true):zzA 507 false [.val (some 3) (aB.enc .S l),.val none [I n]] (.tup [some 3,some 2,none]) (if 9<=n/\n<=l.q then aB.enc .own (trimL l n)++aC.enc .own (nE l n)++[B true] else aB.enc .own l++[I 0,I 0]++[B false]):=by
 have b:=nY l;rw[d]at b;have a:=aG n 9 l.q;have g:=d;unfold bK at g;rw[C0]at g;by_cases e:9<=n/\n<=l.q
 ·rw[O0 e]at a
  rw[CD e];have c:=mQ n;rw[show fU n=(n+15) / 16 by unfold fU;rw[CD ω]]at c;unfold nE;by_cases h:(n+15) / 16<l.a2
  ·rw[CD h]
   refine fO 45 [(3,7,[20,21,22,23,24,25,7]),(6,268,[33,34,35,36,37,38,39,40,41,42,43,44,0,1,2,3,4,5,6,7,8,9,10,11,12,1001,1002,1003,1004,1005,1006,1007,1008,1009,1010,1011,13,14])] Tryz.func507 rfl ?_ (.inr ⟨trivial,trivial,trivial,trivial,trivial,trivial,trivial⟩)
   repeat'(first|refine gB ?_|(conv=>whnf);first|refine CE ?_|refine CB (b) ?_|refine CB (a) ?_|refine CB (c) ?_|refine CE ?_)
   rfl
  rw[CC h];have i:(n+15) / 16=l.a2:=ω
  refine fO 45 [(3,7,[20,21,22,23,24,25,7]),(6,268,[33,34,35,36,37,38,39,40,41,42,43,44,0,1,2,3,4,5,6,7,8,9,10,11,12,1001,1002,1003,1004,1005,1006,1007,1008,1009,1010,1011,13,14])] Tryz.func507 rfl ?_ (.inr ⟨trivial,trivial,trivial,trivial,trivial,trivial,trivial⟩)
  repeat'(first|refine gB ?_|(conv=>whnf);first|refine CE ?_|refine CB (b) ?_|refine CB (a) ?_|refine CB (c) ?_|refine CE ?_)
  rfl
 rw[X0 e]at a;rw[CC e];refine fO 45 [(3,7,[20,21,22,23,24,25,7]),(6,268,[33,34,35,36,37,38,39,40,41,42,43,44,0,1,2,3,4,5,6,7,8,9,10,11,12,1001,1002,1003,1004,1005,1006,1007,1008,1009,1010,1011,13,14])] Tryz.func507 rfl ?_ (.inr ⟨trivial,trivial,trivial,trivial,trivial,trivial,trivial⟩)
 repeat'(first|refine gP ?_|(conv=>whnf);first|refine CE ?_|refine CB (b) ?_|refine CB (a) ?_|refine CE ?_)
 rfl
def de(l:aB)(a:Int)(b:0<=l.R/\l.R<=32):zzA 506 false [.val (some 3) (aB.enc .S l),.ptr [I a]] .one [B (nI a l)]:=by
 refine fO 9 [] Tryz.func506 rfl ?_
 repeat'(first|refine gP ?_|(conv=>whnf);first|refine CE ?_)
 exact C1 (λz=>[B z]) ((by unfold nI;rw[Y6];simp))
def JL(h:ac)(i g:Nat)(n:Int)(K:am)(a:h.M≠[])(b:h.O≠[]):cV (mA h i g n K)=cE {h with G:=K} (oS h) (.s .own ((h.M.map (aB.enc .own)).set g (aB.enc .own (trimL (nth h.M g) n)))) (.s .own ((h.O.map (aU.enc .own)).set i (splice (aU.enc .own (nth h.O i)) 2 [I n]))):=by
 have c:oL (mA h i g n K)=.s .own ((h.M.map (aB.enc .own)).set g (aB.enc .own (trimL (nth h.M g) n))):=by
  unfold oL;rw[oM (by simp[mA];exact a)];simp[mA,X8]
 have d:oO (mA h i g n K)=.s .own ((h.O.map (aU.enc .own)).set i (splice (aU.enc .own (nth h.O i)) 2 [I n])):=by
  unfold oO;rw[oM (by simp[mA];exact b),My]
 unfold cV;rw[c,d];rfl
def zT(h:ac)(i:Nat)(n:Int)(hs:ac.sml h)(o:aX h [])(W:i<h.O.length):zzA 407 false [.val (some 24) (ac.enc .S h),.val none [I (nth h.O i).Addr],.val none [I n]] (.tup [some 24,none]) (cV (if h.G.Calls≠100000/\mM h i n then trimH h i (AR h (nth h.O i).Addr).toNat n else h)++[B (decide (h.G.Calls≠100000/\mM h i n))]):=by
 have l:=o.lens;have hnl:=l.larges;have hno:=l.objs;have hpg:gY h<=32:=l.ents;have N:=dw h hs;have O:=cr h hs;rw[dz,o.to]at O;have C:=lf h.M (nI (nth h.O i).Addr) ω;have d:∀y∈h.M,0<=y.R/\y.R<=32:=λy p=>by have:=aR (o.L.lok y p);omega
 change ar _ _ _ _ _ [I (AR h (nth h.O i).Addr)]at C;by_cases e1:AR h (nth h.O i).Addr<0
 ·rw[CC (λx=>by have:=x.2.1;omega),X0 (λx=>by have:=x.2.1;omega)]
  refine fP 81 [(105,[2,0,0]),(103,[2,0])] [(9,6,[53,54,55,56,57,58])] Tryz.func407 rfl ?_ (.inr (aD (bT _) ⟨trivial,trivial⟩))
  repeat'(first|refine gE ?_|(conv=>whnf);first|refine CE ?_|refine CB (N) ?_|refine CB (O) ?_|refine Cq.mk (nl (some 3) (aB.enc .S) (nI (nth h.O i).Addr) h.M) (de ⟨0,0,0⟩ (nth h.O i).Addr ⟨by decide,by decide⟩).has (λL k rcs q=>?_) ?_|refine CB (C) ?_)
  ·obtain⟨y,p,rfl,rfl,rfl⟩:=q
   exact de y _ (d y p)
  rfl
 by_cases X:h.G.Calls=100000
 ·rw[CC (λx=>x.1 X),X0 (λx=>x.1 X)]
  refine fP 81 [(105,[2,0,0]),(103,[2,0])] [(9,6,[53,54,55,56,57,58])] Tryz.func407 rfl ?_ (.inr (aD (bT _) ⟨trivial,trivial⟩))
  repeat'(first|refine gB ?_|(conv=>whnf);first|refine CE ?_|refine CB (N) ?_|refine CB (O) ?_|refine Cq.mk (nl (some 3) (aB.enc .S) (nI (nth h.O i).Addr) h.M) (de ⟨0,0,0⟩ (nth h.O i).Addr ⟨by decide,by decide⟩).has (λL k rcs q=>?_) ?_|refine CB (C) ?_)
  ·obtain⟨y,p,rfl,rfl,rfl⟩:=q
   exact de y _ (d y p)
  rfl
 obtain⟨f1,f2,f3⟩:=fT (nI (nth h.O i).Addr) h.M (by unfold AR at e1;omega);obtain⟨g,t⟩:=C4 (show 0<=AR h (nth h.O i).Addr by omega);have r:g<h.M.length:=by unfold AR at t;omega
 have hga:(nth h.M g).R*16=(nth h.O i).Addr:=by
  have:=of_decide_eq_true f2;rw[show(cF (nI (nth h.O i).Addr) h.M).toNat=g by unfold AR at t;omega]at this;exact this
 have E:mM h i n↔9<=n/\n<=(nth h.M g).q:=by
  unfold mM;rw[t,Z3];exact⟨λx=>x.2,λx=>⟨ω,x⟩⟩
 rw[t,Z3];rw[t]at C;have b:=ax r;have P:=zo (nth h.M g) n (o.L.lok _ (au r));by_cases U:9<=n/\n<=(nth h.M g).q;rotate_left
 ·rw[CC (λx=>U (E.1 x.2)),X0 (λx=>U (E.1 x.2))]
  rw[CC U]at P;refine fP 81 [(105,[2,0,0]),(103,[2,0])] [(9,6,[53,54,55,56,57,58])] Tryz.func407 rfl ?_ (.inr (aD (bT _) ⟨trivial,trivial⟩))
  repeat'(first|refine gB ?_|(conv=>whnf);first|with_reducible refine CF (aa b) ?_|refine CE ?_|refine CB (N) ?_|refine CB (O) ?_|refine Cq.mk (nl (some 3) (aB.enc .S) (nI (nth h.O i).Addr) h.M) (de ⟨0,0,0⟩ (nth h.O i).Addr ⟨by decide,by decide⟩).has (λL k rcs q=>?_) ?_|refine CB (C) ?_|refine CB (P) ?_|refine CJ rfl (aa b) rfl ?_)
  ·obtain⟨y,p,rfl,rfl,rfl⟩:=q
   exact de y _ (d y p)
  rfl
 rw[CD ⟨X,E.2 U⟩,O0 ⟨X,E.2 U⟩];rw[CD U]at P;change ar _ _ _ _ _ ([I (nth h.M g).R,I ((n+15) / 16),I n]++aC.enc .own (nE (nth h.M g) n)++[B true]) at P;obtain⟨-,Y,u⟩:=o.objAt (au W);have hii:oJ h (nth h.O i).Addr=i:=by
  have h2:=(o.objAt (au W)).1;exact cU (f:=(·.Addr)) (d9 o.osr) h2 W (by rw[Y])
 rw[hii]at u;have Z:=r9 h (nth h.O i).Addr ω;rw[u]at Z;have c:=ax W;have h8:=o.L.lok _ (au r);unfold bK at h8;rw[C0]at h8;have Q:h.M≠[]:=fW r;have R:h.O≠[]:=fW W;have heh:cV h=cE h (oS h) (.s .own (h.M.map (aB.enc .own))) (.s .own (h.O.map (aU.enc .own))):=by
  unfold cV oL oO;rw[oM λe=>Q (List.map_eq_nil_iff.1 e),oM λe=>R (List.map_eq_nil_iff.1 e)]
 rw[heh]at N;have heT:=λK=>JL h i g n K Q R
 have F:((nth h.M g).R*16+n).tmod 16=((nth h.M g).R*16+n) % 16:=fV ω;have S:=zQ o r U (O4 _);have hm1:=kD o r (a:=16*(nth h.M g).R+n - 1) ω;have w:=pS h.G (16*(nth h.M g).R+n) (16*((n+15) / 16) - n).toNat;have T:trimH h i g n = {mA h i g n (jL h g n) with G:=unmN (jL h g n) ((nth h.M g).R+(n+15) / 16) (dq (nth h.M g) n),o:=ya h g n}:=rfl;obtain⟨K,hK⟩ : ∃K,K=jL h g n:=⟨_,rfl⟩
 have G:(((nth h.M g).R*16+n) % 16=0->K=h.G)/\(((nth h.M g).R*16+n) % 16≠0->K=fA h.G ((nth h.M g).R*16+n) (16 - ((nth h.M g).R*16+n) % 16).toNat):=by
  rw[hK];unfold jL;constructor
  ·intro z
   rw[show(16*((n+15) / 16) - n).toNat=0 by omega];rfl
  intro z;rw[show(16*((n+15) / 16) - n).toNat=(16 - ((nth h.M g).R*16+n) % 16).toNat by omega,show 16*(nth h.M g).R+n=(nth h.M g).R*16+n by omega];refine Qd ?_ _ ω;obtain⟨-,-,-,q0,q1⟩:=bR o.ker hm1;have hul:=(aZ.1 (aH.1 o.ker).2.1).2.2.1;rw[show(16*(nth h.M g).R+n - 1) / 16=((nth h.M g).R*16+n) / 16 by omega]at q0 q1;unfold dG;omega
 rw[T,<-hK];have hkk:aF K=true:=by rw[hK];exact S
 have hkc:K.Calls≠100000:=by rw[hK];show(zK _ _ _).Calls≠_;rw[w.2.1];exact X
 have hke:K.F.Q.J.length=h.G.F.Q.J.length:=by rw[hK];show(zK _ _ _).F.Q.J.length=_;rw[w.1]
 have hpn:gY (mA h i g n K)=gY h:=hke;clear T S w;have c9:=jj (mA h i g n K) (nE (nth h.M g) n) (dq (nth h.M g) n) hkk hkc (by show h.o.length<=_;have:=l.free;omega) (by
   unfold nE dq;split
   · exact⟨by show(nth h.M g).a2 - (n+15) / 16=_;omega,by show 0<=(nth h.M g).R+(n+15) / 16;omega,by show(nth h.M g).R+(n+15) / 16<=_;omega,ω⟩
   exact⟨by show(0:Int)=_;omega,by show(0:Int)<=0;omega,by show(0:Int)<=_;omega,ω⟩)
 rw[hpn,heT]at c9;have hd:cV {mA h i g n K with G:=unmN K ((nth h.M g).R+(n+15) / 16) (dq (nth h.M g) n),o:=ya h g n} = if(n+15) / 16<(nth h.M g).a2 then cV {mA h i g n K with G:=unmN K (nE (nth h.M g) n).At (dq (nth h.M g) n),o:=(ch (gY h) h.o (nE (nth h.M g) n)).getD h.o} else cE {h with G:=K} (oS h) (.s .own ((h.M.map (aB.enc .own)).set g (aB.enc .own (trimL (nth h.M g) n)))) (.s .own ((h.O.map (aU.enc .own)).set i (splice (aU.enc .own (nth h.O i)) 2 [I n]))):=by
  by_cases e:(n+15) / 16<(nth h.M g).a2
  ·rw[CD e]
   have e5:nE (nth h.M g) n = ⟨(nth h.M g).R+(n+15) / 16,(nth h.M g).a2 - (n+15) / 16⟩:=by unfold nE;rw[CD e]
   have H:((dq (nth h.M g) n:Nat):Int)=(nth h.M g).a2 - (n+15) / 16:=by unfold dq;omega
   rw[e5];unfold ya;rw[CD ω,H]
  rw[CC e,<-heT];have H:dq (nth h.M g) n=0:=by unfold dq;omega
  unfold ya;rw[H,CC ω];rfl
 rw[hd];have J:(nE (nth h.M g) n).a6=if(n+15) / 16<(nth h.M g).a2 then(nth h.M g).a2 - (n+15) / 16 else 0:=by unfold nE;split<;>rfl
 have j:iq (if(n+15) / 16<(nth h.M g).a2 then cV {mA h i g n K with G:=unmN K (nE (nth h.M g) n).At (dq (nth h.M g) n),o:=(ch (gY h) h.o (nE (nth h.M g) n)).getD h.o} else cE {h with G:=K} (oS h) (.s .own ((h.M.map (aB.enc .own)).set g (aB.enc .own (trimL (nth h.M g) n)))) (.s .own ((h.O.map (aU.enc .own)).set i (splice (aU.enc .own (nth h.O i)) 2 [I n])))):=by rw[<-hd];exact bT _
 clear hd hga u Y f1 f2 f3;by_cases e5:((nth h.M g).R*16+n) % 16=0
 ·have M:=G.1 e5
  rw[M]at c9 j |-;clear G;by_cases H:(n+15) / 16<(nth h.M g).a2
  ·rw[CD H]at j J |-
   refine fP 81 [(105,[2,0,0]),(103,[2,0])] [(9,6,[53,54,55,56,57,58])] Tryz.func407 rfl ?_ (.inr (aD j ⟨trivial,trivial⟩))
   repeat'(first|refine gB ?_|(conv=>whnf);first|with_reducible (first|refine Bf.D (λV=>?_) (λV=>?_)|refine CF (aa b) ?_|refine CF (aa c) ?_)|refine CE ?_|refine CB (N) ?_|refine CB (O) ?_|refine Cq.mk (nl (some 3) (aB.enc .S) (nI (nth h.O i).Addr) h.M) (de ⟨0,0,0⟩ (nth h.O i).Addr ⟨by decide,by decide⟩).has (λL k rcs q=>?_) ?_|refine CB (C) ?_|refine CB (P) ?_|refine CB (Z) ?_|refine CJ rfl (aa b) rfl ?_|refine CJ rfl (aa c) rfl ?_|refine CR rfl rfl (aa b) rfl (Z1 rfl) rfl ?_|refine CR rfl rfl (aa c) rfl (Z1 rfl) rfl ?_|refine CQ (by decide) ?_|refine CS F ?_|refine CK (c9) (.inl rfl) ?_)
   ·obtain⟨y,p,rfl,rfl,rfl⟩:=q
    exact de y _ (d y p)
   rfl
  rw[CC H]at j J |-;refine fP 81 [(105,[2,0,0]),(103,[2,0])] [(9,6,[53,54,55,56,57,58])] Tryz.func407 rfl ?_ (.inr (aD j ⟨trivial,trivial⟩))
  repeat'(first|refine gB ?_|(conv=>whnf);first|with_reducible (first|refine Bf.D (λV=>?_) (λV=>?_)|refine CF (aa b) ?_|refine CF (aa c) ?_)|refine CE ?_|refine CB (N) ?_|refine CB (O) ?_|refine Cq.mk (nl (some 3) (aB.enc .S) (nI (nth h.O i).Addr) h.M) (de ⟨0,0,0⟩ (nth h.O i).Addr ⟨by decide,by decide⟩).has (λL k rcs q=>?_) ?_|refine CB (C) ?_|refine CB (P) ?_|refine CB (Z) ?_|refine CJ rfl (aa b) rfl ?_|refine CJ rfl (aa c) rfl ?_|refine CR rfl rfl (aa b) rfl (Z1 rfl) rfl ?_|refine CR rfl rfl (aa c) rfl (Z1 rfl) rfl ?_|refine CQ (by decide) ?_|refine CS F ?_)
  ·obtain⟨y,p,rfl,rfl,rfl⟩:=q
   exact de y _ (d y p)
  rfl
 have M:=G.2 e5;have hcc:0<=(af h.G.F.Q (((nth h.M g).R*16+n) / 16)).j/\(af h.G.F.Q (((nth h.M g).R*16+n) / 16)).j<h.G.F.X.V.length:=by
  obtain⟨-,-,-,q0,q1⟩:=bR o.ker hm1;have hul:=(aZ.1 (aH.1 o.ker).2.1).2.2.1;rw[show(16*(nth h.M g).R+n - 1) / 16=((nth h.M g).R*16+n) / 16 by omega]at q0 q1;exact⟨q0,ω⟩
 have c8:=lh h (oS h) (.s .own ((h.M.map (aB.enc .own)).set g (aB.enc .own (trimL (nth h.M g) n)))) (.s .own ((h.O.map (aU.enc .own)).set i (splice (aU.enc .own (nth h.O i)) 2 [I n]))) ((nth h.M g).R*16+n) (16 - ((nth h.M g).R*16+n) % 16).toNat o.ker ω hcc ω (l.row _ (au (by unfold dG;omega)));rw[<-M,show(((16 - ((nth h.M g).R*16+n) % 16).toNat:Nat):Int)=16 - ((nth h.M g).R*16+n) % 16 by omega]at c8;clear G M;by_cases H:(n+15) / 16<(nth h.M g).a2
 ·rw[CD H]at j J |-
  refine fP 81 [(105,[2,0,0]),(103,[2,0])] [(9,6,[53,54,55,56,57,58])] Tryz.func407 rfl ?_ (.inr (aD j ⟨trivial,trivial⟩))
  repeat'(first|refine gB ?_|(conv=>whnf);first|with_reducible (first|refine Bf.D (λV=>?_) (λV=>?_)|refine CF (aa b) ?_|refine CF (aa c) ?_)|refine CE ?_|refine CB (N) ?_|refine CB (O) ?_|refine Cq.mk (nl (some 3) (aB.enc .S) (nI (nth h.O i).Addr) h.M) (de ⟨0,0,0⟩ (nth h.O i).Addr ⟨by decide,by decide⟩).has (λL k rcs q=>?_) ?_|refine CB (C) ?_|refine CB (P) ?_|refine CB (Z) ?_|refine CJ rfl (aa b) rfl ?_|refine CJ rfl (aa c) rfl ?_|refine CR rfl rfl (aa b) rfl (Z1 rfl) rfl ?_|refine CR rfl rfl (aa c) rfl (Z1 rfl) rfl ?_|refine CQ (by decide) ?_|refine CS F ?_|refine CK (c8) (.inl rfl) ?_|refine CK (c9) (.inl rfl) ?_)
  ·obtain⟨y,p,rfl,rfl,rfl⟩:=q
   exact de y _ (d y p)
  rfl
 rw[CC H]at j J |-;refine fP 81 [(105,[2,0,0]),(103,[2,0])] [(9,6,[53,54,55,56,57,58])] Tryz.func407 rfl ?_ (.inr (aD j ⟨trivial,trivial⟩))
 repeat'(first|refine gB ?_|(conv=>whnf);first|with_reducible (first|refine Bf.D (λV=>?_) (λV=>?_)|refine CF (aa b) ?_|refine CF (aa c) ?_)|refine CE ?_|refine CB (N) ?_|refine CB (O) ?_|refine Cq.mk (nl (some 3) (aB.enc .S) (nI (nth h.O i).Addr) h.M) (de ⟨0,0,0⟩ (nth h.O i).Addr ⟨by decide,by decide⟩).has (λL k rcs q=>?_) ?_|refine CB (C) ?_|refine CB (P) ?_|refine CB (Z) ?_|refine CJ rfl (aa b) rfl ?_|refine CJ rfl (aa c) rfl ?_|refine CR rfl rfl (aa b) rfl (Z1 rfl) rfl ?_|refine CR rfl rfl (aa c) rfl (Z1 rfl) rfl ?_|refine CQ (by decide) ?_|refine CS F ?_|refine CK (c8) (.inl rfl) ?_)
 ·obtain⟨y,p,rfl,rfl,rfl⟩:=q
  exact de y _ (d y p)
 rfl
def EJ(h:ac)(t a:Int)(b:ac.sml h)(e:fg h=true)(j:h.G.Calls≠100000)(g:¬(0<=t/\t<=h.T.length - 1)):zzA 33 false [.val (some 24) (ac.enc .S h),.val none [I t],.val none [I a]] (.tup [some 24,none]) (cV h++[I 1]):=by
 have c:=cr h b;rw[dz,e]at c;have i:h.T.length<=1048576:=b.2.2.2.2.2.1.1;have d:=aG t 0 (h.T.length - 1:Int);rw[X0 g]at d;refine fP 163 [(99,[1,0,0]),(102,[1,0,0]),(103,[2,0]),(105,[2,0,0]),(109,[2,0,0])] [(20,12,[85,86,87,88,89,90,91,92,93,94,95,96]),(24,4,[111,112,113,114])] Tryz.func33 rfl ?_ (.inr (aD (bT _) ⟨trivial,trivial⟩))
 repeat'(first|refine gB ?_|(conv=>whnf);first|refine CE ?_|refine CB (c) ?_|refine CB (d) ?_|refine CB (dw h b) ?_)
 rfl
def MS(m:aV)(a v:Int)(h:df m=true)(c:aV.sml m)(i:0<=a/\a<512)(j:¬(0<=v/\v<=999))(k:(af m.Q (a / 16)).e≠0):zzA 505 false [.val (some 3) (aV.enc .S m),.val none [I a],.val none [I v]] (.tup [some 3,none]) (aV.enc .own m++[I (if(af m.Q (a / 16)).e=1 then 2 else 3)]):=by
 have d:=jQ m c;have e:=te m a h c i;have b:=aG v 0 999;rw[X0 j]at b;by_cases g:(af m.Q (a / 16)).e=1
 ·rw[CD g]
  refine fO 42 [] Tryz.func505 rfl ?_ (.inr (aD (aV.enc_fr m) ⟨trivial,trivial⟩))
  repeat'(first|refine gB ?_|(conv=>whnf);first|refine CE ?_|refine CB (d) ?_|refine CB (e) ?_|refine CB (b) ?_)
  rfl
 rw[CC g];refine fO 42 [] Tryz.func505 rfl ?_ (.inr (aD (aV.enc_fr m) ⟨trivial,trivial⟩))
 repeat'(first|refine gB ?_|(conv=>whnf);first|refine CE ?_|refine CB (d) ?_|refine CB (e) ?_|refine CB (b) ?_)
 rfl
def A2(h:ac)(a v:Int)(i:ac.sml h)(c:aX h [])(n:¬(0<=v/\v<=999))(e:0<=FS h a):zzA 405 false [.val (some 24) (ac.enc .S h),.val none [I a],.val none [I v]] (.tup [some 24,none]) (cV h++[I (if(af (tbl h) (a / 16)).e=1 then 2 else 3)]):=by
 have j:=dw h i;have k:=rc h a i c;obtain⟨o,p⟩:=Lk c e;have g:=bX c.ker;have d:=MS h.G.F a v (kg c.ker) g.1 p n o;unfold tbl;by_cases l:(af h.G.F.Q (a / 16)).e=1
 ·rw[CD l]at d |-
  refine fO 38 [] Tryz.func405 rfl ?_ (.inr (aD (bT _) ⟨trivial,trivial⟩))
  repeat'(first|refine gB ?_|(conv=>whnf);first|with_reducible (first|refine Bf.D (λb=>?_) (λb=>?_)|refine Bf.E (λb=>?_) (λb=>?_))|refine CE ?_|refine CB (j) ?_|refine CB (k) ?_|refine CB (d) ?_)
  rfl
 rw[CC l]at d |-;refine fO 38 [] Tryz.func405 rfl ?_ (.inr (aD (bT _) ⟨trivial,trivial⟩))
 repeat'(first|refine gB ?_|(conv=>whnf);first|with_reducible (first|refine Bf.D (λb=>?_) (λb=>?_)|refine Bf.E (λb=>?_) (λb=>?_))|refine CE ?_|refine CB (j) ?_|refine CB (k) ?_|refine CB (d) ?_)
 rfl
end Go.Proofs.YtiopgblagimpmaaGreat.Ab
