/- A large object trimmed: a heap stays whole. No condition. -/
import Derived.Test.YtifeilefdakapaaGreatDoorKPd
import Derived.Test.YtifeilefdakapaaGreatDoorKPf
import Derived.Test.YtifeilefdakapaaGreatDoorKPe
set_option linter.unusedVariables false
set_option linter.defProp false
set_option linter.unusedSimpArgs false
set_option linter.constructorNameAsVariable false
namespace Go.Proofs.YtifeilefdakapaaGreatDoor.Ab
def mg{α β:Type}[Inhabited α]{f:α->β}{xs:List α}{i:Nat}{y:α}(a:i<xs.length)(e:f y=f (nth xs i)):(xs.set i y).map f=xs.map f:=by
 rw[T5];refine List.ext_getElem (by simp) λj b c=>?_
 rw[List.getElem_set];split
 ·rename_i g;subst g
  rw[List.getElem_map,e,bm (W1 a)]
 rfl
theorem ni{α β:Type}[Inhabited α](f:α->List β):∀(xs:List α)(i:Nat)(y:α),i<xs.length->(f y).Sublist (f (nth xs i))->((xs.set i y).flatMap f).Sublist (xs.flatMap f)
 | [],_,_,h,_=>absurd h (Nat.not_lt_zero _)
 | x::xs,0,y,_,a=>by
  rw[List.set_cons_zero,Y5,Y5];exact List.Sublist.append a ψ
 | x::xs,i+1,y,h,a=>by
  rw[List.set_cons_succ,Y5,Y5];exact List.Sublist.append ψ (ni f xs i y (by simpa using h) a)
def zK(k:af)(a:Int):Nat->af
 | 0=>k
 | m+1=>kO (zK k a m) (a+m) 0
theorem wK(k:af)(a:Int):∀m,(zK k a m).G.S=k.G.S/\(zK k a m).q=k.q/\(zK k a m).e=k.e
 | 0=>⟨rfl,rfl,rfl⟩
 | m+1=>wK k a m
theorem NU{k:af}(h:aC k=true){a:Int} : ∀{m:Nat},(∀j:Nat,j<m->(au k.G.S ((a+j) / 16)).w≠0)->aC (zK k a m)=true
 | 0,_=>h
 | m+1,b=>vD (NU h ψ) (by grind [wK]) ω
theorem Ft{h:ac}{E:List Int}(f:aR h E){sp:List ar}{la:List ay}{o:List a8}{p:Int}{n:Nat}(w:p+n<=h.M.G.S.K.length)(G:sp.Sublist h.H)(H:∀l∈la,∀q∈lpgs l l.a3.toNat,∃t∈h.J,q∈lpgs t t.a3.toNat)(J:0<=p)(y:∀q,q∈pgs sp la↔q∈pgs h.H h.J/\¬(p<=q/\q<p+n))(K:∀q,RH o q↔RH h.o q\/(p<=q/\q<p+n)) :
  Pg (dQ h.M p n).G.S o sp la:=by
 have b:=(i7 h.M p n).1;have d:=lG f.ker J n w;have g:∀q:Nat,(q:Int)∈pgs sp la->nth (dQ h.M p n).G.S.K q=nth (tbl h).K q:=λq c=>by rw[d,C9 ((y q).1 c).2];rfl
 have a:∀q:Nat,(nth (dQ h.M p n).G.S.K q).w≠0↔(nth (tbl h).K q).w≠0/\¬(p<=q/\(q:Int)<p+n):=λq=>by
  rw[d];by_cases e:p<=q/\(q:Int)<p+n
  ·grind
  rw[C9 e];exact⟨λx=>⟨x,e⟩,λx=>x.1⟩
 refine⟨λl i q c r D A j=>?_,λq c=>?_,λq c=>?_,λq c=>?_,λs i u N M O=>?_⟩
 ·have k:=(a r).1 A
  rw[b]at D;rw[g q (fk i c),d,C9 k.2]at j;obtain⟨t,B,C⟩:=H l i _ c;exact f.pg.one t B q C r D k.1 j
 ·rw[b];exact f.pg.bnd q ((y q).1 c).1
 ·rw[b]at c
  rw[a,y,f.pg.own q c]
 ·rw[b]at c
  rw[a,K,f.pg.fre q c]
  grind
 have F:∀s∈sp,0<=s.Q:=λs i=>(aB (f.L.sok s (G.subset i))).1
 grind [d6,Pg.mesh,aR.pg]
def trimL(l:ay)(size:Int):ay:=⟨l.Q,(size+15) / 16,size⟩
def dE(l:ay)(size:Int):Nat:=(l.a3 - (size+15) / 16).toNat
def aR.trimL{h:ac}{E:List Int}{i k:Nat}{size:Int}(t:aR h E)(T:i<h.O.length)(H:k<h.J.length)(Y:(nth h.O i).X=16*(nth h.J k).Q)(N:9<=size/\size<=(nth h.J k).d) :
  ∃o,(dE (nth h.J k) size=0->o=h.o)/\(0<dE (nth h.J k) size->d2 (dC h) h.o ⟨(nth h.J k).Q+(size+15) / 16,(dE (nth h.J k) size:Nat)⟩ = some o)/\
   aR {h with M:=dQ h.M ((nth h.J k).Q+(size+15) / 16) (dE (nth h.J k) size),J:=h.J.set k (trimL (nth h.J k) size),O:=h.O.set i {nth h.O i with d:=size},o:=o} E:=by
 have U:=t.L;have C:=U.lok _ (am H);have hf:=aN C;unfold bP at C;rw[C0]at C;obtain⟨b1,b2⟩:=zH t H;have O:=U.dis;have G:=λj n=>U.one j k n H
 have y:=(am H:nth h.J k∈h.J)
 have d:∀z∈h.J.set k (Ab.trimL (nth h.J k) size),z=Ab.trimL (nth h.J k) size\/∃j,j<h.J.length/\j≠k/\nth h.J j=z:=λz N=>gV N
 have p:Ab.trimL (nth h.J k) size∈h.J.set k (Ab.trimL (nth h.J k) size):=iq _ H;have u:∀j,j<h.J.length->j≠k->nth h.J j∈h.J.set k (Ab.trimL (nth h.J k) size):=λj n e=>jf _ n e
 have hpageM:(h.J.set k (Ab.trimL (nth h.J k) size)).map (·.Q)=h.J.map (·.Q):=mg H rfl;have w:(pgs h.H (h.J.set k (Ab.trimL (nth h.J k) size))).Sublist (pgs h.H h.J):=by
  unfold pgs;refine List.Sublist.append (List.Sublist.refl _) (ni _ _ _ _ H ?_);unfold lpgs;exact(List.range_sublist.2 (by simp only[Ab.trimL];omega)).map _
 obtain⟨l,V⟩ : ∃l,nth h.J k=l:=⟨_,rfl⟩
 rw[V]at C hf b1 b2 G y d p u hpageM w Y N |-;generalize hla:h.J.set k (Ab.trimL l size)=la at d p u hpageM w |-;have hn1:(1:Int)<=(size+15) / 16/\(size+15) / 16+(dE l size:Nat)=l.a3:=by unfold dE;omega
 have D:∀q,q∈lpgs l l.a3.toNat↔l.Q<=q/\q<l.Q+l.a3:=λq=>by
  rw[dq];constructor
  ·rintro⟨j,n,rfl⟩;omega
  rintro⟨Z,q2⟩;exact⟨(q - l.Q).toNat,ω,ω⟩
 have J:∀q,q∈lpgs (Ab.trimL l size) (Ab.trimL l size).a3.toNat↔l.Q<=q/\q<l.Q+(size+15) / 16:=λq=>by
  rw[dq];simp only[Ab.trimL];constructor
  ·rintro⟨j,n,rfl⟩;omega
  rintro⟨Z,q2⟩;exact⟨(q - l.Q).toNat,ω,ω⟩
 have hpe:l.Q+(size+15) / 16+(dE l size:Nat)=l.Q+l.a3:=ω
 have P:∀q,q∈pgs h.H la↔q∈pgs h.H h.J/\¬(l.Q+(size+15) / 16<=q/\q<l.Q+(size+15) / 16+(dE l size:Nat)):=λq=>by
  rw[oQ,oQ,hpe];constructor
  ·rintro(⟨s,W,rfl⟩|⟨z,c,B⟩)
   ·exact⟨.inl ⟨s,W,rfl⟩,λe=>O s W l y (s.Q - l.Q).toNat ω ω⟩
   rcases d z c with rfl|⟨j,n,hjk,rfl⟩
   ·have:=(J q).1 B
    exact⟨.inr ⟨l,y,(D q).2 ⟨ω,ω⟩⟩,ω⟩
   refine⟨.inr ⟨_,am n,B⟩,λe=>?_⟩;obtain⟨m,hm,rfl⟩:=dq.1 B;exact hjk (G j n m ((nth h.J j).Q+(m:Int) - l.Q).toNat hm ω ω)
  rintro⟨⟨s,W,rfl⟩|⟨z,c,B⟩,hne⟩
  ·exact .inl ⟨s,W,rfl⟩
  obtain⟨j,n,rfl⟩:=aY c;by_cases e:j=k
  ·subst e
   rw[V]at B;have:=(D q).1 B;exact .inr ⟨_,p,(J q).2 ⟨ω,ω⟩⟩
  exact .inr ⟨_,u j n e,B⟩
 have K:∃o,(dE l size=0->o=h.o)/\(0<dE l size->d2 (dC h) h.o ⟨l.Q+(size+15) / 16,(dE l size:Nat)⟩ = some o)/\bw (dC h) o=true/\∀q,RH o q↔RH h.o q\/(l.Q+(size+15) / 16<=q/\q<l.Q+(size+15) / 16+(dE l size:Nat)):=by
  by_cases e:dE l size=0
  ·refine⟨h.o,λ_=>rfl,λg=>absurd g ω,t.rng,λq=>⟨.inl,λg=>g.resolve_right ω⟩⟩
  obtain⟨o,o1,o2,o3⟩:=tG (r:=⟨l.Q+(size+15) / 16,(dE l size:Nat)⟩) t.rng ⟨by simp only;omega,by simp only;omega,by show l.Q+(size+15) / 16+(dE l size:Nat)<=(dC h:Int);have:((tbl h).K.length:Int)=(dC h:Int):=rfl;omega⟩ λq Z q2=>by
   simp only at Z q2;obtain⟨m,rfl⟩:=O2 (show 0<=q by omega);have Q:m<(tbl h).K.length:=ω
   exact(t.pg.fre m Q).1 ((t.pg.own m Q).2 (fk y ((D _).2 ⟨ω,ω⟩)))
  exact⟨o,λg=>absurd g e,λ_=>o1,o2,o3⟩
 obtain⟨o,o0,o1,o2,o3⟩:=K;have R:=(i7 h.M (l.Q+(size+15) / 16) (dE l size)).1;have M:∀z∈h.O.set i {nth h.O i with d:=size},z = {nth h.O i with d:=size}\/∃j,j<h.O.length/\j≠i/\nth h.O j=z:=λz N=>gV N
 have F:(h.O.set i {nth h.O i with d:=size}).map (·.X)=h.O.map (·.X):=mg T rfl;have S:(h.O.set i {nth h.O i with d:=size}).map (·.Id)=h.O.map (·.Id):=mg T rfl;have hli:=(am T:nth h.O i∈h.O)
 generalize h.O.set i {nth h.O i with d:=size} = ob at M F S |-;refine⟨o,o0,o1,{t with
   ker:=kT t.ker _ _
   rng:=by show bw (((dQ h.M (l.Q+(size+15) / 16) (dE l size)).G.S.K.length:Nat):Int) o=true;rw[R];exact o2
   lay:=?_
   srl:=?_
   pg:=Ft t (by have:((tbl h).K.length:Int)=(h.M.G.S.K.length:Int):=rfl;omega) (List.Sublist.refl _) (λz c q B=>?_) ω P o3
   osr:=?_
   onu:=λz c=>?_
   oid:=by show(ob.map (·.Id)).Nodup;rw[S];exact t.oid
   oow:=λz c=>?_
   nd:=?_
   mem:=λb=>?_}⟩
 ·obtain⟨l1,l2,l3⟩:=dt t.lay
  unfold bf;simp only[I0,C0];refine⟨⟨l1,T3.2 λz c=>?_⟩,l3.sublist w⟩;rcases d z c with rfl|⟨j,n,-,rfl⟩
  ·exact O0 ⟨N.1,by show size<=1000;omega,rfl,by show 0<=l.Q;omega,by show l.Q<=32 - (size+15) / 16;omega⟩
  exact U.lok _ (am n)
 ·have A:(h.J.map (·.Q)).Pairwise (λa b=>a<b):=List.pairwise_map.2 t.srl
  rw[<-hpageM]at A;exact List.pairwise_map.1 A
 ·rcases d z c with rfl|⟨j,n,-,rfl⟩
  ·have:=(J q).1 B
   exact⟨l,y,(D q).2 ⟨ω,ω⟩⟩
  exact⟨_,am n,B⟩
 ·have A:(h.O.map (·.X)).Pairwise (λa b=>a<b):=List.pairwise_map.2 t.osr
  rw[<-F]at A;exact List.pairwise_map.1 A
 ·rcases M z c with rfl|⟨j,n,-,rfl⟩
  ·exact t.onu (nth h.O i) hli
  exact t.onu _ (am n)
 ·rcases M z c with rfl|⟨j,n,hji,rfl⟩
  ·exact .inr ⟨_,p,Y,rfl⟩
  rcases t.oow _ (am n) with A|⟨l',hl',e1,X⟩
  ·exact .inl A
  obtain⟨m,hm,rfl⟩:=aY hl';by_cases e:m=k
  ·subst e
   rw[V]at e1;exact absurd (g9 (f:=(·.X)) (gN t.osr) n T (e1.trans Y.symm)) hji
  exact .inr ⟨_,u m hm e,e1,X⟩
 ·have hh:holders {h with M:=dQ h.M (l.Q+(size+15) / 16) (dE l size),J:=la,O:=ob,o:=o} = holders h:=by
   show((ob.map (·.X)++ci h)++h.a0.y.map (·.X))++a9 h.b=_;rw[F];rfl
  rw[hh];exact t.nd
 have hh:holders {h with M:=dQ h.M (l.Q+(size+15) / 16) (dE l size),J:=la,O:=ob,o:=o} = holders h:=by
  show((ob.map (·.X)++ci h)++h.a0.y.map (·.X))++a9 h.b=_;rw[F];rfl
 rw[hh,t.mem b];show Live h.H h.J b↔Live h.H la b;unfold Live;constructor
 ·rintro(A|⟨z,c,e⟩)
  ·exact .inl A
  obtain⟨j,n,rfl⟩:=aY c;by_cases X:j=k
  ·subst X
   rw[V]at e;exact .inr ⟨_,p,e⟩
  exact .inr ⟨_,u j n X,e⟩
 rintro(A|⟨z,c,e⟩)
 ·exact .inl A
 rcases d z c with rfl|⟨j,n,-,rfl⟩
 ·exact .inr ⟨l,y,e⟩
 exact .inr ⟨_,am n,e⟩
def t4(h:ac)(k:Nat)(size:Int):af:=zK h.M (16*(nth h.J k).Q+size) (16*((size+15) / 16) - size).toNat
def G3(h:ac)(k:Nat)(size:Int):List a8:=if 0<dE (nth h.J k) size then(d2 (dC h) h.o ⟨(nth h.J k).Q+(size+15) / 16,(dE (nth h.J k) size:Nat)⟩).getD h.o else h.o
def trimH(h:ac)(i k:Nat)(size:Int):ac:={h with M:=dQ (t4 h k size) ((nth h.J k).Q+(size+15) / 16) (dE (nth h.J k) size),J:=h.J.set k (trimL (nth h.J k) size),O:=h.O.set i {nth h.O i with d:=size},o:=G3 h k size}
theorem ot{h:ac}{E:List Int}(b:aR h E){k:Nat}(c:k<h.J.length){a:Int}(g:16*(nth h.J k).Q<=a/\a<16*(nth h.J k).Q+16*(nth h.J k).a3):(au h.M.G.S (a / 16)).w≠0:=by
 obtain⟨i,j⟩:=zH b c;have l:=aN (b.L.lok _ (am c));have d:(a / 16)∈pgs h.H h.J:=fk (am c) (dq.2 ⟨(a / 16 - (nth h.J k).Q).toNat,ω,ω⟩);have e:=b.pg.bnd _ d;have f:=(b.pg.own (a / 16).toNat ω).2 ψ;unfold au;rw[CB ⟨ω,e⟩];exact f
theorem B4{h:ac}{E:List Int}(a:aR h E){k:Nat}(b:k<h.J.length){size:Int}(d:9<=size/\size<=(nth h.J k).d):∀{m:Nat},m<=(16*((size+15) / 16) - size).toNat->aC (zK h.M (16*(nth h.J k).Q+size) m)=true:=fun {m} hm=>by
 have c:=a.L.lok _ (am b)
 grind [NU,aR.ker,ot,bP]
theorem aR.trimH{h:ac}{i k:Nat}{size:Int}(b:aR h [])(n:i<h.O.length)(c:k<h.J.length)(r:(nth h.O i).X=16*(nth h.J k).Q)(e:9<=size/\size<=(nth h.J k).d):aR (trimH h i k size) []/\JK h (trimH h i k size):=by
 have f:=B4 b c e (U2 _);have g:=(wK h.M (16*(nth h.J k).Q+size) (16*((size+15) / 16) - size).toNat).1;have t:=b.cells f g;obtain⟨o,u,w,j⟩:=t.trimL (i:=i) (k:=k) (size:=size) n c r e;simp only at u w j;have y:dC {h with M:=zK h.M (16*(nth h.J k).Q+size) (16*((size+15) / 16) - size).toNat} = dC h:=by grind [dC]
 have A:G3 h k size=o:=by grind [G3]
 have B:Ab.trimH h i k size = {h with M:=dQ (t4 h k size) ((nth h.J k).Q+(size+15) / 16) (dE (nth h.J k) size),J:=h.J.set k (Ab.trimL (nth h.J k) size),O:=h.O.set i {nth h.O i with d:=size},o:=o}:=by unfold Ab.trimH;rw[A]
 refine⟨by rw[B];exact j,JK.less rfl rfl rfl λq C=>?_⟩;have a:=b.L.lok _ (am c);unfold bP at a;rw[C0]at a;obtain⟨D,E⟩:=zH b c;have d:(t4 h k size).G.S=h.M.G.S:=g;have l:=lG (k:=t4 h k size) f (p:=(nth h.J k).Q+(size+15) / 16) ω (dE (nth h.J k) size) (by rw[d];have:((tbl h).K.length:Int)=(h.M.G.S.K.length:Int):=rfl;unfold dE;omega) q;change (nth (dQ (t4 h k size) ((nth h.J k).Q+(size+15) / 16) (dE (nth h.J k) size)).G.S.K q).w≠0 at C;show nth (dQ (t4 h k size) ((nth h.J k).Q+(size+15) / 16) (dE (nth h.J k) size)).G.S.K q=nth h.M.G.S.K q
 grind
theorem EF{t:Nat}(e:1<=t/\t<=4):b9 (dG t)=true:=by
 have f:∀n,n<=t->bo (dG t) n=0:=λn=>by
  induction n with
  | zero=>intro _;rfl
  | succ n g=>
   intro h;have b:nth (dG t).T n=[]:=dK ω;have c:nth (dG t).u n=[]:=dK ω
   grind [bo]
 have d:(dG t).T.length=t:=List.length_replicate ..;refine dB.2 ⟨⟨ω,ω,by simp[dG]⟩,λi a=>?_,ψ⟩;rw[d]at a;have b:nth (dG t).T i=[]:=dK a;have c:nth (dG t).u i=[]:=dK a
 grind
theorem tt(t:Nat):a9 (dG t)=[]:=by
 unfold a9;split
 ·simp[dG]
 rfl
def qh(k:af)(t:Nat)(sd ck lim:Int):ac:=⟨k,[⟨0,(k.G.S.K.length:Nat)⟩],[],[],[],List.replicate t eL,dG t,⟨16,[]⟩,sd,ck,lim,1,false,⟨⟨0,0,[]⟩,0,0⟩⟩
def Dn:bj eL=true:=by decide
theorem aR.fresh{k:af}{t:Nat}{lim sd ck:Int}(w:aC k=true)(A:∀q,q<k.G.S.K.length->(nth k.G.S.K q).w=0)(C:1<=t/\t<=4)(f:0<=lim/\lim<=1000)(g:0<=sd/\sd<=1073741823)(b:0<=ck/\ck<=1000000):aR (qh k t sd ck lim) []:=by
 obtain⟨F,G,H⟩:=bv.1 (aD.1 w).2.2.1;have hca:ci (qh k t sd ck lim)=[]:=by
  unfold ci;refine List.flatMap_eq_nil_iff.2 λc b=>?_
  rw[(List.mem_replicate.1 b).2]
  rfl
 have J:holders (qh k t sd ck lim)=[]:=by
  unfold holders;rw[hca];show(([]++[])++[])++a9 (dG t)=[]
  grind [tt]
 have D:∀a,¬Live (qh k t sd ck lim).H (qh k t sd ck lim).J a:=λa=>by
  rintro(⟨s,g,-⟩|⟨l,f,-⟩)
  ·cases g
  cases f
 exact {
   ker:=w
   rng:=eS.2 ⟨⟨List.pairwise_singleton ..,λy h=>by rw[C1.1 h];grind⟩,λy h=>by
       rw[C1.1 h];refine⟨T4 _,ψ,?_⟩;show(0:Int)+(k.G.S.K.length:Nat)<=(k.G.S.K.length:Nat);omega,by show(1:Int)<=(k.G.S.K.length:Nat);omega,by show((k.G.S.K.length:Nat):Int)<=32;omega⟩
   lay:=by show bf [] []=true;decide
   srs:=List.Pairwise.nil
   srl:=List.Pairwise.nil
   pg:=⟨λl f=>(by cases f),λp d=>(by cases d),λp d=>⟨λe=>absurd (A p d) e,λe=>by cases e⟩,λp d=>⟨λe=>absurd (A p d) e,λe=>absurd ⟨_,C1.2 rfl,ψ,by
       show(p:Int)<0+(k.G.S.K.length:Nat);have E:p<k.G.S.K.length:=d;omega⟩ e⟩,λs g=>by cases g⟩
   mail:=EF C
   nc:=by show(List.replicate t eL).length=(List.replicate t _).length;simp
   quar:=by show eP ⟨16,[]⟩ = true;decide
   snc:=λx i=>by cases i
   cach:=λc b=>by rw[(List.mem_replicate.1 b).2];exact Dn
   nums:=by grind [cr,qh]
   osr:=List.Pairwise.nil
   onu:=λo n=>by cases n
   oid:=List.nodup_nil
   oow:=λo n=>by cases n
   hca:=λc b j B a r=>by
     rw[(List.mem_replicate.1 b).2]at B r;have u:j<4:=B;have:nth eL.Z j=[]:=dK u
     grind
   hqu:=λx i=>by cases i
   hfl:=λa r=>by
     have:a9 (dG t)=[]:=tt t;change a∈a9 (dG t) at r
     grind
   hin:=(ψ)
   nd:=ψ
   mem:=(ψ)
   job:=λe=>by cases e
   noj:=λ_=>by show qF ⟨⟨0,0,[]⟩,0,0⟩ = true;decide}
theorem JI.no{h:ac}(a:h.b0=false):JI h:=⟨ψ,ψ,ψ,ψ⟩
def p9{p f:Nat}{a:List Int}(d:1<=p/\p<=32)(e:1<=f/\f<=32)(b:a.length<=40/\∀x∈a,0<=x):aC (bU p f a)=true:=by
 obtain⟨-,g,h,i,c⟩:=aD.1 (zR d e);exact aD.2 ⟨λj k=>b.2 _ (am k),g,h,i,c.1,c.2.1,b.1⟩
theorem BI{p f t:Nat}{lim:Int}{a:List Int}(b:1<=p/\p<=32)(c:1<=f/\f<=32)(d:1<=t/\t<=4)(g:0<=lim/\lim<=1000)(i:a.length<=40/\∀x∈a,0<=x):aR (u6 p f t lim a) []:=by
 have h:=aR.fresh (k:=bU p f a) (t:=t) (lim:=lim) (sd:=0) (ck:=0) (p9 b c i) (λq j=>by grind [bU,eM,nth]) d g ω ω;have e:(bU p f a).G.S.K.length=p:=by grind [bU,eM]
 unfold qh at h;rw[e]at h;exact h
structure eD where
 b6:Int
 a4:Int
 N:Int
 At:Int
 Value:Int
deriving DecidableEq,Inhabited
def eD.enc(_:du)(x:eD):List C:=[I x.b6,I x.a4,I x.N,I x.At,I x.Value]
def mP(id:Int)(o:bD):Bool:=decide (o.Id=id)
def nJ(r:ax)(id:Int):Int:=d7 (mP id) r.O
def ke(r:ax)(n:Int):ax:=if 1<=n/\n<=1000 then {r with a2:=r.a2+1,O:=r.O++[⟨r.a2,List.replicate n.toNat 0⟩]} else r
def kL(r:ax)(id:Int):ax:=if nJ r id<0 then r else {r with O:=dele r.O (nJ r id).toNat}
def eO(r:ax)(id at_ v:Int):ax:=if 0<=nJ r id/\(0<=at_/\at_<=(nth r.O (nJ r id).toNat).W.length - 1)/\0<=v/\v<=999 then {r with O:=r.O.set (nJ r id).toNat ⟨(nth r.O (nJ r id).toNat).Id,(nth r.O (nJ r id).toNat).W.set at_.toNat v⟩} else r
def fV(r:ax)(id n:Int):ax:=if 0<=nJ r id/\1<=n/\n<=(nth r.O (nJ r id).toNat).W.length then {r with O:=r.O.set (nJ r id).toNat ⟨(nth r.O (nJ r id).toNat).Id,(nth r.O (nJ r id).toNat).W.take n.toNat⟩} else r
structure pd(r:ax)(m:Nat):Prop where
 len:r.O.length<=m
 cel:∀o∈r.O,o.W.length<=1000
 nx:0<=r.a2/\r.a2<=m+1
theorem pd.more{r:ax}{m n:Nat}(h:pd r m)(a:m<=n):pd r n:=⟨by have:=h.len;omega,h.cel,h.nx.1,by have:=h.nx.2;omega⟩
def pd.sml{r:ax}{m:Nat}(h:pd r m)(b:m<=1000):ax.sml r:=⟨by have:=h.len;omega,λo a=>by have:=h.cel o a;show o.W.length<=1048576;omega⟩
theorem pd.alloc{r:ax}{m:Nat}(h:pd r m)(n:Int):pd (ke r n) (m+1):=by
 unfold ke;split
 ·refine⟨by have:=h.len;grind,λo a=>?_,by have:=h.nx.1;simp only;omega,by have:=h.nx.2;simp only;omega⟩
  grind [pd.cel]
 grind [pd.more]
theorem pd.free{r:ax}{m:Nat}(h:pd r m)(id:Int):pd (kL r id) m:=by
 unfold kL;split
 ·exact h
 have a:=fm r.O (nJ r id).toNat;exact⟨R4 a.length_le h.len,λo b=>h.cel o (a.subset b),h.nx⟩
theorem pd.set{r:ax}{m i:Nat}{x:bD}(h:pd r m)(a:x.W.length<=1000):pd {r with O:=r.O.set i x} m:=
 ⟨by simp only[I1];exact h.len,λo b=>by grind [pd.cel],h.nx⟩
theorem fR{α:Type}[Inhabited α](p:α->Bool)(xs:List α)(h:0<=d7 p xs):(d7 p xs).toNat<xs.length/\p (nth xs (d7 p xs).toNat)=true/\d7 p xs=((d7 p xs).toNat:Nat):=by grind [nI]
def pd.store{r:ax}{m:Nat}(h:pd r m)(id a v:Int):pd (eO r id a v) m:=by
 unfold eO;split
 ·rename_i e
  refine h.set ?_;simp only[I1];exact h.cel (nth r.O (nJ r id).toNat) (am (fR _ _ e.1).1)
 exact h
theorem pd.trim{r:ax}{m:Nat}(h:pd r m)(id n:Int):pd (fV r id n) m:=by
 unfold fV;split
 ·rename_i e
  refine h.set ?_;have:=h.cel (nth r.O (nJ r id).toNat) (am (fR _ _ e.1).1)
  grind
 exact h
def JA(id:Int)(o:bF):Bool:=decide (o.Id=id)
def qv(h:ac)(id:Int):Int:=d7 (JA id) h.O
def GD(a:Int)(l:ay):Bool:=decide (l.Q*16=a)
def x9(h:ac)(a:Int):Int:=d7 (GD a) h.J
def nG(h:ac)(a:eD):Prop:=0<=a.a4/\a.a4<=h.R.length - 1
instance (h:ac) (a:eD):Decidable (nG h a):=by unfold nG;infer_instance
def uI(w:bG)(a:eD)(i:Nat):bG × Int:=
 if w.a.M.q=100000 then(w,6)
 else if nG w.a a then(⟨(freeT w.a a.a4.toNat i).1,if(freeT w.a a.a4.toNat i).2=0 then kL w.c4 (nth w.a.O i).Id else w.c4⟩,(freeT w.a a.a4.toNat i).2)
 else(w,1)
def qK(w:bG)(a:eD)(i:Nat):bG × Int:=
 if ¬(0<=a.At/\a.At<=(nth w.a.O i).d - 1) then(w,90)
 else if(au w.a.M.G.S (((nth w.a.O i).X+a.At) / 16)).w=1 then(w,2)
 else if ¬(0<=a.Value/\a.Value<=999) then(w,3)
 else(⟨{w.a with M:=kO w.a.M ((nth w.a.O i).X+a.At) a.Value},eO w.c4 (nth w.a.O i).Id a.At a.Value⟩,0)
def kQ(h:ac)(i:Nat)(n:Int):Prop:=0<=x9 h (nth h.O i).X/\9<=n/\n<=(nth h.J (x9 h (nth h.O i).X).toNat).d
instance (h:ac) (i:Nat) (n:Int):Decidable (kQ h i n):=by unfold kQ;infer_instance
def uB(w:bG)(a:eD)(i:Nat):bG × Int:=
 if w.a.M.q≠100000/\kQ w.a i a.Value then(⟨trimH w.a i (x9 w.a (nth w.a.O i).X).toNat a.Value,fV w.c4 (nth w.a.O i).Id a.Value⟩,0) else(w,90)
def qd(w:bG)(a:eD)(i:Nat):bG × Int:=if a.b6=2 then uI w a i else if a.b6=3 then qK w a i else uB w a i
def gS(h:ac)(a:eD):ac × Int:=
 if a.b6=5 then(if nG h a/\0<(nth h.b.T a.a4.toNat).length then({h with b:=f7 h.b a.a4.toNat},0) else(h,90))
 else if ¬(h.M.q≠100000/\nG h a) then(h,0)
 else if a.b6=6 then(collect h a.a4.toNat,((nth h.b.u a.a4.toNat).length:Nat))
 else((flushN a.a4.toNat h 4).1,((flushN a.a4.toNat h 4).2:Nat))
def qx(h:ac)(n:Int):ac × Int:=if h.M.q≠100000/\(0<=n/\n<=1000)/\h.b5+n<=1000000 then(tick h n,((mF h n).length:Nat)) else(h,0)
def ui(h:ac):Bool:=h.b0&&decide (h.M.q<=99000)
def ns(h:ac):Nat->ac × Nat
 | 0=>(h,0)
 | i+1=>if ui (ns h i).1=true then(mStep (ns h i).1,(ns h i).2+1) else ns h i
def rx(h:ac):ac × Int:=if h.b0=true then(h,90) else((started h).1,if(started h).2=true then 0 else 90)
def rE(w:bG)(a:eD):bG × Int:=
 if a.b6=1 then(⟨(gm w.a a.a4 a.N).1,if(gm w.a a.a4 a.N).2.2=0 then ke w.c4 a.N else w.c4⟩,(gm w.a a.a4 a.N).2.2)
 else if a.b6=2\/a.b6=3\/a.b6=4 then(if qv w.a a.N<0 then(w,90) else qd w a (qv w.a a.N).toNat)
 else if a.b6=5\/a.b6=6\/a.b6=7 then(⟨(gS w.a a).1,w.c4⟩,(gS w.a a).2)
 else if a.b6=8 then(⟨(qx w.a a.N).1,w.c4⟩,(qx w.a a.N).2)
 else if a.b6=9 then(⟨(rx w.a).1,w.c4⟩,(rx w.a).2)
 else if a.b6=10/\0<=a.N/\a.N<=50 then(⟨(ns w.a a.N.toNat).1,w.c4⟩,((ns w.a a.N.toNat).2:Nat))
 else(w,90)
structure nt(w:bG)(m:Nat):Prop where
 inv:aR w.a []
 ji:JI w.a
 ref:pd w.c4 m
def nt.more{w:bG}{m n:Nat}(h:nt w m)(a:m<=n):nt w n:=⟨h.inv,h.ji,h.ref.more a⟩
theorem nt.jk{w:bG}{m:Nat}(h:nt w m){g:ac}{r:ax}(a:aR g []/\JK w.a g)(b:pd r m):nt ⟨g,r⟩ m:=⟨a.1,h.ji.keep a.1 a.2,b⟩
theorem me{h:ac}{E:List Int}(b:aR h E){o:bF}(i:o∈h.O){k:Int}(C:0<=k/\k<=o.d - 1):(au h.M.G.S ((o.X+k) / 16)).w≠0/\0<=o.X/\o.X+k<512:=by
 rcases b.oow o i with⟨s,f,p,q⟩|⟨l,g,D,F⟩
 ·have a:=b.L.sok s f
  have r:=aB a;obtain⟨t,u,w⟩:=b.mapped f;have c:=bW r.2.2;obtain⟨G,H,y,-⟩:=p;have d:o.d<=csz s.Y:=by
   have J:=mQ (n:=o.d) ω;rw[q];have:o.d=1\/o.d=2\/o.d=3\/o.d=4\/o.d=5\/o.d=6\/o.d=7\/o.d=8:=ω
   rcases this with e|e|e|e|e|e|e|e<;>rw[e]<;>decide
  have A:(o.X+k) / 16=s.Q:=by
   rcases c with e|e|e|e<;>rw[e]at y d<;>omega
  rw[A];refine⟨?_,ω,ω⟩;unfold au;rw[CB ⟨t,u⟩];exact w
 obtain⟨j,K,rfl⟩:=aY g;have B:=b.L.lok _ g
 grind [ot,bP]
theorem nt.obj{w:bG}{m:Nat}(h:nt w m)(a:eD){i:Nat}(c:i<w.a.O.length):nt (qd w a i).1 m:=by
 unfold qd;split
 ·grind [nt.jk,aR.freeT,nt.inv,pd.free,nt.ref,uI,nG]
 split
 ·unfold qK
  split
  ·exact h
  rename_i k;split
  ·exact h
  split
  ·exact h
  rename_i l;exact h.jk (h.inv.store (me h.inv (am c) ω).1 ω) (h.ref.store _ _ _)
 unfold uB;split
 ·rename_i e
  obtain⟨-,d,f⟩:=e;obtain⟨g,j,n⟩:=fR _ _ d;have b:=of_decide_eq_true j;exact h.jk (h.inv.trimH c g (b.symm.trans (Int.mul_comm _ _)) f) (h.ref.trim _ _)
 exact h
theorem nt.thread{w:bG}{m:Nat}(h:nt w m)(a:eD):nt ⟨(gS w.a a).1,w.c4⟩ m:=by
 unfold gS;split
 ·split
  ·rename_i e
   obtain⟨b,c⟩:=e;unfold nG at b;exact h.jk (g:={w.a with b:=f7 w.a.b a.a4.toNat}) ⟨h.inv.deliv (by grind [aR.nc,nt.inv]) c,JK.eq rfl rfl rfl rfl⟩ h.ref
  exact h
 split
 ·exact h
 grind [nt.jk,aR.collect,nt.inv,nt.ref,kB,JK.flushN,nG]
theorem zN{h:ac}(a:aR h [])(b:JI h):∀n,aR (ns h n).1 []/\JI (ns h n).1
 | 0=>⟨a,b⟩
 | n+1=>by
  obtain⟨c,d⟩:=zN a b n
  grind [aR.mStep,ns,ui]
theorem nt.act{w:bG}{m:Nat}(h:nt w m)(a:eD):nt (rE w a).1 (m+1):=by
 unfold rE;split
 ·have b:=HK (t:=a.a4) (size:=a.N) h.inv
  refine⟨b.1,h.ji.keep b.1 b.2,?_⟩;show pd (if _ then _ else _) (m+1);split
  ·exact h.ref.alloc _
  exact h.ref.more ω
 refine nt.more (m:=m) ?_ ω;split
 ·grind [nt.obj,fR,qv]
 split
 ·exact h.thread a
 split
 ·unfold qx
  split
  ·grind [nt.jk,aR.tick,nt.inv,nt.ref]
  exact h
 split
 ·unfold rx
  split
  ·exact h
  rename_i e;have b:=EZ h.inv (by simpa using e);exact⟨b.1,b.2,h.ref⟩
 split
 ·have b:=zN h.inv h.ji a.N.toNat
  exact⟨b.1,b.2,h.ref⟩
 exact h
structure cQ where
 a3:Nat
 V:Nat
 e0:Nat
 c5:Int
 e:List Int
deriving Inhabited
structure Jj(c:cQ):Prop where
 p:1<=c.a3/\c.a3<=32
 f:1<=c.V/\c.V<=32
 t:1<=c.e0/\c.e0<=4
 l:0<=c.c5/\c.c5<=1000
 r:c.e.length<=40/\∀x∈c.e,0<=x
def world0(c:cQ):bG:=⟨u6 c.a3 c.V c.e0 c.c5 c.e,{a2:=1,O:=[]}⟩
def Bd(c:cQ)(acts:List eD):Nat->bG × List Int
 | 0=>(world0 c,[])
 | i+1=>((rE (Bd c acts i).1 (nth acts i)).1,(Bd c acts i).2++[(rE (Bd c acts i).1 (nth acts i)).2])
def H4{c:cQ}(h:Jj c):nt (world0 c) 0:=
 ⟨BI h.p h.f h.t h.l h.r,JI.no rfl,⟨U2 _,λo a=>(by cases a),by show(0:Int)<=1;omega,by show(1:Int)<=((0:Nat):Int)+1;omega⟩⟩
def zD{c:cQ}(h:Jj c)(acts:List eD):∀n,nt (Bd c acts n).1 n
 | 0=>H4 h
 | n+1=>(zD h acts n).act _
open Go.RowKit
set_option maxRecDepth 20000
set_option maxHeartbeats 4000000
def rZ(t:aG)(d:aG.sml t):ao Tryz.prog 17 false [.val (some 1) (aG.enc .U t)] .one [I (ek t)]:=by
 have k:t.K.length<=1048576:=d.1;refine fO 20 [] Tryz.func17 rfl ?_
 repeat'(first|refine gP ?_|fail)
 (conv=>whnf)
 refine CE (ι:=Nat) (λi=>[(3,.F .one [I (co ca t.K i)]),(7,.F .one (vI .U t.K)),(8,.F .one [I (t.K.length)]),(9,.F .one [I ((i:Nat):Int)])]) (λi=>i<=t.K.length) (λi=>t.K.length - i) (0) ?_ (T0 _) λi g=>?_
 ·exact wB
 have h:=eZ (f:=ca) (xs:=t.K) (b:=1) (λe _=>tI e) i g;by_cases j:i<t.K.length
 ·have c:=ah j
  have a:co ca t.K (i+1)=co ca t.K i+ca (nth t.K i):=rfl;by_cases e:(nth t.K i).w=0
  ·rw[show ca (nth t.K i)=0 by unfold ca;rw[C9 (by simpa using e)]]at a
   repeat'(first|refine gB ?_|(conv=>whnf);first|with_reducible refine CA (aa c) ?_)
   ((conv=>whnf);refine CD (i+1) ω ω ?_;(exact wB))
  rw[show ca (nth t.K i)=1 by unfold ca;rw[CB e]]at a
  repeat'(first|refine gB ?_|(conv=>whnf);first|with_reducible refine CA (aa c) ?_)
  ((conv=>whnf);refine CD (i+1) ω ω ?_;(exact wB))
 obtain rfl:i=t.K.length:=ω
 repeat'(first|refine gE ?_|fail)
 rfl
def ug(s:ar)(a:aT s=true):ao Tryz.prog 211 false [.val (some 3) (ar.enc .U s)] .one (aF .own (pf s 16)):=by
 have b:=eQ s;rw[a]at b;have g:=aB a;have n:=bW g.2.2;refine fO 27 [(5,7,[14,15,16,17,18,19,20])] Tryz.func211 rfl ?_ (.inr (bN _))
 repeat'(first|refine gP ?_|fail)
 (conv=>whnf)
 refine CE (ι:=Nat) (λi=>[(1,.F .box (ar.enc .U s)),(3,.F .one (aF .own (pf s i))),(4,.F .one [I ((i:Nat):Int)])]) (λi=>i<=16) (λi=>16 - i) (0) ?_ (T0 _) λi o=>?_
 ·exact wB
 have h:=n6 s i;by_cases j:i<16
 ·have k:=Ec a j
  have d:IntKind.i64.wrap (((i:Nat):Int).tdiv (csz s.Y))=((i:Nat):Int) / csz s.Y:=by rw[ku ω];exact ed ω ω
  have c:=fZ s.a6 (((i:Nat):Int) / csz s.Y) (dJ a).2;cases e:mC s i
  ·rw[show aQ s.a6 (((i:Nat):Int) / csz s.Y)=false from e]at c
   repeat'(first|refine gE ?_|(conv=>whnf);first|refine C7 (b) ?_|refine C7 (bV _) ?_|refine CM ω ?_|refine CK d ?_|refine C7 (c) ?_)
   ((conv=>whnf);refine CD (i+1) ω ω ?_)
   rw[G0 e];exact wB
  rw[show aQ s.a6 (((i:Nat):Int) / csz s.Y)=true from e]at c
  repeat'(first|refine gE ?_|(conv=>whnf);first|refine C7 (b) ?_|refine C7 (bV _) ?_|refine CM ω ?_|refine CK d ?_|refine C7 (c) ?_|refine CN cv (λr l=>by rw[C1.1 l];rfl) (by simp[aW,dn]) (by simp;omega) (by simp only[X0];exact yb (by simp;omega) (by decide)) rfl ?_)
  ((conv=>whnf);refine CD (i+1) ω ω ?_)
  rw[DK e]
  (repeat'(first|exact trivial|rfl|exact CI rfl (CI (U0 (C.s du.own) (by simp[rI])) trivial)|refine CI ?_ ?_))
 obtain rfl:i=16:=ω
 repeat'(first|refine gE ?_|(conv=>whnf);first|refine C7 (b) ?_)
 rfl
def uw(s:ar)(a:aT s=true):ao Tryz.prog 52 false [.val (some 3) (ar.enc .U s)] .one (aF .own (pf s 16)):=by
 have c:=gU s;rw[a]at c;have g:=aB a;have n:=bW g.2.2;refine fO 26 [(7,7,[13,14,15,16,17,18,19])] Tryz.func52 rfl ?_ (.inr (bN _))
 repeat'(first|refine gP ?_|(conv=>whnf);first|refine C7 (c) ?_)
 (conv=>whnf)
 refine CE (ι:=Nat) (λi=>[(1,.F .box (ar.enc .U s)),(3,.F .one (aF .own (pf s i))),(4,.F .one [I ((i:Nat):Int)])]) (λi=>i<=16) (λi=>16 - i) (0) ?_ (T0 _) λi o=>?_
 ·exact wB
 have h:=n6 s i;by_cases j:i<16
 ·have k:=Ec a j
  have d:IntKind.i64.wrap (((i:Nat):Int).tdiv (csz s.Y))=((i:Nat):Int) / csz s.Y:=by rw[ku ω];exact ed ω ω
  have b:=m6 s.a6 (((i:Nat):Int) / csz s.Y) (dJ a).2;cases e:mC s i
  ·rw[show aQ s.a6 (((i:Nat):Int) / csz s.Y)=false from e]at b
   repeat'(first|refine gE ?_|(conv=>whnf);first|refine C7 (cA _) ?_|refine CM ω ?_|refine CK d ?_|refine C7 (b) ?_)
   ((conv=>whnf);refine CD (i+1) ω ω ?_)
   rw[G0 e];exact wB
  rw[show aQ s.a6 (((i:Nat):Int) / csz s.Y)=true from e]at b
  repeat'(first|refine gE ?_|(conv=>whnf);first|refine C7 (cA _) ?_|refine CM ω ?_|refine CK d ?_|refine C7 (b) ?_|refine CN cv (λr l=>by rw[C1.1 l];rfl) (by simp[aW,dn]) (by simp;omega) (by simp only[X0];exact yb (by simp;omega) (by decide)) rfl ?_)
  ((conv=>whnf);refine CD (i+1) ω ω ?_)
  rw[DK e]
  (repeat'(first|exact trivial|rfl|exact CI rfl (CI (U0 (C.s du.own) (by simp[rI])) trivial)|refine CI ?_ ?_))
 obtain rfl:i=16:=ω
 repeat'(first|refine gE ?_|fail)
 rfl
def vU(sp:List ar)(la:List ay)(c:dm sp)(d:de la)(a:bf sp la=true):ao Tryz.prog 19 false [.val none (bM .U sp),.val none (bB .U la)] .one [I (gT sp la)]:=by
 have o:=c.1;have p:=d.1;have j:=l9 sp la c d;rw[a]at j;have q:=l7.of a;have e:=FV (dt a).2.1;refine fO 38 [] Tryz.func19 rfl ?_
 repeat'(first|refine gP ?_|(conv=>whnf);first|refine C7 (j) ?_)
 (conv=>whnf)
 refine CE (ι:=Nat) (λi=>[(1,.F .one (bB .U la)),(5,.F .one [I (co Bc sp i)]),(14,.F .one (bM .U sp)),(15,.F .one [I (sp.length)]),(16,.F .one [I ((i:Nat):Int)])]) (λi=>i<=sp.length) (λi=>sp.length - i) (0) ?_ (T0 _) λi r=>?_
 ·exact wB
 have t:=eZ (f:=Bc) (xs:=sp) (b:=16) (λs _=>ET s) i r;by_cases l:i<sp.length
 ·have g:=ah l
  have h:co Bc sp (i+1)=co Bc sp i+((pf (nth sp i) 16).length:Nat):=rfl;have u:=n6 (nth sp i) 16
  repeat'(first|refine gE ?_|(conv=>whnf);first|with_reducible refine CA (aa g) ?_|refine C7 (uw (nth sp i) (q.sok _ (am l))) ?_)
  ((conv=>whnf);refine CD (i+1) ω ω ?_;(exact wB))
 obtain rfl:i=sp.length:=ω
 have w:co (·.d) la 0=0:=rfl
 repeat'(first|refine gE ?_|fail)
 (conv=>whnf)
 refine CE (ι:=Nat) (λk=>[(5,.F .one [I (co Bc sp sp.length+co (·.d) la k)]),(26,.F .one (bB .U la)),(27,.F .one [I (la.length)]),(28,.F .one [I ((k:Nat):Int)])]) (λk=>k<=la.length) (λk=>la.length - k) (0) ?_ (T0 _) λk y=>?_
 ·exact wB
 have B:=eZ (f:=(·.d)) (xs:=la) (b:=1000) e k y;by_cases n:k<la.length
 ·have g:=ah n
  have C:=e _ (am n);have h:co (·.d) la (k+1)=co (·.d) la k+(nth la k).d:=rfl
  repeat'(first|refine gE ?_|(conv=>whnf);first|with_reducible refine CA (aa g) ?_)
  ((conv=>whnf);refine CD (k+1) ω ω ?_;(exact wB))
 obtain rfl:k=la.length:=ω
 repeat'(first|refine gE ?_|fail)
 rfl
def xB(h:ac):ao Tryz.prog 16 false [.val (some 24) (ac.enc .U h)] .one [I (dC h:Nat)]:=by
 refine fO 9 [] Tryz.func16 rfl ?_
 repeat'(first|refine gP ?_|fail)
 rfl
def uz(c:aA)(e:aA.sml c):ao Tryz.prog 23 false [.val (some 1) (aA.enc .U c)] .one [I (bk c)]:=by
 have r:=e.1;cases d:bj c with
 | false=>
  have a:=md c e;rw[d]at a;refine fO 26 [] Tryz.func23 rfl ?_
  repeat'(first|refine gP ?_|(conv=>whnf);first|refine C7 a ?_)
  exact U0 (λz=>[I z]) (by unfold bk;rw[d];rfl)
 | true=>
  obtain⟨o,g⟩:=jp d;have a:=md c e;rw[d]at a;refine fO 26 [] Tryz.func23 rfl ?_
  repeat'(first|refine gP ?_|(conv=>whnf);first|refine C7 a ?_)
  (conv=>whnf)
  refine CE (ι:=Nat) (λi=>[(1,.F .box (aA.enc .U c)),(3,.F .one [I (bT 0 (c.Z.take i))]),(10,.F .one (ko .U c.Z)),(11,.F .one [I c.Z.length]),(12,.F .one [I (i:Nat)])]) (λi=>i<=c.Z.length/\0<=bT 0 (c.Z.take i)/\bT 0 (c.Z.take i)<=64*(i:Nat)) (λi=>c.Z.length - i) 0 ?_ ⟨T0 _,by simp[bT],by simp[bT]⟩ λi k=>?_
  ·exact wB
  obtain⟨k,p,q⟩:=k;by_cases h:i<c.Z.length
  ·obtain⟨l,b⟩ : ∃l,c.Z[i]? = some l:=⟨_,W1 h⟩
   have j:=g l (U1 b);have n:=ED i;have t:=AD j n.1 n.2
   repeat'(first|refine gE ?_|(conv=>whnf);first|with_reducible refine CA (aa b) ?_|refine C7 (cA (i:Nat)) ?_)
   (conv=>whnf)
   refine CD (i+1) ⟨ω,by rw[f6 b];omega,by rw[f6 b];omega⟩ ω ?_;rw[f6 b];exact wB
  repeat'(first|refine gE ?_|fail)
  rw[O6 ω];exact U0 (λz=>[I z]) (by unfold bk;rw[d];rfl)
def Ez(a:bZ):List Int:=[a.a3,a.c9,a.V,a.e1,a.e2,a.c8,a.c6,a.d0]
def tO{o:bF}(h:0<=aJ o.d):cz o=csz (aJ o.d):=by unfold cz;rw[CB h]
def vi{o:bF}(h:¬0<=aJ o.d):cz o=o.d:=by unfold cz;rw[C9 h]
def oz(h:ac)(G:ac.sml h)(l:dw h=true):ao Tryz.prog 8 false [.val (some 24) (ac.enc .U h)] .agg (bZ.enc .own (bS h)):=by
 have cH:=tw h G;rw[yx,l]at cH;obtain⟨k1,R,-,-,H,⟨k6,k6b⟩,-⟩:=rW l;have S:=jL H;have T:=jO H;have u:=qV l;have w:=wh l;obtain⟨n,-,o,p,⟨V,-⟩,⟨W,q⟩,y,r,-⟩:=G;have X:h.a0.y.length<=1048576:=r.1;have J:=rZ h.M.G.S n.1.2;have K:=ux h.M.G.V n.1.1;have N:=vU h.H h.J o p R;have P:=nD h.a0.y r;have Y:=pC h.b y;have Z:co cz h.O 0=0:=rfl;have hc0:co bk h.R 0=0:=rfl;have hp0:co (cw h) (a9 h.b) 0=0:=rfl;generalize hM:ek h.M.G.S=M at J;generalize hU:d3 h.M.G.V=U at K;generalize hL:gT h.H h.J=L at N;generalize hQ:quarCells h.a0.y h.a0.y.length=Q at P;refine fO 103 [(3,23,[15,16,17,18,19,20,21,22,23,24,25,26,27,28,29,30,31,32,33,34,35,36,3]),(9,4,[49,50,51,52]),(15,4,[69,70,71,72]),(20,15,[84,85,86,87,88,89,90,91,92,93,94,95,96,97,98])] Tryz.func8 rfl ?_ (.inr (bZ.enc_fr _))
 repeat'(first|refine gP ?_|(conv=>whnf);first|refine C7 (cH) ?_|refine C7 (xB h) ?_|refine C7 (J) ?_|refine C7 (K) ?_|refine C7 (N) ?_|refine C7 (P) ?_)
 (conv=>whnf)
 refine CE (ι:=Nat) (λi=>[(1,.F .box (ac.enc .U h)),(2,.F .box ([I 0,I 0,I 0,I 0,I 0,I 0,I 0,I 0])),(3,.F .box ([I (dC h:Nat),I M,I U,I L,I (co cz h.O i),I 0,I Q,I 0])),(38,.F .one (m8 .U h.O)),(39,.F .one [I (h.O.length)]),(40,.F .one [I ((i:Nat):Int)])]) (λi=>i<=h.O.length) (λi=>h.O.length - i) (0) ?_ (T0 _) λi t=>?_
 ·exact wB
 have hb:=eZ (f:=cz) (xs:=h.O) (b:=1000) w i t;by_cases g:i<h.O.length
 ·have k:=ah g
  have hsz:=u _ (am g);have d:co cz h.O (i+1)=co cz h.O i+cz (nth h.O i):=rfl;have B:=mY (aJ (nth h.O i).d);by_cases e:0<=aJ (nth h.O i).d
  ·rw[tO e]at d
   repeat'(first|refine gE ?_|(conv=>whnf);first|with_reducible refine CA (aa k) ?_|refine C7 (mI _) ?_|refine C7 (cA _) ?_)
   ((conv=>whnf);refine CD (i+1) ω ω ?_;(exact wB))
  rw[vi e]at d
  repeat'(first|refine gE ?_|(conv=>whnf);first|with_reducible (first|refine CA (aa k) ?_|refine Bf.D (λhq=>?_) (λhq=>?_))|refine C7 (mI _) ?_)
  ((conv=>whnf);refine CD (i+1) ω ω ?_;(exact wB))
 obtain rfl:i=h.O.length:=ω
 generalize hO:co cz h.O h.O.length=O at hb
 repeat'(first|refine gE ?_|fail)
 (conv=>whnf)
 refine CE (ι:=Nat) (λi=>[(1,.F .box (ac.enc .U h)),(2,.F .box ([I 0,I 0,I 0,I 0,I 0,I 0,I 0,I 0])),(3,.F .box ([I (dC h:Nat),I M,I U,I L,I O,I (co bk h.R i),I Q,I 0])),(63,.F .one (nB .U h.R)),(64,.F .one [I (h.R.length)]),(65,.F .one [I ((i:Nat):Int)])]) (λi=>i<=h.R.length) (λi=>h.R.length - i) (0) ?_ (T0 _) λi t=>?_
 ·exact wB
 have C:=eZ (f:=bk) (xs:=h.R) (b:=256) (λc _=>iW c) i t;by_cases g:i<h.R.length
 ·have k:=ah g
  have hcb:=iW (nth h.R i);have d:co bk h.R (i+1)=co bk h.R i+bk (nth h.R i):=rfl
  repeat'(first|refine gE ?_|(conv=>whnf);first|with_reducible refine CA (aa k) ?_|refine C7 (uz (nth h.R i) (q _ (am g))) ?_)
  ((conv=>whnf);refine CD (i+1) ω ω ?_;(exact wB))
 obtain rfl:i=h.R.length:=ω
 generalize hC:co bk h.R h.R.length=CC at C
 repeat'(first|refine gE ?_|(conv=>whnf);first|refine C7 (Y) ?_)
 (conv=>whnf)
 refine CE (ι:=Nat) (λi=>[(1,.F .box (ac.enc .U h)),(2,.F .box ([I 0,I 0,I 0,I 0,I 0,I 0,I 0,I 0])),(3,.F .box ([I (dC h:Nat),I M,I U,I L,I O,I CC,I Q,I (co (cw h) (a9 h.b) i)])),(78,.F .one (aF .own (a9 h.b))),(79,.F .one [I ((a9 h.b).length)]),(80,.F .one [I ((i:Nat):Int)])]) (λi=>i<=(a9 h.b).length) (λi=>(a9 h.b).length - i) (0) ?_ (T0 _) λi t=>?_
 ·exact wB
 have hb3:=eZ (f:=cw h) (xs:=a9 h.b) (b:=8) (λa _=>mY _) i t;by_cases g:i<(a9 h.b).length
 ·have k:=ah g
  obtain⟨j,hj,E,F,ha0,ha1⟩:=Ju l (am g);have d:co (cw h) (a9 h.b) (i+1)=co (cw h) (a9 h.b) i+cw h (nth (a9 h.b) i):=rfl;rw[show cw h (nth (a9 h.b) i)=csz (nth h.H j).Y by unfold cw;rw[F,I2]]at d;have hy:h.H[(denotes h.H h.J (nth (a9 h.b) i)).c7.toNat]? = some (nth h.H j):=by rw[E,I2];exact ah hj
  have B:=mY (nth h.H j).Y
  repeat'(first|refine gE ?_|(conv=>whnf);first|with_reducible refine CA (aa k) ?_|refine CG rfl (aa k) rfl ?_|refine C7 (mw h.H h.J (nth (a9 h.b) i) o p) ?_|refine CL ω (aa hy) ?_|refine C7 (cA _) ?_)
  ((conv=>whnf);refine CD (i+1) ω ω ?_;(exact wB))
 obtain rfl:i=(a9 h.b).length:=ω
 repeat'(first|refine gE ?_|fail)
 unfold bS;rw[hM,hU,hL,hO,hC,hQ]
 rfl
def or64{z1 z2:Int}(h1:0<=z1/\z1<=65535)(a:0<=z2/\z2<=65535):IntKind.i64.wrap ((BitVec.ofInt IntKind.i64.bits z1 ||| BitVec.ofInt IntKind.i64.bits z2).toNat:Nat)=bor z1 z2:=by
 rw[BitVec.toNat_or,oA ω,oA ω];have b:=LG h1 a;unfold bor at b |-;exact ed ω ω
def xQ(h:ac)(i:Nat)(n:dm h.H)(d:uo h)(a:∀s∈h.H,aT s=true)(y:i<h.H.length):ao Tryz.prog 237 false [.val (some 24) (ac.enc .U h),.val none [I (i:Nat)]] .one [I (gy h i)]:=by
 have F:=n.1;have G:=ah y;have g:=uC a y;have B:=aE ((i:Nat):Int) 0 ((h.H.length:Int) - 1);rw[O0 (show(0:Int)<=(i:Nat)/\((i:Nat):Int)<=(h.H.length:Int) - 1 by omega)]at B;have C:=fo h (nth h.H i).Q d;have o:=eC h (nth h.H i).Q;have H:dC h<=1048576:=d.1;have c:gy h i=jI h.H (aH h (nth h.H i).Q) (nth h.H i).a6 (aH h (nth h.H i).Q).length:=rfl;obtain⟨ps,q⟩ : ∃ps,aH h (nth h.H i).Q=ps:=⟨_,rfl⟩
 obtain⟨b,r⟩ : ∃b,(nth h.H i).a6=b:=⟨_,rfl⟩
 rw[q]at C o c;rw[r]at c g;rw[c];have J:jI h.H ps b 0=b:=rfl;refine fO 63 [(4,7,[22,23,24,25,26,27,28]),(11,10,[43,44,45,46,47,48,49,50,51,52])] Tryz.func237 rfl ?_
 repeat'(first|refine gP ?_|(conv=>whnf);first|with_reducible refine CA (aa G) ?_|refine C7 (B) ?_|refine C7 (C) ?_)
 (conv=>whnf)
 refine CE (ι:=Nat) (λu=>[(2,.F .box (ac.enc .U h)),(5,.F .one [I (jI h.H ps b u)]),(6,.F .one (aF .own ps)),(7,.F .one [I ((u:Nat):Int)])]) (λu=>u<=ps.length) (λu=>ps.length - u) (0) ?_ (T0 _) λu M=>?_
 ·exact wB
 by_cases K:u<ps.length
 ·have l:=ah K
  have t:=rH a (ps:=ps) g u
  repeat'(first|refine gE ?_|fail)
  (conv=>whnf)
  refine CE (ι:=Nat) (λj=>[(2,.F .box (ac.enc .U h)),(5,.F .one [I (qu h.H (nth ps u) (jI h.H ps b u) j)]),(6,.F .one (aF .own ps)),(7,.F .one [I ((u:Nat):Int)]),(8,.F .one [I ((j:Nat):Int)])]) (λj=>j<=h.H.length) (λj=>h.H.length - j) (0) ?_ (T0 _) λj L=>?_
  ·exact wB
  by_cases D:j<h.H.length
  ·have E:=ah D
   have w:=u9 a (p:=nth ps u) t j L;by_cases e:(nth h.H j).Q=nth ps u
   ·have k:qu h.H (nth ps u) (jI h.H ps b u) (j+1)=bor (qu h.H (nth ps u) (jI h.H ps b u) j) (nth h.H j).a6:=CB e
    repeat'(first|refine gB ?_|(conv=>whnf);first|with_reducible (first|refine CA (aa l) ?_|refine CA (aa E) ?_)|refine CG rfl (aa l) rfl ?_|refine CK (or64 w (uC a D)) ?_)
    ((conv=>whnf);refine CD (j+1) ω ω ?_;(exact wB))
   have k:qu h.H (nth ps u) (jI h.H ps b u) (j+1)=qu h.H (nth ps u) (jI h.H ps b u) j:=C9 e
   repeat'(first|refine gB ?_|(conv=>whnf);first|with_reducible (first|refine CA (aa l) ?_|refine CA (aa E) ?_)|refine CG rfl (aa l) rfl ?_)
   ((conv=>whnf);refine CD (j+1) ω ω ?_;(exact wB))
  obtain rfl:j=h.H.length:=ω
  repeat'(first|refine gE ?_|fail)
  ((conv=>whnf);refine CD (u+1) ω ω ?_;(exact wB))
 obtain rfl:u=ps.length:=ω
 repeat'(first|refine gE ?_|fail)
 rfl
def sE{xs:List bF}(h:∀o∈xs,0<=o.d/\o.d<=1000):∀k:Nat,k<=xs.length->0<=sQ xs k/\sQ xs k<=1000*k
 | 0,_=>⟨T4 _,T4 _⟩
 | k+1,a=>by
  have b:=sE h k ω;have c:=h _ (am (xs:=xs) (i:=k) ω);simp only[sQ];omega
def xe(h:ac)(a:∀o∈h.O,0<=o.d/\o.d<=1000)(e:h.O.length<=1048576):ao Tryz.prog 117 false [.val (some 24) (ac.enc .U h)] .one [I (uY h)]:=by
 refine fO 21 [] Tryz.func117 rfl ?_
 repeat'(first|refine gP ?_|fail)
 (conv=>whnf)
 refine CE (ι:=Nat) (λk=>[(1,.F .box (ac.enc .U h)),(3,.F .one [I (sQ h.O k)]),(4,.F .one [I ((k:Nat):Int)])]) (λk=>k<=h.O.length) (λk=>h.O.length - k) (0) ?_ (T0 _) λk c=>?_
 ·exact wB
 have g:=sE a k c;by_cases b:k<h.O.length
 ·have d:=ah b
  have i:=a _ (am b)
  repeat'(first|refine gE ?_|(conv=>whnf);first|refine CA (aa d) ?_)
  ((conv=>whnf);refine CD (k+1) ω ω ?_;(exact wB))
 obtain rfl:k=h.O.length:=ω
 repeat'(first|refine gE ?_|fail)
 rfl
def vj(k b:Int)(h:b<=9223372036854775807):ao Tryz.prog 235 false [.val none [I (slots k)],.val none [I b]] .one (aF .own (pW k b)):=by
 have c:=pB k b;have p:0<=slots k/\slots k<=16:=by unfold slots;repeat' split<;>omega
 unfold pW;cases e:J0 k b<;>rw[e]at c
 ·rw[C9 (by simp)]
  refine fO 27 [] Tryz.func235 rfl ?_ (.inr (bN _))
  repeat'(first|refine gP ?_|fail)
  (conv=>whnf)
  refine CE (ι:=Nat) (λj=>[(0,.F .one [I (slots k)]),(1,.F .one [I (b)]),(5,.F .one (aF .own [])),(6,.F .one [I ((j:Nat):Int)])]) (λj=>j=0) (λj=>1 - j) (0) ?_ (rfl) λj g=>?_
  ·exact wB
  subst g
  repeat'(first|refine gE ?_|(conv=>whnf);first|with_reducible refine Bf.D (λi=>?_) (λi=>?_)|refine C7 (c) ?_)
  all_goals rfl
 rw[CB rfl];refine fO 27 [] Tryz.func235 rfl ?_ (.inr (bN _))
 repeat'(first|refine gP ?_|fail)
 (conv=>whnf)
 refine CE (ι:=Nat) (λj=>[(0,.F .one [I (slots k)]),(1,.F .one [I (b)]),(5,.F .one (aF .own (oq b j))),(6,.F .one [I ((j:Nat):Int)])]) (λj=>j<=(slots k).toNat) (λj=>(slots k).toNat - j) (0) ?_ (T0 _) λj g=>?_
 ·exact wB
 have l:=si b j;by_cases q:j<(slots k).toNat
 ·have d:=fZ b (j:Nat) h
  have a:oq b (j+1)=if aQ b (j:Nat)=true then oq b j else oq b j++[((j:Nat):Int)]:=rfl
  cases n:aQ b (j:Nat)<;>rw[n]at d a
  ·rw[C9 (by simp)]at a
   repeat'(first|refine gE ?_|(conv=>whnf);first|refine C7 (c) ?_|refine C7 (d) ?_|refine CN cv (λr o=>by rw[C1.1 o];rfl) (by simp[aW,dn]) (by simp;omega) (by simp only[X0];exact yb (by simp;omega) (by decide)) rfl ?_)
   ((conv=>whnf);refine CD (j+1) ω ω ?_)
   rw[a]
   repeat'(first|exact trivial|rfl|exact CI rfl (CI (U0 (C.s du.own) (by simp[rI])) trivial)|refine CI ?_ ?_|(exact u7 (by first|omega|(simp only;omega)|(simp;omega))))
  rw[CB rfl]at a
  repeat'(first|refine gE ?_|(conv=>whnf);first|refine C7 (c) ?_|refine C7 (d) ?_)
  ((conv=>whnf);refine CD (j+1) ω ω ?_)
  rw[a];exact wB
 obtain rfl:j=(slots k).toNat:=ω
 repeat'(first|refine gE ?_|fail)
 rfl
def Hk(b i:Int):bor b (2 ^ i.toNat)=gF b i:=by
 unfold bor gF;have:((2 ^ i.toNat:Nat):Int)=(2:Int) ^ i.toNat:=Int.natCast_pow 2 i.toNat;rw[<-this,I2]
def xF(b i:Int)(d:0<=b/\b<=65535)(a:0<=i/\i<=15):ao Tryz.prog 239 false [.val none [I b],.val none [I i]] .one [I (gF b i)]:=by
 have c:=oB b i;rw[O0 ω]at c;have e:IntKind.u64.wrap i=i:=by unfold IntKind.wrap;simp[IntKind.signed,IntKind.bits];omega
 have h:=(shl64 a).2;have g:=(or64 (z1:=b) (z2:=2 ^ i.toNat) d ω).trans (Hk b i);refine fO 15 [] Tryz.func239 rfl ?_
 repeat'(first|refine gP ?_|(conv=>whnf);first|refine C7 (c) ?_|refine CM ω ?_|refine CK e ?_|refine CK (shl64 a).1 ?_|refine CK g ?_)
 rfl
def KM{s:ar}(b:aT s=true){k:Int}(d:0<=k/\k<slots s.Y):0<=k*csz s.Y/\k*csz s.Y<=15:=by
 have a:=aB b;have c:=fY a.2.2;rcases bW a.2.2 with e|e|e|e<;>rw[e]at c |-<;>omega
def xy(s:ar)(k:Int)(a:aT s=true)(d:0<=k/\k<slots s.Y):ao Tryz.prog 240 false [.val (some 3) (ar.enc .U s),.val none [I k]] .one [I (16*s.Q+k*csz s.Y)]:=by
 have e:=aB a;have i:=KM a d;have j:=fY e.2.2;have b:=eQ s;rw[a]at b;have g:=mu s.Y;have c:=aE k 0 (slots s.Y - 1);rw[O0 ω]at c;have h:=bV s.Y;refine fO 26 [(3,8,[17,18,19,20,21,22,23,24])] Tryz.func240 rfl ?_
 repeat'(first|refine gP ?_|(conv=>whnf);first|refine C7 (b) ?_|refine C7 (g) ?_|refine C7 (c) ?_|refine C7 (h) ?_|refine C8 ?_)
 exact U0 (λz=>[I z]) ω
def AN(f:aU)(g:f.a1.length<=1048576):ao Tryz.prog 241 false [.val (some 2) (aU.enc .U f)] .one [I (d7 (λu=>!u) f.a1)]:=by
 refine fO 18 [] Tryz.func241 rfl ?_
 repeat'(first|refine gP ?_|fail)
 (conv=>whnf)
 refine CE (ι:=Nat) (λi=>[(1,.F .box (aU.enc .U f)),(3,.F .one [I ((i:Nat):Int)])]) (λi=>i<=f.a1.length/\∀(j:Nat)(z:Bool),j<i->f.a1[j]? = some z->(!z)=false) (λi=>f.a1.length - i) (0) ?_ (⟨T0 _,λj z h=>ω⟩) λi c=>?_
 ·exact wB
 obtain⟨c,b⟩:=c;by_cases d:i<f.a1.length
 ·have a:=ah d
  cases e:nth f.a1 i<;>rw[e]at a
  ·repeat'(first|refine gE ?_|(conv=>whnf);first|with_reducible refine CA (aa a) ?_)
   exact U0 (λz=>[I z]) (dX a rfl b).symm
  repeat'(first|refine gE ?_|(conv=>whnf);first|with_reducible refine CA (aa a) ?_)
  ((conv=>whnf);refine CD (i+1) ⟨ω,fL a rfl b⟩ ω ?_;(exact wB))
 repeat'(first|refine gE ?_|fail)
 exact U0 (λz=>[I z]) (fS ω b).symm
def mH(m:aI):∀(n i:Nat),i<n->((nth m.T i).length:Int)+(nth m.u i).length<=bo m n/\0<=bo m n
 | 0,i,h=>absurd h (Nat.not_lt_zero i)
 | n+1,i,h=>by
  have a:0<=bo m n:=by
   cases n with
   | zero=>exact T4 _
   | succ k=>exact(mH m (k+1) 0 ω).2
  simp only[bo];by_cases e:i=n
  ·subst e;omega
  have:=(mH m n i ω).1;omega
structure kE(m:aI):Prop where
 b4:1<=m.T.length/\m.T.length<=4
 i4:m.u.length=m.T.length
 bl:∀i,i<m.T.length->(nth m.T i).length<=30
 il:∀i,i<m.T.length->(nth m.u i).length<=30
def kE.of{m:aI}(h:b9 m=true):kE m:=by
 obtain⟨⟨b,c,d⟩,-,e⟩:=dB.1 h;exact⟨⟨b,c⟩,d,λi a=>by have:=(mH m m.T.length i a).1;omega,λi a=>by have:=(mH m m.T.length i a).1;omega⟩
def kE.sml{m:aI}(h:kE m):aI.sml m:=by
 have c:=h.b4;have d:=h.i4;refine⟨⟨ω,λl a=>?_⟩,⟨ω,λl a=>?_⟩⟩
 ·obtain⟨i,b,rfl⟩:=aY a
  have:=h.bl i b;exact⟨ω,λ_ _=>trivial⟩
 obtain⟨i,b,rfl⟩:=aY a;have:=h.il i ω;show(nth m.u i).length<=1048576;omega
def rg(m:aI)(k:Int)(a:aI.sml m):ao Tryz.prog 187 false [.val (some 2) (aI.enc .U m),.val none [I k]] .one [B (b9 m&&decide (0<=k/\k<=m.T.length - 1))]:=by
 have b:=kX m a;have c:m.T.length<=1048576:=a.1.1;cases e:b9 m<;>rw[e]at b
 all_goals
  refine fO 15 [] Tryz.func187 rfl ?_
  repeat'(first|refine gP ?_|(conv=>whnf);first|refine C8 ?_|refine C7 (b) ?_|refine C7 (aE k 0 (m.T.length - 1:Int)) ?_)
  all_goals rfl
def Qu{m:aI}{f:Nat}(a:f<m.T.length):m.T[f]? = some (nth m.T f):=ah a
def Hv(m:aI)(f:Nat)(p:dl):aI.enc .own (gu m f p)=[.s .own ((m.T.map (cY .own)).set f (cY .own (nth m.T f++[p]))),.s .own (m.u.map (aF .own))]:=by simp[aI.enc,gu,T5]
def Hq{m:aI}(h:kE m){f:Nat}(c:f<m.T.length)(p:dl):aI.sml (gu m f p):=by
 have d:=h.b4;have b:=h.sml;refine⟨⟨by simp only[gu,I1];omega,λl a=>?_⟩,b.2⟩;rcases W5 a with a|rfl
 ·exact b.1.2 l a
 have:=h.bl f c;exact⟨by simp;omega,λ_ _=>trivial⟩
def He(m:aI)(f:Nat)(p:dl)(j:b9 m=true)(g:f<m.T.length):ao Tryz.prog 178 false [.val (some 2) (aI.enc .U m),.val none [I (f:Nat)],.val (some 2) (dl.enc .U p)] (.tup [some 2,none]) (aI.enc .own (if b9 (gu m f p)=true then gu m f p else m)++[B (b9 (gu m f p))]):=by
 have c:=kE.of j;have k:=c.sml;have q:=c.b4;have h:=rg m f k;rw[j,O0 ω]at h;have l:=eX m k;have b:=Hq c g p;have i:=kX (gu m f p) b;have n:=eX (gu m f p) b;have a:=Qu g;have o:=c.bl f g;have d:=aI.enc_fz (gu m f p);rw[Hv]at d;cases e:b9 (gu m f p)<;>rw[e]at i
 ·rw[C9 (by simp)]
  refine fO 35 [(4,267,[16,17,18,19,20,21,22,23,24,25,27,0,1,2,3,4,5,6,7,8,9,10,1000,1001,1002,11,12])] Tryz.func178 rfl ?_ (.inr (bc (aI.enc_fr _) ⟨trivial,trivial⟩))
  repeat'(first|refine gP ?_|(conv=>whnf);first|with_reducible refine CA (aa a) ?_|refine C8 ?_|refine CA (fK a) ?_|refine CG rfl (fK a) rfl ?_|refine C7 (h) ?_|refine C7 (l) ?_|refine Lq.one rfl rfl (aa a) rfl (Z0 rfl) rfl rfl ?_|refine CG rfl (aa a) rfl ?_|refine CO rfl rfl (fK a) rfl (Z0 rfl) (show [C.s du.own ((m.T.map (cY .own)).set f (cY .own (nth m.T f++[p]))),C.s .own (m.u.map (aF .own))]=_ from by simp only[List.set_cons_zero,List.set_set,I2];rfl) ?_|refine Ap.sm (aM λ_=>rfl) rfl (by simp;omega) (by decide) (im _ _ _) ?_|refine CH (i) ⟨⟨rfl,d⟩,trivial⟩ ?_)
  rfl
 rw[CB rfl];refine fO 35 [(4,267,[16,17,18,19,20,21,22,23,24,25,27,0,1,2,3,4,5,6,7,8,9,10,1000,1001,1002,11,12])] Tryz.func178 rfl ?_ (.inr (bc (aI.enc_fr _) ⟨trivial,trivial⟩))
 repeat'(first|refine gP ?_|(conv=>whnf);first|with_reducible refine CA (aa a) ?_|refine C8 ?_|refine CA (fK a) ?_|refine CG rfl (fK a) rfl ?_|refine C7 (h) ?_|refine C7 (l) ?_|refine Lq.one rfl rfl (aa a) rfl (Z0 rfl) rfl rfl ?_|refine CG rfl (aa a) rfl ?_|refine CO rfl rfl (fK a) rfl (Z0 rfl) (show [C.s du.own ((m.T.map (cY .own)).set f (cY .own (nth m.T f++[p]))),C.s .own (m.u.map (aF .own))]=_ from by simp only[List.set_cons_zero,List.set_set,I2];rfl) ?_|refine Ap.sm (aM λ_=>rfl) rfl (by simp;omega) (by decide) (im _ _ _) ?_|refine CH (i) ⟨⟨rfl,d⟩,trivial⟩ ?_|refine CH (n) ⟨⟨rfl,d⟩,trivial⟩ ?_)
 rfl
def FB(m:aI)(f:Int)(a:b9 m=true)(d:¬(0<=f/\f<=m.T.length - 1)):ao Tryz.prog 127 false [.val (some 2) (aI.enc .U m),.val none [I f]] (.tup [some 2,none]) (aI.enc .own m++[B false]):=by
 have e:=kE.of a;have b:=e.sml;have c:=rg m f b;rw[a,R0 d]at c;have g:=eX m b;refine fO 60 [(5,267,[31,32,33,34,35,36,37,38,39,40,42,0,1,2,3,4,5,6,7,8,9,10,1000,1001,1002,11,12]),(6,270,[43,44,45,46,47,48,49,50,51,52,53,54,55,57,0,1,2,3,4,5,6,7,8,9,10,11,12,13,1000,1001,1002,1003,14,15])] Tryz.func127 rfl ?_ (.inr (bc (aI.enc_fr _) ⟨trivial,trivial⟩))
 repeat'(first|refine gP ?_|(conv=>whnf);first|refine C8 ?_|refine C7 (c) ?_|refine C7 (g) ?_)
 rfl
def Fd(m:aI)(f t:Nat)(a:(nth (nth m.T f) 0).To=t):aI.enc .own (f7 m f)=[.s .own ((m.T.map (cY .own)).set f [.s .own (((nth m.T f).drop 1).map (dl.enc .U))]),.s .own ((m.u.map (aF .own)).set t (aF .own (nth m.u t++[(nth (nth m.T f) 0).X])))]:=by
 unfold aI.enc f7;simp only[T5,a,I2]
 rfl
def Bk(m:aI)(f:Nat)(h:b9 m=true)(i:f<m.T.length):ao Tryz.prog 127 false [.val (some 2) (aI.enc .U m),.val none [I (f:Nat)]] (.tup [some 2,none]) (aI.enc .own (if 0<(nth m.T f).length then f7 m f else m)++[B (decide (0<(nth m.T f).length))]):=by
 have d:=kE.of h;have u:=d.sml;have K:=d.b4;have D:=d.i4;have j:=rg m f u;rw[h,O0 ω]at j;have w:=eX m u;have a:=Qu i;have F:=d.bl f i;by_cases e:0<(nth m.T f).length
 ·rw[CB e,O0 e]
  have g:=((dB.1 h).2.1 f i).1 _ (am e);obtain⟨t,k⟩:=O2 g.1;have l:t<m.u.length:=ω
  have y:=ah e;have c:=ah l;have G:=d.il t ω;have n:=(kE.of (BU h i e)).sml;have H:=eX (f7 m f) n;have o:=aI.enc_fz (f7 m f);rw[Fd m f t k]at o;have q:=bc (b:=[B true]) (aI.enc_fr (f7 m f)) ⟨trivial,trivial⟩;generalize L:nth (nth m.T f) 0=p at *;obtain⟨M,J⟩:=p;simp only at k g o;subst k;refine fO 60 [(5,267,[31,32,33,34,35,36,37,38,39,40,42,0,1,2,3,4,5,6,7,8,9,10,1000,1001,1002,11,12]),(6,270,[43,44,45,46,47,48,49,50,51,52,53,54,55,57,0,1,2,3,4,5,6,7,8,9,10,11,12,13,1000,1001,1002,1003,14,15])] Tryz.func127 rfl ?_ (.inr q)
  repeat'(first|refine gB ?_|(conv=>whnf);first|with_reducible (first|refine CA (aa a) ?_|refine CA (aa c) ?_|refine Bf.E (λr=>?_) (λr=>?_))|refine C8 ?_|refine CL (by decide) (aa y) ?_|refine CA (fK a) ?_|refine CA (fK c) ?_|refine CG rfl (fK a) rfl ?_|refine CG rfl (fK c) rfl ?_|refine C7 (j) ?_|refine C7 (w) ?_|refine CG rfl (aa a) rfl ?_|refine CG rfl (aa c) rfl ?_|refine CG rfl (aa y) rfl ?_|refine Lq.one rfl rfl (aa c) rfl (Z0 rfl) rfl rfl ?_|refine Sl.suf 1 rfl (by rw[X0];omega) (aM λ_=>rfl) W3 ?_|refine CT (λ_=>rfl) (λ_=>rfl) (by rw[Z2];omega) (by decide) ?_|refine CR (λ_=>rfl) (λ_=>rfl) (by rw[Z2];omega) (by decide) ?_|refine CO rfl rfl (aa a) rfl (Z0 rfl) rfl ?_|refine CO rfl rfl (fK c) rfl (Z0 rfl) (show [C.s du.own ((m.T.map (cY .own)).set f [.s .own (((nth m.T f).drop 1).map (dl.enc .U))]),C.s .own ((m.u.map (aF .own)).set t (aF .own (nth m.u t++[J])))]=_ from by simp only[List.set_cons_zero,List.set_cons_succ,List.set_set,I2];rfl) ?_|refine Ap.sm (aM λ_=>rfl) rfl (by simp;omega) (by decide) (im _ _ _) ?_|refine C8 ?_|refine CH (H) ⟨⟨rfl,o⟩,trivial⟩ ?_)
  rfl
 rw[C9 e,R0 e];refine fO 60 [(5,267,[31,32,33,34,35,36,37,38,39,40,42,0,1,2,3,4,5,6,7,8,9,10,1000,1001,1002,11,12]),(6,270,[43,44,45,46,47,48,49,50,51,52,53,54,55,57,0,1,2,3,4,5,6,7,8,9,10,11,12,13,1000,1001,1002,1003,14,15])] Tryz.func127 rfl ?_ (.inr (bc (aI.enc_fr _) ⟨trivial,trivial⟩))
 repeat'(first|refine gB ?_|(conv=>whnf);first|with_reducible (first|refine CA (aa a) ?_|refine Bf.E (λr=>?_) (λr=>?_))|refine C8 ?_|refine C7 (j) ?_|refine C7 (w) ?_|refine CG rfl (aa a) rfl ?_)
 rfl
def Jr.set(rows:List (List C))(i:Nat){r n:List C}(h:KD r n):Jr (.s .own (rows.set i r)) (.s .own (rows.set i n)):=by
 refine .own_ _ _ (by simp) (λj a b d f=>?_) (λj l a b c p d f o g=>?_)
 ·by_cases e:i=j
  ·subst e
   have k:i<rows.length:=by have:=(Z1.1 d).1;simpa using this
   rw[I3 k]at d f;cases d;cases f;exact h.1
  rw[List.getElem?_set_ne e]at d f;rw[d]at f;cases f;rfl
 by_cases e:i=j
 ·subst e
  have k:i<rows.length:=by have:=(Z1.1 d).1;simpa using this
  rw[I3 k]at d f;cases d;cases f;exact h.2 l c p o g
 rw[List.getElem?_set_ne e]at d f;rw[d]at f;cases f;rw[o]at g;cases g;exact .rfl_ _
def zM(m:aI)(t:Nat)(d:b9 m=true)(h:t<m.T.length):ao Tryz.prog 188 false [.val (some 2) (aI.enc .U m),.val none [I (t:Nat)]] (.tup [some 2,none]) (aI.enc .own (kP m t)++aF .own (nth m.u t)):=by
 have b:=kE.of d;have e:=b.sml;have o:=b.b4;have j:=b.i4;have g:=rg m t e;rw[d,O0 ω]at g;have k:=eX m e;have c:=ah (xs:=m.u) (i:=t) ω;have l:=b.il t h;have a:=bc (aI.enc_fr (kP m t)) (bN (nth m.u t));have n:aI.enc .own (kP m t)=[.s .own (m.T.map (cY .own)),.s .own ((m.u.map (aF .own)).set t [.s .own []])]:=by simp[aI.enc,kP,T5];rfl
 rw[n]at a |-;refine fO 28 [(5,263,[20,21,22,23,24,25,26,0,1,2,3,4,5,6,7,1000,8,9])] Tryz.func188 rfl ?_ (.inr a)
 repeat'((conv=>whnf);first|with_reducible (first|refine Lm ?_|refine Wm ω ?_|refine CA (aa c) ?_|refine Bn ?_|refine jK.dk rfl ?_)|refine Bt ?_|refine Bu ?_|refine C8 ?_|refine C7 (g) ?_|refine C7 (k) ?_|refine CG rfl (aa c) rfl ?_|refine CO rfl rfl (aa c) rfl (Z0 rfl) rfl ?_|refine CT (λ_=>rfl) (λ_=>rfl) ω (by decide) ?_|refine CR (λ_=>rfl) (λ_=>rfl) ω (by decide) ?_|refine C8 ?_)
 exact .cons (.rfl_ _) (.cons (Jr.set _ _ (.cons .z_ .nil)) (.cons (.rfl_ _) .nil))
def GG(now:Int):∀{l:List aK}{i:Nat},i<=l.length->(∀j,j<i->(nth l j).c0<now - 100)->(i<l.length->¬(nth l i).c0<now - 100)->rc now l=i
 | [],i,h,_,_=>by simp at h;subst h;rfl
 | x::xs,0,_,_,h=>by
  unfold rc;exact C9 (h (by simp))
 | x::xs,i+1,b,a,c=>by
  unfold rc;refine(CB (a 0 ω)).trans ?_;rw[GG now (l:=xs) (i:=i) (by simp at b;omega) (λj d=>a (j+1) ω) (λe=>c (by simp;omega))]
def N8(q:bI)(now:Int):List C:=bI.enc .own ⟨q.c2,q.y.drop (rc now q.y)⟩++cF .own (q.y.take (rc now q.y))
def ul(q:bI)(now:Int)(g:eP q=true)(G:q.y.length<=4096)(u:0<=now/\now<=1000000):ao Tryz.prog 131 false [.val (some 2) (bI.enc .U q),.val none [I now],.val none [I 100]] (.tup [some 2,none]) (N8 q now):=by
 have w:bI.sml q:=⟨ω,λ_ _=>trivial⟩
 have n:=om q w;rw[g]at n;have o:=aE now 0 1000000;rw[O0 u]at o;have p:=aE 100 0 1000000;rw[O0 (by decide)]at p;have h:=(jv.1 g).1;have a:gn (N8 q now):=bc (bI.enc_fr _) (tl _);have y:∀i,i<q.y.length->0<=(nth q.y i).c0:=λi b=>(h _ (am b)).2.2.2
 unfold N8 at a |-;generalize B:rc now q.y=k at a |-;refine fO 59 [(6,270,[44,45,46,47,48,49,50,51,53,54,55,56,57,58,0,1,2,3,4,5,6,7,9,10,11,12,13,14,8,1009,1010,1011,1012,1013,1014,15,16])] Tryz.func131 rfl ?_ (.inr a)
 repeat'(first|refine gP ?_|(conv=>whnf);first|refine C8 ?_|refine C7 (n) ?_|refine C7 (o) ?_|refine C7 (p) ?_)
 (conv=>whnf)
 refine CE (ι:=Nat) (λi=>[(1,.F .one [I (now)]),(2,.F .one [I (100)]),(3,.F .box (bI.enc .U q)),(6,.F .box [I 0,.z]),(8,.F .one [I ((i:Nat):Int)])]) (λi=>i<=q.y.length/\∀j,j<i->(nth q.y j).c0<now - 100) (λi=>q.y.length - i) (0) ?_ (⟨T0 _,λj C=>ω⟩) λi b=>?_
 ·exact wC
 obtain⟨b,r⟩:=b;by_cases l:i<q.y.length/\(nth q.y i).c0<now - 100
 ·have c:=ah l.1
  repeat'(first|refine gE ?_|(conv=>whnf);first|with_reducible refine CA (aa c) ?_|refine C8 ?_|refine CG rfl (aa c) rfl ?_)
  ((conv=>whnf);refine CD (i+1) ⟨ω,λj C=>by by_cases e:j=i;(subst e;exact l.2);exact r j ω⟩ ω ?_;(exact wC))
 have d:=GG now (i:=i) b r (λE F=>l ⟨E,F⟩);rw[B]at d;subst d;by_cases t:k<q.y.length
 ·have c:=ah t
  have:=y k t
  repeat'(first|refine gE ?_|(conv=>whnf);first|with_reducible (first|refine CA (aa c) ?_|refine Bf.D (λg=>?_) (λg=>?_))|refine C8 ?_|refine CG rfl (aa c) rfl ?_|refine CU k rfl (by rw[X0];omega) (aM λ_=>rfl) V3 ?_|refine Sl.suf k rfl (by rw[X0];omega) (aM λ_=>rfl) W3 ?_|refine CT (λ_=>rfl) (λ_=>rfl) (by rw[O1];omega) (by decide) ?_|refine CT (λ_=>rfl) (λ_=>rfl) (by rw[Z2];omega) (by decide) ?_|refine CR (λ_=>rfl) (λ_=>rfl) (by rw[Z2];omega) (by decide) ?_|refine C8 ?_)
  rfl
 repeat'(first|refine gE ?_|(conv=>whnf);first|refine C8 ?_|refine CU k rfl (by rw[X0];omega) (aM λ_=>rfl) V3 ?_|refine Sl.suf k rfl (by rw[X0];omega) (aM λ_=>rfl) W3 ?_|refine CT (λ_=>rfl) (λ_=>rfl) (by rw[O1];omega) (by decide) ?_|refine CT (λ_=>rfl) (λ_=>rfl) (by rw[Z2];omega) (by decide) ?_|refine CR (λ_=>rfl) (λ_=>rfl) (by rw[Z2];omega) (by decide) ?_|refine C8 ?_)
 rfl
def z8(h:ac)(n:Int)(g:aR h [])(r:0<=n/\n<=1000)(p:h.b5+n<=1000000):aP Tryz.prog 93 false [.ptr (br h),.val none [I n]] [.ptr (br (tick h n)),.val none [I n]] .one [I ((mF h n).length:Nat)]:=by
 have a:=g.nums;unfold cr at a;rw[C0]at a;have t:=g.lens.quar;have i:=ul h.a0 (h.b5+n) g.quar ω ⟨ω,p⟩;have j:=g.aged r.1 p;unfold N8 at i;unfold tick mF aged at *;have l:(h.a0.y.take (rc (h.b5+n) h.a0.y)).length<=4096:=by rw[O1];omega
 rw[X0];generalize h.a0.y.take (rc (h.b5+n) h.a0.y)=out at i j l |-;generalize h.a0.y.drop (rc (h.b5+n) h.a0.y)=rest at i j |-;refine fM 48 [(132,[2,0])] [(2,269,[18,19,20,21,22,23,24,25,26,17,27,28,5,0,1,2,3,4,5,6,7,8,9,10,11,12,13,1011,14])] [(0,0),(0,0)] Tryz.func93 rfl (λu q=>?_)
 repeat'(first|refine gP ?_|(conv=>whnf);first|refine C8 ?_|refine CH (i) ⟨⟨rfl,bI.enc_fz h.a0⟩,⟨rfl,rfl⟩,⟨rfl,rfl⟩,trivial⟩ ?_|refine C8 ?_)
 (conv=>whnf)
 refine CE (ι:=Nat) (λk=>[(0,.F .box (br (freeAs {h with b5:=h.b5+n,a0:=⟨h.a0.c2,rest⟩} ((out.map (·.X)).take k)))),(6,.F .one (cF .own out)),(7,.F .one [I ((k:Nat):Int)])]) (λk=>k<=out.length) (λk=>out.length - k) (0) ?_ (T0 _) λk y=>?_
 ·exact wC
 by_cases o:k<out.length
 ·have b:=ah o
  have c:k<(out.map (·.X)).length:=by rw[X0];exact o
  have d:nth (out.map (·.X)) k=(nth out k).X:=bm (by rw[W2,ah o];rfl);have e:aR (freeAs {h with b5:=h.b5+n,a0:=⟨h.a0.c2,rest⟩} ((out.map (·.X)).take k)) (nth (out.map (·.X)) k::(out.map (·.X)).drop (k+1)):=by
   refine aR.freeAs ?_;rw[<-jn c,List.take_append_drop];rw[List.append_nil]at j;exact j
  rw[d]at e;have w:=mS _ _ _ e
  repeat'(first|refine gE ?_|(conv=>whnf);first|refine C8 ?_|refine CA (aa b) ?_|refine CG rfl (aa b) rfl ?_|refine CJ (w) (.inl rfl) ?_)
  ((conv=>whnf);refine CD (k+1) ω ω ?_)
  rw[t8 _ _ _ c,d];exact wC
 obtain rfl:k=out.length:=ω
 rw[O6 (by rw[X0];omega)]
 repeat'(first|refine gE ?_|(conv=>whnf);first|refine C8 ?_)
 refine CF rfl rfl ?_;exact wC
def BS(t:Nat)(h:ac)(az:List Int)(k:Nat)(a:k<az.length):recycs t h (az.take (k+1))=recyc t (recycs t h (az.take k)) (nth az k):=by
 unfold recycs;rw[Y4,ah a,Option.toList_some,List.foldl_append];rfl
def tV(h:ac)(t:Nat)(a:aR h [])(i:t<h.R.length):aP Tryz.prog 128 false [.ptr (br h),.val none [I (t:Nat)]] [.ptr (br (collect h t)),.val none [I (t:Nat)]] .one [I ((nth h.b.u t).length:Nat)]:=by
 have l:=a.nc;have n:=(dB.1 a.mail).1.2.2;have j:=zM h.b t a.mail ω;have c:=(kE.of a.mail).il t ω;have d:=a.coll (t:=t) ω;rw[List.append_nil]at d;unfold collect;generalize nth h.b.u t=out at j d c |-;refine fM 36 [(182,[2,0,0])] [] [(0,0),(0,0)] Tryz.func128 rfl (λu q=>?_)
 repeat'(first|refine gP ?_|(conv=>whnf);first|refine C8 ?_|refine CH (j) ⟨⟨rfl,aI.enc_fz h.b⟩,⟨rfl,rfl⟩,trivial⟩ ?_)
 (conv=>whnf)
 refine CE (ι:=Nat) (λk=>[(0,.F .box (br (recycs t {h with b:=kP h.b t} (out.take k)))),(1,.F .one [I ((t:Nat):Int)]),(6,.F .one (aF .own out)),(7,.F .one [I ((k:Nat):Int)])]) (λk=>k<=out.length) (λk=>out.length - k) (0) ?_ (T0 _) λk p=>?_
 ·exact wC
 by_cases e:k<out.length
 ·have b:=ah e
  have g:aR (recycs t {h with b:=kP h.b t} (out.take k)) (nth out k::out.drop (k+1)):=by
   refine aR.recycs ?_ i;rw[<-jn e,List.take_append_drop];exact d
  have o:=nk _ _ t _ g (by rw[(jl t _ _).1];exact i)
  repeat'(first|refine gE ?_|(conv=>whnf);first|refine C8 ?_|refine CA (aa b) ?_|refine CG rfl (aa b) rfl ?_|refine CJ (o) (.inl rfl) ?_)
  ((conv=>whnf);refine CD (k+1) ω ω ?_)
  rw[BS _ _ _ _ e];exact wC
 obtain rfl:k=out.length:=ω
 rw[U4]
 repeat'(first|refine gE ?_|(conv=>whnf);first|refine C8 ?_)
 refine CF rfl rfl ?_;exact wC
def JQ(a:Int)(o:bF):Bool:=decide (o.X<=a/\a<o.X+o.d)
def EW(h:ac)(E:List Int)(a:Int)(d:aR h E):aP Tryz.prog 184 false [.ptr (br h),.val none [I a]] [.ptr (br h),.val none [I a]] .one [I (d7 (JQ a) h.O)]:=by
 have r:=d.lens.objs;refine fM 47 [] [(4,29,[15,16,17,18,19,20,21,22,23,24,25,26,27,28,29,30,31,32,33,34,35,36,37,38,39,40,41,42,43])] [(0,0),(0,0)] Tryz.func184 rfl (λu q=>?_)
 repeat'(first|refine gP ?_|(conv=>whnf);first|refine C8 ?_)
 (conv=>whnf)
 refine CE (ι:=Nat) (λi=>[(0,.F .box (br h)),(1,.F .one [I (a)]),(5,.F .one [I ((i:Nat):Int)])]) (λi=>i<=h.O.length/\∀(j:Nat)(z:bF),j<i->h.O[j]? = some z->JQ a z=false) (λi=>h.O.length - i) (0) ?_ (⟨T0 _,λj z C=>ω⟩) λi d=>?_
 ·exact wC
 obtain⟨t,c⟩:=d;by_cases e:i<h.O.length
 ·have b:=ah e
  have w:=sP ‹aR h E› (am e);have y:0<=(nth h.O i).d/\(nth h.O i).d<=1000:=by
   rcases aR.oow ‹aR h E› _ (am e) with⟨s,B,F,G⟩|⟨l,g,k,o⟩
   ·have H:=aB ((aR.L ‹aR h E›).sok s B)
    have:=mQ (n:=(nth h.O i).d) ω;omega
   have J:=bR ((aR.L ‹aR h E›).lok l g);omega
  by_cases k:(nth h.O i).X<=a
  ·by_cases o:a<(nth h.O i).X+(nth h.O i).d
   ·repeat'(first|refine gE ?_|(conv=>whnf);first|with_reducible refine CA (aa b) ?_|refine C8 ?_|refine CG rfl (aa b) rfl ?_|refine C8 ?_)
    refine CF rfl (U0 (λz=>[I z]) (dX b (O0 ⟨k,o⟩) c).symm) ?_;exact wC
   repeat'(first|refine gE ?_|(conv=>whnf);first|with_reducible (first|refine CA (aa b) ?_|refine Bf.D (λp=>?_) (λp=>?_))|refine C8 ?_|refine CG rfl (aa b) rfl ?_|refine C8 ?_)
   ((conv=>whnf);refine CD (i+1) ⟨ω,fL b (R0 λx=>o x.2) c⟩ ω ?_;(exact wC))
  repeat'(first|refine gE ?_|(conv=>whnf);first|with_reducible (first|refine CA (aa b) ?_|refine Bf.D (λp=>?_) (λp=>?_))|refine C8 ?_|refine CG rfl (aa b) rfl ?_|refine C8 ?_)
  ((conv=>whnf);refine CD (i+1) ⟨ω,fL b (R0 λx=>k x.1) c⟩ ω ?_;(exact wC))
 repeat'(first|refine gE ?_|(conv=>whnf);first|refine C8 ?_)
 refine CF rfl (U0 (λz=>[I z]) (fS ω c).symm) ?_;exact wC
def FP(h:ac)(a v:Int):br {h with M:=kO h.M a v} = (br h).set 0 (.s .own ((h.M.G.V.W.map (aF .own)).set (au h.M.G.S (a / 16)).j.toNat ((aF .own (nth h.M.G.V.W (fJ h.M a))).set 0 (.s .own (((nth h.M.G.V.W (fJ h.M a)).map (rI .own)).set (a % 16).toNat (splice (rI .own (nth (nth h.M.G.V.W (fJ h.M a)) (a % 16).toNat)) 0 [I v])))))):=by
 simp[br,kO,setCell,T5,aF,splice,fJ,rI]
def DJ{α:Type}{p:α->Bool}{xs:List α}{x:α}(a:x∈xs)(b:p x=true):0<=d7 p xs:=by
 have:=oK p xs;rw[show xs.any p=true from R3.2 ⟨x,a,b⟩,C0]at this;exact this
def x8(h:ac)(i:Nat)(j v:Int)(e:aR h [])(C:i<h.O.length)(D:0<=j/\j<=(nth h.O i).d - 1):aP Tryz.prog 123 false [.ptr (br h),.val none [I ((nth h.O i).X+j)],.val none [I v]]
  [.ptr (br (if(au h.M.G.S (((nth h.O i).X+j) / 16)).w=1\/¬(0<=v/\v<=999) then h else {h with M:=kO h.M ((nth h.O i).X+j) v})),.val none [I ((nth h.O i).X+j)],.val none [I v]] .one [I (if(au h.M.G.S (((nth h.O i).X+j) / 16)).w=1 then 2 else if ¬(0<=v/\v<=999) then 3 else 0)]:=by
 obtain⟨E,J,K⟩:=me e (am C) D;have F:0<=d7 (JQ ((nth h.O i).X+j)) h.O:=DJ (am C) (O0 ω);have p:=EW h [] ((nth h.O i).X+j) e;have r:=bE e.ker;have t:=cX h.M.G.S (((nth h.O i).X+j) / 16) r.1.2;have n:=aE v 0 999;generalize L:(nth h.O i).X+j=a at *;have b:0<=a/\a<512:=ω
 obtain⟨-,-,-,G,M⟩:=cC e.ker E;have H:=(bg.1 (aD.1 e.ker).2.1).2.2.1;have k:fJ h.M a<h.M.G.V.W.length:=by unfold fJ;omega
 have d:h.M.G.V.W[(au h.M.G.S (a / 16)).j.toNat]? = some (nth h.M.G.V.W (fJ h.M a)):=ah k;have w:=e.lens.row _ (am k);have l:=ah (xs:=nth h.M.G.V.W (fJ h.M a)) (i:=(a % 16).toNat) (by rw[w];omega);have B:a.tmod 16=a % 16:=fQ b.1;refine fM 42 [(184,[2,0])] [(8,14,[27,28,29,30,31,32,33,34,35,36,37,38,39,40])] [(0,0),(0,0),(0,0)] Tryz.func123 rfl (λu q=>?_);by_cases o:(au h.M.G.S (a / 16)).w=1
 ·rw[CB (Or.inl o),CB o]
  repeat'(first|refine gB ?_|(conv=>whnf);first|refine C8 ?_|refine CJ (p) (.inl rfl) ?_|refine CH (t) ⟨⟨rfl,CX _⟩,⟨rfl,rfl⟩,trivial⟩ ?_|refine CM (by decide) ?_|refine CK (po b) ?_)
  refine CF rfl rfl ?_;exact wC
 rw[C9 (c:=_=(1:Int)) o];by_cases g:0<=v/\v<=999
 ·rw[O0 g]at n
  rw[C9 (c:=¬(0<=v/\v<=999)) (U3 g),C9 (c:=_\/¬(0<=v/\v<=999)) (λy=>y.elim o λy=>y g)]
  repeat'(first|refine gB ?_|(conv=>whnf);first|refine C8 ?_|refine CJ (p) (.inl rfl) ?_|refine CH (t) ⟨⟨rfl,CX _⟩,⟨rfl,rfl⟩,trivial⟩ ?_|refine C7 (n) ?_|refine CM (by decide) ?_|refine CK (po b) ?_|refine CS B ?_|refine CL G (aa d) ?_|refine CG rfl (aa d) rfl ?_|refine CL ω (aa l) ?_|refine Pu.two rfl rfl (aa d) rfl rfl rfl (aa l) rfl (U2 _) (FP h a v) ?_|refine C8 ?_)
  refine CF rfl rfl ?_;exact wC
 rw[R0 g]at n;rw[CB (Or.inr g),CB g]
 repeat'(first|refine gB ?_|(conv=>whnf);first|refine C8 ?_|refine CJ (p) (.inl rfl) ?_|refine CH (t) ⟨⟨rfl,CX _⟩,⟨rfl,rfl⟩,trivial⟩ ?_|refine C7 (n) ?_|refine CM (by decide) ?_|refine CK (po b) ?_)
 refine CF rfl rfl ?_;exact wC
def wZ(l:ay)(n:Int):a8:=if(n+15) / 16<l.a3 then⟨l.Q+(n+15) / 16,l.a3 - (n+15) / 16⟩ else⟨0,0⟩
def vH(l:ay)(n:Int)(d:bP l=true):ao Tryz.prog 185 false [.val (some 3) (ay.enc .U l),.val none [I n]] (.tup [some 3,some 2,none]) (if 9<=n/\n<=l.d then ay.enc .own (trimL l n)++a8.enc .own (wZ l n)++[B true] else ay.enc .own l++[I 0,I 0]++[B false]):=by
 have b:=na l;rw[d]at b;have a:=aE n 9 l.d;have g:=d;unfold bP at g;rw[C0]at g;by_cases e:9<=n/\n<=l.d
 ·rw[O0 e]at a
  rw[CB e];have c:=l8 n;rw[show eK n=(n+15) / 16 by unfold eK;rw[CB ω]]at c;unfold wZ;by_cases h:(n+15) / 16<l.a3
  ·rw[CB h]
   refine fO 43 [(7,261,[37,38,39,40,42,0,1,2,3,5,4,1005,6,1005,7,8])] Tryz.func185 rfl ?_ (.inr ⟨trivial,trivial,trivial,trivial,trivial,trivial,trivial⟩)
   repeat'(first|refine gE ?_|(conv=>whnf);first|refine C8 ?_|refine C7 (b) ?_|refine C7 (a) ?_|refine C7 (c) ?_|refine C8 ?_)
   rfl
  rw[C9 h];refine fO 43 [(7,261,[37,38,39,40,42,0,1,2,3,5,4,1005,6,1005,7,8])] Tryz.func185 rfl ?_ (.inr ⟨trivial,trivial,trivial,trivial,trivial,trivial,trivial⟩)
  repeat'(first|refine gE ?_|(conv=>whnf);first|refine C8 ?_|refine C7 (b) ?_|refine C7 (a) ?_|refine C7 (c) ?_|refine C8 ?_)
  rfl
 rw[R0 e]at a;rw[C9 e];refine fO 43 [(7,261,[37,38,39,40,42,0,1,2,3,5,4,1005,6,1005,7,8])] Tryz.func185 rfl ?_ (.inr ⟨trivial,trivial,trivial,trivial,trivial,trivial,trivial⟩)
 repeat'(first|refine gP ?_|(conv=>whnf);first|refine C8 ?_|refine C7 (b) ?_|refine C7 (a) ?_|refine C8 ?_)
 rfl
def Ac(h:ac)(t a:Int)(c:h.R.length<=4)(d:¬(0<=t/\t<=h.R.length - 1)):aP Tryz.prog 121 false [.ptr (br h),.val none [I t],.val none [I a]] [.ptr (br h),.val none [I t],.val none [I a]] .one [I 1]:=by
 have b:=aE t 0 (h.R.length - 1:Int);rw[R0 d]at b;refine fM 148 [(176,[2,0]),(180,[2,0]),(182,[2,0,0]),(175,[2,0])] [(15,269,[68,69,70,71,72,73,74,75,77,67,78,79,11,0,1,2,3,4,5,6,7,13,8,1000,1001,1002,1003,1004,1013,9,10,11,12,14,1012,15]),(22,15,[92,93,94,95,96,97,98,99,100,101,102,103,104,105,106]),(25,271,[116,117,118,119,120,121,122,123,124,125,127,115,128,129,14,0,1,2,3,4,5,6,7,8,9,15,10,1000,1001,1002,1003,1015,11,12,13,14,16,1014,17])] [(0,0),(0,0),(0,0)] Tryz.func121 rfl (λu q=>?_)
 repeat'(first|refine gP ?_|(conv=>whnf);first|refine C8 ?_|refine C7 (b) ?_)
 refine CF rfl rfl ?_;exact wC
def DS(h:ac)(i t:Nat)(a:aR h [])(j:i<h.O.length)(U:t<h.R.length)(K:(nth h.O i).a4≠t):aP Tryz.prog 121 false [.ptr (br h),.val none [I (t:Nat)],.val none [I (nth h.O i).X]] [.ptr (br (freeT h t i).1),.val none [I (t:Nat)],.val none [I (nth h.O i).X]] .one [I (freeT h t i).2]:=by
 have F:=am j;obtain⟨-,L,d⟩:=a.objAt F;have N:pj h (nth h.O i).X=i:=by
  have V:=(a.objAt F).1;exact g9 (f:=(·.X)) (gN a.osr) V j (by rw[L])
 rw[N]at d;have b:=sP a F;have W:=a.onu _ F;have n:=a.lens;have X:=n.objs;have Y:=a.nc;have Z:=kE.of a.mail;have hb4:=Z.b4;have o:=aE (t:Nat) 0 (h.R.length - 1:Int);rw[O0 ω]at o;have p:=pK h (nth h.O i).X ω;rw[d]at p;have e:=ah j;have G:=gd (nth h.O i).d;have O:=bE a.ker;have P:=cX h.M.G.S ((nth h.O i).X / 16) O.1.2;unfold freeT;by_cases H:aJ (nth h.O i).d<0
 ·rw[CB H]
  have c3:=pz h i a j H;refine fM 148 [(176,[2,0]),(180,[2,0]),(182,[2,0,0]),(175,[2,0])] [(15,269,[68,69,70,71,72,73,74,75,77,67,78,79,11,0,1,2,3,4,5,6,7,13,8,1000,1001,1002,1003,1004,1013,9,10,11,12,14,1012,15]),(22,15,[92,93,94,95,96,97,98,99,100,101,102,103,104,105,106]),(25,271,[116,117,118,119,120,121,122,123,124,125,127,115,128,129,14,0,1,2,3,4,5,6,7,8,9,15,10,1000,1001,1002,1003,1015,11,12,13,14,16,1014,17])] [(0,0),(0,0),(0,0)] Tryz.func121 rfl (λu q=>?_)
  repeat'(first|refine gE ?_|(conv=>whnf);first|with_reducible refine Bf.D (λc=>?_) (λc=>?_)|refine C8 ?_|refine C7 (o) ?_|refine CH (p) ⟨⟨rfl,bz h⟩,⟨rfl,rfl⟩,trivial⟩ ?_|refine CA (aa e) ?_|refine CG rfl (aa e) rfl ?_|refine C7 (G) ?_|refine CJ (c3) (.inl rfl) ?_)
  refine CF rfl rfl ?_;exact wC
 rw[C9 H];obtain⟨s1,s2,s3,s4⟩:=Q4.of a (am j) H;by_cases J:(au (tbl h) ((nth h.O i).X / 16)).w=1
 ·rw[CB J]
  unfold tbl at J;refine fM 148 [(176,[2,0]),(180,[2,0]),(182,[2,0,0]),(175,[2,0])] [(15,269,[68,69,70,71,72,73,74,75,77,67,78,79,11,0,1,2,3,4,5,6,7,13,8,1000,1001,1002,1003,1004,1013,9,10,11,12,14,1012,15]),(22,15,[92,93,94,95,96,97,98,99,100,101,102,103,104,105,106]),(25,271,[116,117,118,119,120,121,122,123,124,125,127,115,128,129,14,0,1,2,3,4,5,6,7,8,9,15,10,1000,1001,1002,1003,1015,11,12,13,14,16,1014,17])] [(0,0),(0,0),(0,0)] Tryz.func121 rfl (λu q=>?_)
  repeat'(first|refine gB ?_|(conv=>whnf);first|with_reducible refine Bf.D (λc=>?_) (λc=>?_)|refine C8 ?_|refine CM (by decide) ?_|refine CK (po b) ?_|refine C7 (o) ?_|refine CH (p) ⟨⟨rfl,bz h⟩,⟨rfl,rfl⟩,trivial⟩ ?_|refine CA (aa e) ?_|refine CG rfl (aa e) rfl ?_|refine C7 (G) ?_|refine CH (P) ⟨⟨rfl,CX _⟩,⟨rfl,rfl⟩,trivial⟩ ?_)
  refine CF rfl rfl ?_;exact wC
 rw[C9 J,C9 K];unfold tbl at J;have r:=He h.b t ⟨(nth h.O i).a4,(nth h.O i).X⟩ a.mail ω;by_cases l:b9 (gu h.b t ⟨(nth h.O i).a4,(nth h.O i).X⟩)=true;rotate_left
 ·rw[C9 l]
  rw[C9 l,show b9 (gu h.b t ⟨(nth h.O i).a4,(nth h.O i).X⟩)=false by simpa using l]at r;refine fM 148 [(176,[2,0]),(180,[2,0]),(182,[2,0,0]),(175,[2,0])] [(15,269,[68,69,70,71,72,73,74,75,77,67,78,79,11,0,1,2,3,4,5,6,7,13,8,1000,1001,1002,1003,1004,1013,9,10,11,12,14,1012,15]),(22,15,[92,93,94,95,96,97,98,99,100,101,102,103,104,105,106]),(25,271,[116,117,118,119,120,121,122,123,124,125,127,115,128,129,14,0,1,2,3,4,5,6,7,8,9,15,10,1000,1001,1002,1003,1015,11,12,13,14,16,1014,17])] [(0,0),(0,0),(0,0)] Tryz.func121 rfl (λu q=>?_)
  repeat'(first|refine gB ?_|(conv=>whnf);first|with_reducible refine Bf.D (λc=>?_) (λc=>?_)|refine C8 ?_|refine CM (by decide) ?_|refine CK (po b) ?_|refine C7 (o) ?_|refine CH (p) ⟨⟨rfl,bz h⟩,⟨rfl,rfl⟩,trivial⟩ ?_|refine CA (aa e) ?_|refine CG rfl (aa e) rfl ?_|refine C7 (G) ?_|refine CH (P) ⟨⟨rfl,CX _⟩,⟨rfl,rfl⟩,trivial⟩ ?_|refine CH (r) ⟨⟨rfl,aI.enc_fz h.b⟩,⟨rfl,rfl⟩,⟨rfl,rfl⟩,trivial⟩ ?_|refine C8 ?_)
  refine CF rfl rfl ?_;exact wC
 rw[CB l];rw[CB l,l]at r;have w:fJ h.M (nth h.O i).X<h.M.G.V.W.length:=by unfold fJ;omega
 have hcz:=Lu s1;have B:=bV (aJ (nth h.O i).d);unfold NR;generalize gu h.b t ⟨(nth h.O i).a4,(nth h.O i).X⟩ = M at r;refine fM 148 [(176,[2,0]),(180,[2,0]),(182,[2,0,0]),(175,[2,0])] [(15,269,[68,69,70,71,72,73,74,75,77,67,78,79,11,0,1,2,3,4,5,6,7,13,8,1000,1001,1002,1003,1004,1013,9,10,11,12,14,1012,15]),(22,15,[92,93,94,95,96,97,98,99,100,101,102,103,104,105,106]),(25,271,[116,117,118,119,120,121,122,123,124,125,127,115,128,129,14,0,1,2,3,4,5,6,7,8,9,15,10,1000,1001,1002,1003,1015,11,12,13,14,16,1014,17])] [(0,0),(0,0),(0,0)] Tryz.func121 rfl (λu q=>?_)
 repeat'(first|refine gB ?_|(conv=>whnf);first|with_reducible refine Bf.D (λc=>?_) (λc=>?_)|refine C8 ?_|refine CM (by decide) ?_|refine CK (po b) ?_|refine C7 (o) ?_|refine CH (p) ⟨⟨rfl,bz h⟩,⟨rfl,rfl⟩,trivial⟩ ?_|refine CA (aa e) ?_|refine CG rfl (aa e) rfl ?_|refine C7 (G) ?_|refine CH (P) ⟨⟨rfl,CX _⟩,⟨rfl,rfl⟩,trivial⟩ ?_|refine CH (r) ⟨⟨rfl,aI.enc_fz h.b⟩,⟨rfl,rfl⟩,⟨rfl,rfl⟩,trivial⟩ ?_|refine C8 ?_)
 have Q:({{h with b:=M} with M:=fG h.M (nth h.O i).X 0} : ac) = {h with b:=M}:=G1 {h with b:=M} _ w;have R:=U0 (λy:ac=>C.s .own (y.M.G.V.W.map (aF .own))) Q
 (conv=>whnf)
 refine CE (ι:=Nat) (λk=>[(0,.F .box (br {{h with b:=M} with M:=fG h.M (nth h.O i).X k})),(1,.F .one [I ((t:Nat):Int)]),(2,.F .one [I ((nth h.O i).X)]),(7,.F .one [I ((i:Nat):Int)]),(8,.F .box (bF.enc .own (nth h.O i))),(9,.F .one [I (aJ (nth h.O i).d)]),(10,.F .box (bi.enc .own (au h.M.G.S ((nth h.O i).X / 16)))),(13,.F .one [I ((k:Nat):Int)])]) (λk=>k<=(csz (aJ (nth h.O i).d)).toNat) (λk=>(csz (aJ (nth h.O i).d)).toNat - k) (0) ?_ (T0 _) λk hk=>?_
 ·repeat'(first|exact trivial|rfl |exact nM R|exact cJ _|refine CI ?_ ?_|(exact u7 (by first|omega|(simp only;omega)|(simp;omega))))
 have T:IntKind.i64.wrap 0=0:=rfl;have S:(nth h.O i).X.tmod 16=(nth h.O i).X % 16:=fQ b.1;have g:(fG h.M (nth h.O i).X k).G.V.W[(au h.M.G.S ((nth h.O i).X / 16)).j.toNat]? = some (lJ (nth h.M.G.V.W (fJ h.M (nth h.O i).X)) ((nth h.O i).X % 16).toNat k):=I3 w;by_cases lk:k<(csz (aJ (nth h.O i).d)).toNat
 ·have E:=ah (xs:=lJ (nth h.M.G.V.W (fJ h.M (nth h.O i).X)) ((nth h.O i).X % 16).toNat k) (i:=((nth h.O i).X % 16+k).toNat) (by rw[oN,s4];omega)
  repeat'(first|refine gE ?_|(conv=>whnf);first|refine C8 ?_|refine CM (by decide) ?_|refine CS S ?_|refine C7 (B) ?_|refine CL s2.1 (aa g) ?_|refine CG rfl (aa g) rfl ?_|refine CL ω (aa E) ?_|refine Pu.two rfl rfl (aa g) rfl rfl rfl (aa E) rfl (U2 _) (D0 {h with b:=M} _ k _ b.1) ?_)
  ((conv=>whnf);refine CD (k+1) ω ω ?_;(exact wC))
 obtain rfl:k=(csz (aJ (nth h.O i).d)).toNat:=ω
 have c6:=mX {{h with b:=M} with M:=fG h.M (nth h.O i).X (csz (aJ (nth h.O i).d)).toNat} i j (by show h.O.length<=_;omega)
 repeat'(first|refine gB ?_|(conv=>whnf);first|with_reducible refine Bf.D (λc=>?_) (λc=>?_)|refine C8 ?_|refine C7 (B) ?_|refine CJ (c6) (.inl rfl) ?_)
 refine CF rfl rfl ?_;exact wC
def MI(h:ac)(i:Nat)(t:Int)(a:aR h [])(d:i<h.O.length):aP Tryz.prog 121 false [.ptr (br h),.val none [I t],.val none [I (nth h.O i).X]] [.ptr (br (if 0<=t/\t<=h.R.length - 1 then(freeT h t.toNat i).1 else h)),.val none [I t],.val none [I (nth h.O i).X]] .one [I (if 0<=t/\t<=h.R.length - 1 then(freeT h t.toNat i).2 else 1)]:=by
 have c:h.R.length<=4:=by have:=(dB.1 a.mail).1.2.1;have:=a.nc;omega
 by_cases b:0<=t/\t<=h.R.length - 1
 ·rw[CB b,CB b]
  obtain⟨n,rfl⟩:=O2 b.1;simp only[I2];by_cases e:(nth h.O i).a4=n
  ·have:=Eu h (nth h.O i) n a (am d) e c
   have g:pj h (nth h.O i).X=i:=by
    obtain⟨k,j,-⟩:=a.objAt (am d);exact g9 (f:=(·.X)) (gN a.osr) k d (by rw[j])
   rw[g,<-yN e]at this;exact this
  exact DS h i n a d ω e
 rw[C9 b,C9 b];exact Ac h t _ c b
def LQ(c:aA)(k:Nat):aA.enc .own (uy c k)=[.s .own ((c.Z.map (aF .own)).set k (aF .own ((nth c.Z k).take ((nth c.Z k).length - 1))))]:=by simp[aA.enc,uy,T5]
def Pf(xs:List Int)(n:Nat):(xs.take n).map (rI .U)=(xs.map (rI .U)).take n:=V3
def Qn(c:aA)(k:Nat):List C:=if 0<(nth c.Z k).length then aA.enc .own (uy c k)++[I (nth (nth c.Z k) ((nth c.Z k).length - 1)),B true] else aA.enc .own c++[I (-1),B false]
def P5(c:aA)(k:Nat):gn (Qn c k):=by
 unfold Qn;split
 ·exact bc (aA.enc_fr _) ⟨trivial,trivial,trivial⟩
 exact bc (aA.enc_fr _) ⟨trivial,trivial,trivial⟩
def vo(c:aA)(k:Nat)(h:bj c=true)(u:k<=3):ao Tryz.prog 165 false [.val (some 1) (aA.enc .U c),.val none [I (k:Nat)]] (.tup [some 1,none,none]) (Qn c k):=by
 obtain⟨w,j⟩:=ee h;have n:aA.sml c:=⟨ω,λl r=>by have:=j l r;show l.length<=1048576;omega⟩
 have d:=uZ c k n;rw[h,O0 ω]at d;have o:=ij c n;have b:=sD (c:=c) (k:=k) ω;have t:=j _ (am (xs:=c.Z) (i:=k) ω);have a:=P5 c k;unfold Qn at a |-;by_cases p:0<(nth c.Z k).length
 ·rw[CB p]at a |-
  have q:=ah (xs:=nth c.Z k) (i:=(nth c.Z k).length - 1) ω;have e:(nth c.Z k)[(((nth c.Z k).length:Int) - 1).toNat]? = some (nth (nth c.Z k) ((nth c.Z k).length - 1)):=by rw[show(((nth c.Z k).length:Int) - 1).toNat=(nth c.Z k).length - 1 by omega];exact q
  have g:((((nth c.Z k).length:Nat):Int) - 1)=(((nth c.Z k).length - 1:Nat):Int):=ω
  rw[LQ]at a |-;refine fO 54 [(5,268,[32,33,34,35,36,37,38,39,40,41,42,44,0,1,2,3,4,5,6,7,8,9,10,11,1000,1001,1002,12,13]),(6,265,[45,46,47,48,49,50,51,52,53,0,1,2,3,4,5,6,7,8,9,1001,1002,1003,1004,1005,1006,1007,1008,10,11])] Tryz.func165 rfl ?_ (.inr a)
  repeat'(first|refine gB ?_|(conv=>whnf);first|with_reducible refine CA (aa b) ?_|refine C8 ?_|refine CG rfl (aa b) rfl ?_|refine C7 (d) ?_|refine C7 (o) ?_|refine CL ω (aa e) ?_|refine CA (aa q) ?_|refine CU ((nth c.Z k).length - 1) g (by rw[X0];omega) (aM λ_=>rfl) (Pf _ _) ?_|refine C8 ?_|refine CT (λ_=>rfl) (λ_=>rfl) (by rw[O1];omega) (by decide) ?_|refine CR (λ_=>rfl) (λ_=>rfl) (by rw[O1];omega) (by decide) ?_|refine CO rfl rfl (aa b) rfl (Z0 rfl) rfl ?_)
  rfl
 rw[C9 p]at a |-;refine fO 54 [(5,268,[32,33,34,35,36,37,38,39,40,41,42,44,0,1,2,3,4,5,6,7,8,9,10,11,1000,1001,1002,12,13]),(6,265,[45,46,47,48,49,50,51,52,53,0,1,2,3,4,5,6,7,8,9,1001,1002,1003,1004,1005,1006,1007,1008,10,11])] Tryz.func165 rfl ?_ (.inr a)
 repeat'(first|refine gB ?_|(conv=>whnf);first|with_reducible refine CA (aa b) ?_|refine C8 ?_|refine CG rfl (aa b) rfl ?_|refine C7 (d) ?_|refine C7 (o) ?_)
 rfl
def Qi(xs:List a8)(n:Int):List C:=bH .own (a7 xs n).1++[I (a7 xs n).2.1,B (a7 xs n).2.2]
def NX(xs:List a8)(n:Int):gn (Qi xs n):=bc (o6 _) ⟨trivial,trivial,trivial⟩
def n9(pages:Int)(xs:List a8)(n:Int)(w:0<=pages/\pages<=1048576)(l:bw pages xs=true)(J:1<=n/\n<=1000)(K:xs.length<=4096):ao Tryz.prog 170 false [.val none [I pages],.val none (bH .U xs),.val none [I n]] (.tup [none,none,none]) (Qi xs n):=by
 have o:=lA pages xs w ⟨ω,λ_ _=>trivial⟩;rw[l]at o;have p:=(Aq l).2;refine fO 98 [(8,21,[31,32,33,34,35,36,37,38,39,40,41,42,43,44,45,46,47,48,49,50,51]),(14,265,[71,72,73,74,76,77,78,79,81,0,1,2,3,5,6,7,8,10,4,1005,1006,1007,1008,1010,9,1010,11,1010,12,13])] Tryz.func170 rfl ?_ (.inr (NX xs n))
 repeat'(first|refine gE ?_|(conv=>whnf);first|refine C8 ?_|refine C7 (o) ?_|refine CR (λ_=>rfl) (λ_=>rfl) ω (by decide) ?_)
 (conv=>whnf)
 refine CE (ι:=Nat) (λi=>[(1,.F .one (bH .U xs)),(2,.F .one [I (n)]),(9,.F .one (bH .own xs)),(10,.F .one [I (iF xs n i)]),(11,.F .one [I ((i:Nat):Int)])]) (λi=>i<=xs.length) (λi=>xs.length - i) (0) ?_ (T0 _) λi y=>?_
 ·exact wC
 have h:=xd xs n i y;by_cases q:i<xs.length
 ·have j:=ah q
  have E:=p _ (am q);have a:iF xs n (i+1)=if n<=(nth xs i).a5/\(iF xs n i<0\/(nth xs i).a5<(nth xs (iF xs n i).toNat).a5) then((i:Nat):Int) else iF xs n i:=rfl
  by_cases r:n<=(nth xs i).a5
  ·by_cases F:iF xs n i<0
   ·rw[CB ⟨r,.inl F⟩]at a
    repeat'(first|refine gE ?_|(conv=>whnf);first|with_reducible (first|refine CA (aa j) ?_|refine Bf.D (λc=>?_) (λc=>?_))|refine C8 ?_)
    ((conv=>whnf);refine CD (i+1) ω ω ?_)
    rw[a];exact wC
   have d:=ah (xs:=xs) (i:=(iF xs n i).toNat) ω;by_cases G:(nth xs i).a5<(nth xs (iF xs n i).toNat).a5
   ·rw[CB ⟨r,.inr G⟩]at a
    repeat'(first|refine gE ?_|(conv=>whnf);first|with_reducible (first|refine CA (aa j) ?_|refine CL ω (aa d) ?_|refine Bf.D (λc=>?_) (λc=>?_))|refine C8 ?_)
    ((conv=>whnf);refine CD (i+1) ω ω ?_)
    rw[a];exact wC
   rw[C9 ω]at a
   repeat'(first|refine gE ?_|(conv=>whnf);first|with_reducible (first|refine CA (aa j) ?_|refine CL ω (aa d) ?_|refine Bf.D (λc=>?_) (λc=>?_))|refine C8 ?_)
   ((conv=>whnf);refine CD (i+1) ω ω ?_)
   rw[a];exact wC
  rw[C9 ω]at a
  repeat'(first|refine gE ?_|(conv=>whnf);first|with_reducible (first|refine CA (aa j) ?_|refine Bf.D (λc=>?_) (λc=>?_))|refine C8 ?_)
  ((conv=>whnf);refine CD (i+1) ω ω ?_)
  rw[a];exact wC
 obtain rfl:i=xs.length:=ω
 change gv xs n = -1\/_ at h;unfold Qi a7;rw[show iF xs n xs.length=gv xs n from rfl];by_cases e:gv xs n<0
 ·rw[CB e]
  rw[show gv xs n = -1 from h.resolve_right λg=>by have L:0<=gv xs n:=g.1;omega]
  repeat'(first|refine gE ?_|(conv=>whnf);first|with_reducible refine Bf.D (λc=>?_) (λc=>?_)|refine C8 ?_)
  rfl
 rw[C9 e];obtain⟨H,t,M⟩:=h.resolve_left ω;change 0<=gv xs n at H;change gv xs n<xs.length at t;obtain⟨b,k⟩:=O2 (show 0<=gv xs n by omega);rw[k]at t |-;simp only[I2];have d:=ah (xs:=xs) (i:=b) ω;have E:=p _ (am (xs:=xs) (i:=b) ω);by_cases u:(nth xs b).a5=n
 ·rw[CB u]
  repeat'(first|refine gB ?_|(conv=>whnf);first|with_reducible (first|refine CA (aa d) ?_|refine Bf.D (λc=>?_) (λc=>?_))|refine C8 ?_|refine CU b rfl (by rw[X0];omega) (aM λ_=>rfl) V3 ?_|refine Sl.suf (b+1) rfl (by rw[X0];omega) (aM λ_=>rfl) W3 ?_|refine CT (λ_=>rfl) (λ_=>rfl) (by rw[O1];omega) (by decide) ?_|refine Ap.dele (λ_=>rfl) (λ_=>rfl) ω (by decide) ?_|refine CR (λ_=>rfl) (λ_=>rfl) (by rw[O1];omega) (by decide) ?_|refine C8 ?_)
  rfl
 rw[C9 u]
 repeat'(first|refine gB ?_|(conv=>whnf);first|with_reducible (first|refine CA (aa d) ?_|refine Bf.D (λc=>?_) (λc=>?_))|refine C8 ?_|refine CO rfl rfl (aa d) rfl (Z0 rfl) rfl ?_)
 exact U0 (λz=>z++[I (nth xs b).At,B true]) (show [C.s du.own _]=_ from by simp[bH,T5];rfl)
def KA(k:af)(p:Int)(f:Nat):af.enc .own (sR k p f)=((af.enc .own k).set 1 (.s .own ((k.G.V.a1.map (rB .own)).set f (rB .own true)))).set 2 (.s .own ((k.G.S.K.map (bi.enc .own)).set p.toNat (bi.enc .own ⟨2,(f:Nat)⟩))):=by
 simp[af.enc,sR,T5]
def Dz(k:af)(p:Int)(c:aC k=true)(y:k.q≠100000)(o:0<=p/\p<k.G.S.K.length)(C:(nth k.G.S.K p.toNat).w=0):aP Tryz.prog 172 false [.ptr (af.enc .own k),.val none [I p]] [.ptr (af.enc .own (gc k p).1),.val none [I p]] .one [B (gc k p).2]:=by
 have E:=bE c;have F:=bg.1 (aD.1 c).2.1;have G:=(bv.1 (aD.1 c).2.2.1).2.2;have H:(dy k).G.S.K.length<=32:=G;have a:=AN k.G.V ω;have d:=mR k c y;have g:=ec (dy k) p E.1.2;have l:au (dy k).G.S p=nth k.G.S.K p.toNat:=by unfold au;exact CB o
 rw[l,C]at g;have h:=aE p 0 ((k.G.S.K.length:Int) - 1);rw[O0 ω]at h;have r:=ah (xs:=k.G.S.K) (i:=p.toNat) ω;change ao _ _ _ _ _ [I (rh k)]at a;unfold gc;cases e:refd k<;>rw[e]at d
 ·by_cases j:rh k<0
  ·rw[CB (.inr j)]
   refine fM 56 [(242,[2])] [] [(0,0),(0,0)] Tryz.func172 rfl (λu q=>?_)
   repeat'(first|refine gB ?_|(conv=>whnf);first|with_reducible refine Bf.D (λb=>?_) (λb=>?_)|refine CH (a) ⟨⟨rfl,aU.enc_fz _⟩,trivial⟩ ?_|refine CJ (d) (.inl rfl) ?_|refine C7 (h) ?_|refine CH (g) ⟨CQ (dy k),⟨rfl,rfl⟩,trivial⟩ ?_)
   refine CF rfl ?_ ?_
   ·rfl
   exact wC
  rw[C9 (by simp[j])];obtain⟨n,t⟩:=Dv j;obtain⟨f,J⟩:=O2 (show 0<=rh k by omega);rw[J]at a n t j |-;simp only[I2]at n t |-;have w:=ah (xs:=k.G.V.a1) (i:=f) n;rw[KA];refine fM 56 [(242,[2])] [] [(0,0),(0,0)] Tryz.func172 rfl (λu q=>?_)
  repeat'(first|refine gB ?_|(conv=>whnf);first|with_reducible refine Bf.D (λb=>?_) (λb=>?_)|refine CH (a) ⟨⟨rfl,aU.enc_fz _⟩,trivial⟩ ?_|refine CJ (d) (.inl rfl) ?_|refine C7 (h) ?_|refine CH (g) ⟨CQ (dy k),⟨rfl,rfl⟩,trivial⟩ ?_|refine CA (aa w) ?_|refine CL o.1 (aa r) ?_|refine CO rfl rfl (aa w) rfl (Z0 rfl) rfl ?_|refine CO rfl rfl (aa r) rfl (Z0 rfl) rfl ?_)
  refine CF rfl ?_ ?_
  ·rfl
  exact wC
 rw[CB (.inl rfl)];refine fM 56 [(242,[2])] [] [(0,0),(0,0)] Tryz.func172 rfl (λu q=>?_)
 repeat'(first|refine gB ?_|(conv=>whnf);first|with_reducible refine Bf.D (λb=>?_) (λb=>?_)|refine CH (a) ⟨⟨rfl,aU.enc_fz _⟩,trivial⟩ ?_|refine CJ (d) (.inl rfl) ?_|refine C7 (h) ?_|refine CH (g) ⟨CQ (dy k),⟨rfl,rfl⟩,trivial⟩ ?_)
 refine CF rfl ?_ ?_
 ·rfl
 exact wC
def Qq(h:ac):List C:=(br h).drop 5
def Ea(h:ac)(p:Int)(a:aC h.M=true)(b:h.M.q≠100000)(c:0<=p/\p<h.M.G.S.K.length)(d:(nth h.M.G.S.K p.toNat).w=0):aP Tryz.prog 172 false [.ptr (br h),.val none [I p]] [.ptr (br {h with M:=(gc h.M p).1}),.val none [I p]] .one [B (gc h.M p).2]:=
 (Dz h.M p a b c d).frame (r:=Qq h) rfl
def H9(h:ac)(i:Nat):br (slotT h i)=((br h).set 14 (I (Gl h.c1))).set 6 (.s .own ((h.H.map (ar.enc .own)).set i [I (nth h.H i).Q,I (nth h.H i).Y,I (gF (nth h.H i).a6 (pq h i))])):=by
 simp[br,slotT,qt,T5,ar.enc]
def ri(h:ac)(E:List Int)(i:Nat)(c:aR h E)(k:i<h.H.length):aP Tryz.prog 167 false [.ptr (br h),.val none [I (i:Nat)]] [.ptr (br (rr h i).1),.val none [I (i:Nat)]] .one [I (rr h i).2]:=by
 have F:=c.lens;have G:=F.spans;have d:=ah k;have b:=c.L.sok _ (am k);have e:=ep b;have a:=c.nums;unfold cr at a;rw[C0]at a;have t:=(bv.1 (aD.1 c.ker).2.2.1).2.2;have l:=rH c.L.sok (ps:=aH h (nth h.H i).Q) e (aH h (nth h.H i).Q).length;change 0<=gy h i/\gy h i<=65535 at l;have w:=mu (nth h.H i).Y;have y:=xQ h i ⟨ω,λ_ _=>trivial⟩ ⟨by show h.M.G.S.K.length<=_;omega,λ_ _=>trivial⟩ c.L.sok k;have o:=vj (nth h.H i).Y (gy h i) ω;change ao _ _ _ _ _ (aF .own (mE h i)) at o;have p:=EB (nth h.H i).Y (gy h i);change (mE h i).length<=16 at p;unfold rr;by_cases B:(mE h i).length=0
 ·rw[CB B]
  refine fM 68 [] [(2,7,[16,17,18,19,20,21,22]),(7,12,[42,43,44,45,46,47,48,49,50,51,52,53]),(8,11,[56,57,58,59,60,61,62,63,64,65,66])] [(0,0),(0,0)] Tryz.func167 rfl (λu q=>?_)
  repeat'(first|refine gB ?_|(conv=>whnf);first|refine CA (aa d) ?_|refine CG rfl (aa d) rfl ?_|refine C7 (w) ?_|refine CH (y) ⟨⟨rfl,bz h⟩,⟨rfl,rfl⟩,trivial⟩ ?_|refine C7 (o) ?_|refine C8 ?_)
  refine CF rfl rfl ?_;exact wC
 rw[C9 B];have H:=zb (h:=h) (i:=i) ω;obtain⟨C,D,O⟩:=v4 H;have J:=(fY (aB b).2.2).2.2.1;have r:=xf h.c1 (n:=((mE h i).length:Nat)) ω;have K:=tM h.c1 ((mE h i).length:Nat) ω ω;have M:=xF (nth h.H i).a6 (pq h i) e ω;have N:=xy (qt (nth h.H i) (pq h i)) (pq h i) (Aw b ⟨C,D⟩) ⟨C,D⟩;have g:(mE h i)[(Lx h.c1 ((mE h i).length:Nat)).toNat]? = some (pq h i):=ah ω;have j:((h.H.map (ar.enc .own)).set i [I (nth h.H i).Q,I (nth h.H i).Y,I (gF (nth h.H i).a6 (pq h i))])[i]? = some [I (nth h.H i).Q,I (nth h.H i).Y,I (gF (nth h.H i).a6 (pq h i))]:=qS k;unfold tA;rw[H9];refine fM 68 [] [(2,7,[16,17,18,19,20,21,22]),(7,12,[42,43,44,45,46,47,48,49,50,51,52,53]),(8,11,[56,57,58,59,60,61,62,63,64,65,66])] [(0,0),(0,0)] Tryz.func167 rfl (λu q=>?_)
 repeat'(first|refine gB ?_|(conv=>whnf);first|refine CA (aa d) ?_|refine CA j ?_|refine CG rfl (aa g) rfl ?_|refine CG rfl (aa d) rfl ?_|refine CG rfl j rfl ?_|refine C7 (w) ?_|refine CH (y) ⟨⟨rfl,bz h⟩,⟨rfl,rfl⟩,trivial⟩ ?_|refine C7 (o) ?_|refine C7 (K) ?_|refine C7 (M) ?_|refine C7 (N) ?_|refine CL r.1 (aa g) ?_|refine C8 ?_|refine CO rfl rfl (aa d) rfl (Z0 rfl) rfl ?_)
 refine CF rfl ?_ ?_
 ·rfl
 exact wC
def Ap.ins{α:Type}{e:α->List C}{xs:List α}{y:α}{r:List C}{i sz by_:Nat}{K:List (List C)->Prop}(a:r=e y)(b:∀y,(e y).length=sz)(c:∀y,aW (e y)=true)(h:xs.length<=1048576)(d:by_<=1000)(f:K ((xs.take i++y::xs.drop i).map e)):Ap true ((xs.take i).map e++[r]) ((xs.drop i).map e) sz by_ K:=by
 subst a;have g:(xs.take i).length+1+(xs.drop i).length<=3145728:=by rw[O1,Z2];omega
 refine CN (λr a=>?_) (aM b) (λ_ r a=>by obtain⟨y,-,rfl⟩:=X3.1 a;exact c y) (by simp only[X2,X0,List.length_singleton];omega) (by simp only[X2,X0,List.length_singleton];exact R4 (Nat.mul_le_mul g d) (by decide)) ?_ f
 ·rcases R2.1 a with a|a
  ·exact aM b r a
  rw[C1.1 a];exact b y
 rw[C5,O5,Z4];rfl
def uO{α:Type}{p:α->Bool}{xs:List α}{y:α}{i:Nat}(h:lz p xs=i):jd p xs y=xs.take i++y::xs.drop i:=by unfold jd;rw[h]
def GQ(h:ac)(c:Int):ac × Int:=
 if(a7 h.o 1).2.2=false then(h,-1)
 else if(gc h.M (a7 h.o 1).2.1).2=false then({h with M:=(gc h.M (a7 h.o 1).2.1).1},-1)
 else(wP h c,(tY h:Nat))
def z4(h:ac)(E:List Int)(c:Nat)(g:aR h E)(J:h.M.q<=90000):aP Tryz.prog 168 false [.ptr (br h),.val none [I (c:Nat)]] [.ptr (br (GQ h c).1),.val none [I (c:Nat)]] .one [I (GQ h c).2]:=by
 have B:=g.lens;have K:=B.spans;have L:dC h<=32:=B.ents;have C:=gt h;have l:=n9 (dC h:Nat) h.o 1 ⟨ω,ω⟩ g.rng (by decide) (by have:=B.free;omega);unfold Qi at l;have d:=kS g (T4 1);unfold GQ wP tY;generalize a7 h.o 1=r at l d |-;obtain⟨o,p,ok⟩:=r;simp only at l d |-;cases ok with
 | false=>
  rw[CB rfl];refine fM 79 [(172,[2,0]),(2000010,[0,6])] [(1,267,[11,12,13,14,15,16,17,10,18,19,20,0,1,2,3,4,5,6,7,8,9,10,11,1009,1010,12,1010,13])] [(0,0),(0,0)] Tryz.func168 rfl (λu q=>?_)
  repeat'(first|refine gP ?_|(conv=>whnf);first|refine C8 ?_|refine CH (C) ⟨bz h,trivial⟩ ?_|refine CH (l) ⟨⟨rfl,rfl⟩,⟨rfl,dI h.o⟩,⟨rfl,rfl⟩,trivial⟩ ?_|refine C8 ?_)
  refine CF rfl rfl ?_;exact wC
 | true=>
  rw[C9 (by simp)];obtain⟨M,N,O,V⟩:=d rfl;have F:0<=p/\p<h.M.G.S.K.length:=⟨M,by have:p+1<=((tbl h).K.length:Nat):=N;unfold tbl at this;omega⟩
  have t:=Ea h p g.ker ω F (O p.toNat ω ω);generalize gc h.M p=w at t |-;obtain⟨k,b⟩:=w;simp only at t |-;cases b with
  | false=>
   rw[CB rfl];refine fM 79 [(172,[2,0]),(2000010,[0,6])] [(1,267,[11,12,13,14,15,16,17,10,18,19,20,0,1,2,3,4,5,6,7,8,9,10,11,1009,1010,12,1010,13])] [(0,0),(0,0)] Tryz.func168 rfl (λu q=>?_)
   repeat'(first|refine gP ?_|(conv=>whnf);first|refine C8 ?_|refine CH (C) ⟨bz h,trivial⟩ ?_|refine CH (l) ⟨⟨rfl,rfl⟩,⟨rfl,dI h.o⟩,⟨rfl,rfl⟩,trivial⟩ ?_|refine CJ (t) (.inl rfl) ?_|refine C8 ?_)
   refine CF rfl rfl ?_;exact wC
  | true=>
   rw[C9 (by simp)];refine fM 79 [(172,[2,0]),(2000010,[0,6])] [(1,267,[11,12,13,14,15,16,17,10,18,19,20,0,1,2,3,4,5,6,7,8,9,10,11,1009,1010,12,1010,13])] [(0,0),(0,0)] Tryz.func168 rfl (λu q=>?_)
   repeat'(first|refine gP ?_|(conv=>whnf);first|refine C8 ?_|refine CH (C) ⟨bz h,trivial⟩ ?_|refine CH (l) ⟨⟨rfl,rfl⟩,⟨rfl,dI h.o⟩,⟨rfl,rfl⟩,trivial⟩ ?_|refine CJ (t) (.inl rfl) ?_|refine C8 ?_)
   (conv=>whnf)
   refine CE (ι:=Nat) (λi=>[(0,.F .box (br {h with M:=k,o:=o})),(1,.F .one [I ((c:Nat):Int)]),(6,.F .one [I (p)]),(8,.F .one [I ((i:Nat):Int)])]) (λi=>i<=h.H.length/\∀(j:Nat)(z:ar),j<i->h.H[j]? = some z->H5 p z=false) (λi=>h.H.length - i) (0) ?_ (⟨T0 _,λj z W=>ω⟩) λi g=>?_
   ·exact wC
   obtain⟨P,G⟩:=g;have Q:({h with M:=k,o:=o} : ac).H.length=h.H.length:=rfl;by_cases R:i<h.H.length/\(nth h.H i).Q<p
   ·have n:=ah R.1
    repeat'(first|refine gE ?_|(conv=>whnf);first|with_reducible refine CA (aa n) ?_|refine C8 ?_|refine CG rfl (aa n) rfl ?_)
    ((conv=>whnf);refine CD (i+1) ⟨ω,fL n (R0 ω) G⟩ ω ?_;(exact wC))
   have a:lz (H5 p) h.H=i:=uA ω G λz H=>by
    have S:=(Z1.1 H).1;have:z=nth h.H i:=(bm H).symm;subst this;exact O0 ω
   have n:i<h.H.length->h.H[i]? = some (nth h.H i):=λT=>ah T
   rw[show addS h k o p (c:Nat) = {h with M:=k,o:=o,H:=h.H.take i++⟨p,(c:Nat),0⟩::h.H.drop i} by unfold addS;rw[uO a],a]
   repeat'(first|refine gE ?_|(conv=>whnf);first|with_reducible (first|refine CA (aa (n ω)) ?_|refine Bf.D (λU=>?_) (λU=>?_))|refine C8 ?_|refine CG rfl (aa (n ω)) rfl ?_|refine F6.mk rfl (BL h.H) rfl ?_|refine CU i rfl (by rw[X0];omega) (aM λ_=>rfl) V3 ?_|refine Sl.suf i rfl (by rw[X0];omega) (aM λ_=>rfl) W3 ?_|refine CR (λ_=>rfl) (λ_=>rfl) (by rw[O1];omega) (by decide) ?_|refine Ap.sn (aM λ_=>rfl) rfl (by rw[X0,O1];omega) (by decide) rfl ?_|refine Ap.ins (e:=ar.enc .U) (y:=⟨p,(c:Nat),0⟩) rfl (λ_=>rfl) (λ_=>rfl) ω (by decide) ?_)
   all_goals
    refine CF rfl rfl ?_;exact wC
def D8{h:ac}{c:Int}{i:Nat}(a:i<h.H.length)(b:sU h c i=true)(d:∀j,j<i->sU h c j=false):sO h c=some i:=
 List.find?_range_eq_some.2 ⟨b,List.mem_range.2 a,λj e=>by rw[d j e];rfl⟩
def Dw{h:ac}{c:Int}(a:∀j,j<h.H.length->sU h c j=false):sO h c=none:=
 List.find?_range_eq_none.2 λj b=>by rw[a j b];rfl
def rL{h:ac}{c:Int}{i:Nat}(a:sU h c i=false)(b:∀j,j<i->sU h c j=false):∀j,j<i+1->sU h c j=false:=λj d=>by
 by_cases e:j=i
 ·rw[e];exact a
 exact b j ω
def Ja(h:ac)(t:Nat)(c:aA):br {h with R:=h.R.set t c} = (br h).set 9 (.s .own ((h.R.map (aA.enc .own)).set t (aA.enc .own c))):=by
 simp[br,T5]
def Jv{h:ac}{c:Nat}(b:aR h [])(l:c<=3)(e:h.M.q<=90000)(h1:¬(a7 h.o 1).2.2=false)(f:¬(gc h.M (a7 h.o 1).2.1).2=false):aR (wP h c) []/\tY h<(wP h c).H.length:=by
 have a:(a7 h.o 1).2.2=true:=by simpa using h1
 obtain⟨g,i,j,n⟩:=kS b (T4 1) a;have s:=wN.of (p:=(a7 h.o 1).2.1) b.ker ω ⟨g,by have:(a7 h.o 1).2.1+1<=(h.M.G.S.K.length:Nat):=i;omega⟩ (j _ ω ω);have d:(gc h.M (a7 h.o 1).2.1).2=true:=by simpa using f
 have k:wN h.M (a7 h.o 1).2.1 ((gc h.M (a7 h.o 1).2.1).1,true):=by rw[<-d];exact s
 exact⟨b.addS (c:=c) ⟨ω,ω⟩ a k,(G7 (H5 (a7 h.o 1).2.1) h.H ⟨(a7 h.o 1).2.1,c,0⟩).1⟩
def xZ(h:ac)(t c:Nat)(o:aR h [])(M:t<h.R.length)(N:c<=3)(p:h.M.q<=90000):aP Tryz.prog 119 false [.ptr (br h),.val none [I (t:Nat)],.val none [I (c:Nat)]] [.ptr (br (gl h t c).1),.val none [I (t:Nat)],.val none [I (c:Nat)]] .one [I (gl h t c).2]:=by
 have E:=o.cach _ (am M);have e:=ah M;have r:=vo (nth h.R t) c E N;have Q:=o.lens.spans;have B:=o;unfold Qn at r;by_cases F:0<(nth (nth h.R t).Z c).length
 ·unfold gl
  rw[CB F]at r |-;simp only;rw[Ja];refine fM 80 [(167,[2,0]),(168,[2,0])] [(3,6,[27,28,29,30,31,32])] [(0,0),(0,0),(0,0)] Tryz.func119 rfl (λu q=>?_)
  repeat'(first|refine gP ?_|(conv=>whnf);first|with_reducible refine CA (aa e) ?_|refine CG rfl (aa e) rfl ?_|refine CH (r) ⟨⟨rfl,aA.enc_fz _⟩,⟨rfl,rfl⟩,trivial⟩ ?_|refine C8 ?_|refine CO rfl rfl (aa e) rfl (Z0 rfl) rfl ?_)
  refine CF rfl rfl ?_;exact wC
 rw[C9 F]at r;have d:gl h t c=match sO h c with
  | some i=>(slotT h i,tA h i)
  | none=>if(a7 h.o 1).2.2=false then(h,-1)
   else if(gc h.M (a7 h.o 1).2.1).2=false then({h with M:=(gc h.M (a7 h.o 1).2.1).1},-1)
   else rr (wP h c) (tY h):=by unfold gl;exact C9 F
 refine fM 80 [(167,[2,0]),(168,[2,0])] [(3,6,[27,28,29,30,31,32])] [(0,0),(0,0),(0,0)] Tryz.func119 rfl (λu q=>?_)
 repeat'(first|refine gP ?_|(conv=>whnf);first|with_reducible refine CA (aa e) ?_|refine CG rfl (aa e) rfl ?_|refine CH (r) ⟨⟨rfl,aA.enc_fz _⟩,⟨rfl,rfl⟩,trivial⟩ ?_|refine C8 ?_)
 (conv=>whnf)
 refine CE (ι:=Nat) (λi=>[(0,.F .box (br h)),(1,.F .one [I ((t:Nat):Int)]),(2,.F .one [I ((c:Nat):Int)]),(10,.F .one [I ((i:Nat):Int)])]) (λi=>i<=h.H.length/\∀j,j<i->sU h c j=false) (λi=>h.H.length - i) (0) ?_ (⟨T0 _,λj W=>ω⟩) λi o=>?_
 ·exact wC
 obtain⟨R,w⟩:=o;by_cases C:i<h.H.length
 ·have l:=ah C
  by_cases O:(nth h.H i).Y=c
  ·have y:=tK h (nth h.H i).Q
   cases D:gW h (nth h.H i).Q with
   | true=>
    rw[D]at y
    repeat'(first|refine gB ?_|(conv=>whnf);first|with_reducible refine CA (aa l) ?_|refine CG rfl (aa l) rfl ?_|refine CH (y) ⟨bz h,⟨rfl,rfl⟩,trivial⟩ ?_)
    ((conv=>whnf);refine CD (i+1) ⟨ω,rL (by unfold sU;rw[D];simp) w⟩ ω ?_;(exact wC))
   | false=>
    rw[D]at y;have n:=ri h [] i B C;unfold rr at n;by_cases P:(mE h i).length=0
    ·rw[CB P]at n
     repeat'(first|refine gB ?_|(conv=>whnf);first|with_reducible refine CA (aa l) ?_|refine CG rfl (aa l) rfl ?_|refine CH (y) ⟨bz h,⟨rfl,rfl⟩,trivial⟩ ?_|refine CJ (n) (.inl rfl) ?_)
     ((conv=>whnf);refine CD (i+1) ⟨ω,rL (by unfold sU;rw[R0 (by omega:¬0<(mE h i).length)];simp) w⟩ ω ?_;(exact wC))
    rw[C9 P]at n;have G:sO h c=some i:=D8 C (by unfold sU;rw[O0 O,D,O0 ω];rfl) w;rw[G]at d;simp only at d;obtain⟨S,T⟩:=B.slotT C (by omega:0<(mE h i).length);have H:=iB.nn S T;rw[d];generalize slotT h i=g at n |-;generalize tA h i=a at n H |-
    repeat'(first|refine gB ?_|(conv=>whnf);first|with_reducible refine CA (aa l) ?_|refine CG rfl (aa l) rfl ?_|refine CH (y) ⟨bz h,⟨rfl,rfl⟩,trivial⟩ ?_|refine CJ (n) (.inl rfl) ?_)
    refine CF rfl rfl ?_;exact wC
  repeat'(first|refine gB ?_|(conv=>whnf);first|with_reducible refine CA (aa l) ?_|refine CG rfl (aa l) rfl ?_)
  ((conv=>whnf);refine CD (i+1) ⟨ω,rL (by unfold sU;rw[R0 O];rfl) w⟩ ω ?_;(exact wC))
 obtain rfl:i=h.H.length:=ω
 have G:sO h c=none:=Dw w;rw[G]at d;simp only at d;have k:=z4 h [] c B p;rw[d];unfold GQ at k;by_cases J:(a7 h.o 1).2.2=false
 ·rw[CB J]at k |-
  repeat'(first|refine gE ?_|(conv=>whnf);first|refine CJ (k) (.inl rfl) ?_)
  refine CF rfl rfl ?_;exact wC
 rw[C9 J]at k |-;by_cases K:(gc h.M (a7 h.o 1).2.1).2=false
 ·rw[CB K]at k |-
  repeat'(first|refine gE ?_|(conv=>whnf);first|refine CJ (k) (.inl rfl) ?_)
  refine CF rfl rfl ?_;exact wC
 rw[C9 K]at k |-;obtain⟨U,V⟩:=Jv B N p J K;have L:=ri (wP h c) [] (tY h) U V;generalize wP h c=g at k L |-;generalize tY h=b at k L |-
 repeat'(first|refine gE ?_|(conv=>whnf);first|refine CJ (k) (.inl rfl) ?_|refine CJ (L) (.inl rfl) ?_)
 refine CF rfl rfl ?_;exact wC
def HI(h:ac)(size:Int):ac × Int:=
 if(a7 h.o (lZ size:Nat)).2.2=false then(h,-1)
 else if(iG h size).2=lZ size then({h with M:=(iG h size).1,o:=(a7 h.o (lZ size:Nat)).1,J:=jd (NS (a7 h.o (lZ size:Nat)).2.1) h.J ⟨(a7 h.o (lZ size:Nat)).2.1,(lZ size:Nat),size⟩},16*(a7 h.o (lZ size:Nat)).2.1)
 else({h with M:=dQ (iG h size).1 (a7 h.o (lZ size:Nat)).2.1 (iG h size).2},-1)
def va(k:af)(p:Int)(i:Nat):cR k p (i+1)=if(cR k p i).2=i then((gc (cR k p i).1 (p+(i:Nat))).1,if(gc (cR k p i).1 (p+(i:Nat))).2=true then i+1 else i) else cR k p i:=rfl
def DH(k:af)(p:Int):∀i,(cR k p i).2<=i
 | 0=>U2 _
 | i+1=>by
  have b:=DH k p i;rw[va];by_cases e:(cR k p i).2=i
  ·rw[CB e]
   show(if _ then i+1 else i)<=i+1;by_cases a:(gc (cR k p i).1 (p+(i:Nat))).2=true
   ·rw[CB a];exact U2 _
   rw[C9 a];exact Nat.le_succ _
  rw[C9 e];omega
def mr{k:af}{p:Int}{i:Nat}(h:(cR k p i).2≠i):∀j,cR k p (i+j)=cR k p i/\(cR k p (i+j)).2<i+j
 | 0=>⟨rfl,by show(cR k p i).2<i;have:=DH k p i;omega⟩
 | j+1=>by
  have a:=mr h j;have e:cR k p (i+(j+1))=cR k p (i+j):=by
   show cR k p (i+j+1)=_;rw[va,C9 ω]
  exact⟨e.trans a.1,by rw[e];omega⟩
def xW(h:ac)(size:Int)(l:aR h [])(C:9<=size/\size<=1000)(V:h.M.q<=90000):aP Tryz.prog 120 false [.ptr (br h),.val none [I size]] [.ptr (br (HI h size).1),.val none [I size]] .one [I (HI h size).2]:=by
 have E:=l.lens;have W:=E.larges;have Q:=l;have F:dC h<=32:=E.ents;have G:eK size=((lZ size:Nat):Int):=by unfold eK lZ;split<;>omega
 have hN:1<=lZ size/\lZ size<=63:=by unfold lZ;omega
 have H:=l8 size;rw[G]at H;have R:=gt h;have t:=n9 (dC h:Nat) h.o (lZ size:Nat) ⟨ω,ω⟩ l.rng ⟨ω,ω⟩ (by have:=E.free;omega);unfold Qi at t;have b:=kS l (show(1:Int)<=(lZ size:Nat) by omega);unfold HI iG;generalize lZ size=N at *;generalize a7 h.o (N:Nat)=r at t b |-;obtain⟨J,p,ok⟩:=r;simp only at t b |-;refine fM 105 [(172,[2,0]),(173,[2,0]),(2000018,[0,7])] [(2,268,[16,17,18,19,20,21,22,23,15,24,25,26,0,1,2,3,4,5,6,7,8,9,10,11,12,1010,1011,13,1011,14])] [(0,0),(0,0)] Tryz.func120 rfl (λu q=>?_);cases ok with
 | false=>
  rw[CB rfl]
  repeat'(first|refine gP ?_|(conv=>whnf);first|refine C8 ?_|refine C7 (H) ?_|refine CH (R) ⟨bz h,trivial⟩ ?_|refine CH (t) ⟨⟨rfl,rfl⟩,⟨rfl,dI h.o⟩,⟨rfl,rfl⟩,trivial⟩ ?_|refine C8 ?_)
  refine CF rfl rfl ?_;exact wC
 | true=>
  rw[C9 (by simp)];obtain⟨S,K,B,u4⟩:=b rfl;change p+(N:Nat)<=(h.M.G.S.K.length:Nat) at K;change ∀q:Nat,p<=q->(q:Int)<p+(N:Nat)->(nth h.M.G.S.K q).w=0 at B
  have X:h.M.G.S.K.length<=32:=F
  repeat'(first|refine gP ?_|(conv=>whnf);first|refine C8 ?_|refine C7 (H) ?_|refine CH (R) ⟨bz h,trivial⟩ ?_|refine CH (t) ⟨⟨rfl,rfl⟩,⟨rfl,dI h.o⟩,⟨rfl,rfl⟩,trivial⟩ ?_|refine C8 ?_)
  (conv=>whnf)
  refine CE (ι:=Nat) (λi=>[(0,.F .box (br {h with M:=(cR h.M p i).1})),(1,.F .one [I (size)]),(5,.F .one [I ((N:Nat):Int)]),(6,.F .one (bH .own J)),(7,.F .one [I (p)]),(9,.F .one [I ((i:Nat):Int)])]) (λi=>i<=N/\(cR h.M p i).2=i) (λi=>N - i) (0) ?_ (⟨T0 _,rfl⟩) λi l=>?_
  ·exact wC
  obtain⟨L,M⟩:=l;have s:=jm.of (p:=p) (n:=N) Q.ker ω ⟨S,K⟩ B i L;have Y:=s.calls;have Z:=s.len;by_cases li:i<N
  ·have O:(nth (cR h.M p i).1.G.S.K (p+(i:Nat)).toNat).w=0:=by
    rw[s.out _ (by rw[M];omega)];exact B _ ω ω
   have c:=Ea {h with M:=(cR h.M p i).1} (p+(i:Nat)) s.ker (by show(cR h.M p i).1.q≠100000;omega) ⟨ω,by show p+(i:Nat)<((cR h.M p i).1.G.S.K.length:Nat);omega⟩ O;have a:cR h.M p (i+1)=((gc (cR h.M p i).1 (p+(i:Nat))).1,if(gc (cR h.M p i).1 (p+(i:Nat))).2=true then i+1 else i):=by
    show(if(cR h.M p i).2=i then _ else _)=_;rw[CB M]
   simp only at c;cases e:(gc (cR h.M p i).1 (p+(i:Nat))).2 with
   | true=>
    rw[e]at c a;rw[CB rfl]at a;have P:(gc (cR h.M p i).1 (p+(i:Nat))).1=(cR h.M p (i+1)).1:=by rw[a]
    rw[P]at c
    repeat'(first|refine gE ?_|(conv=>whnf);first|refine C8 ?_|refine CJ (c) (.inl rfl) ?_)
    ((conv=>whnf);refine CD (i+1) ⟨ω,by rw[a]⟩ ω ?_;(exact wC))
   | false=>
    rw[e]at c a;rw[C9 (by simp)]at a;have d:=mr (k:=h.M) (p:=p) (i:=i+1) (by rw[a];simp only;omega) (N - (i+1));rw[show i+1+(N - (i+1))=N by omega]at d;rw[d.1]at d;have T:=jm.of (p:=p) (n:=N) Q.ker ω ⟨S,K⟩ B (i+1) ω;rw[C9 (by have:=mr (k:=h.M) (p:=p) (i:=i+1) (by rw[a];simp only;omega) (N - (i+1));rw[show i+1+(N - (i+1))=N by omega]at this;omega)];rw[show cR h.M p N=cR h.M p (i+1) by have:=mr (k:=h.M) (p:=p) (i:=i+1) (by rw[a];simp only;omega) (N - (i+1));rw[show i+1+(N - (i+1))=N by omega]at this;exact this.1];rw[a]at T |-;have g:=T.ker;simp only at g |-;generalize (gc (cR h.M p i).1 (p+(i:Nat))).1=k at c g |-
    repeat'(first|refine gE ?_|(conv=>whnf);first|refine C8 ?_|refine CJ (c) (.inl rfl) ?_)
    (conv=>whnf)
    refine CE (ι:=Nat) (λj=>[(0,.F .box (br {h with M:=dQ k p j})),(1,.F .one [I (size)]),(5,.F .one [I ((N:Nat):Int)]),(7,.F .one [I (p)]),(9,.F .one [I ((i:Nat):Int)]),(10,.F .one [I ((j:Nat):Int)])]) (λj=>j<=i) (λj=>i - j) (0) ?_ (T0 _) λj hj=>?_
    ·exact wC
    have c4:=mb {h with M:=dQ k p j} (p+(j:Nat)) (kT g p j);by_cases lj:j<i
    ·repeat'(first|refine gE ?_|(conv=>whnf);first|refine C8 ?_|refine CJ (c4) (.inl rfl) ?_)
     ((conv=>whnf);refine CD (j+1) ω ω ?_;(exact wC))
    obtain rfl:j=i:=ω
    repeat'(first|refine gE ?_|(conv=>whnf);first|refine C8 ?_)
    refine CF rfl rfl ?_;exact wC
  obtain rfl:i=N:=ω
  rw[CB M];generalize (cR h.M p i).1=k
  repeat'(first|refine gE ?_|(conv=>whnf);first|refine C8 ?_)
  (conv=>whnf)
  refine CE (ι:=Nat) (λm=>[(0,.F .box (br {h with M:=k,o:=J})),(1,.F .one [I (size)]),(5,.F .one [I ((i:Nat):Int)]),(7,.F .one [I (p)]),(11,.F .one [I ((m:Nat):Int)])]) (λm=>m<=h.J.length/\∀(j:Nat)(z:ay),j<m->h.J[j]? = some z->NS p z=false) (λm=>h.J.length - m) (0) ?_ (⟨T0 _,λj z hj=>ω⟩) λm hm=>?_
  ·exact wC
  obtain⟨hm',U⟩:=hm;have hl2:({h with M:=k,o:=J} : ac).J.length=h.J.length:=rfl;by_cases go:m<h.J.length/\(nth h.J m).Q<p
  ·have o:=ah go.1
   repeat'(first|refine gE ?_|(conv=>whnf);first|with_reducible refine CA (aa o) ?_|refine C8 ?_|refine CG rfl (aa o) rfl ?_)
   ((conv=>whnf);refine CD (m+1) ⟨ω,fL o (R0 ω) U⟩ ω ?_;(exact wC))
  have w:lz (NS p) h.J=m:=uA ω U λz C=>by
   have hlt:=(Z1.1 C).1;have:z=nth h.J m:=(bm C).symm;subst this;exact O0 ω
  have o:m<h.J.length->h.J[m]? = some (nth h.J m):=λhh=>ah hh
  rw[uO w]
  repeat'(first|refine gE ?_|(conv=>whnf);first|with_reducible (first|refine CA (aa (o ω)) ?_|refine Bf.D (λhq=>?_) (λhq=>?_))|refine C8 ?_|refine CG rfl (aa (o ω)) rfl ?_|refine F6.mk rfl (yY h.J) rfl ?_|refine CU m rfl (by rw[X0];omega) (aM λ_=>rfl) V3 ?_|refine Sl.suf m rfl (by rw[X0];omega) (aM λ_=>rfl) W3 ?_|refine CR (λ_=>rfl) (λ_=>rfl) (by rw[O1];omega) (by decide) ?_|refine Ap.sn (aM λ_=>rfl) rfl (by rw[X0,O1];omega) (by decide) rfl ?_|refine Ap.ins (e:=ay.enc .U) (y:=⟨p,(i:Nat),size⟩) rfl (λ_=>rfl) (λ_=>rfl) ω (by decide) ?_)
  all_goals
   refine CF rfl ?_ ?_
   ·exact U0 (λz=>[I z]) ω
   exact wC
def DG{k:af}(h:aC k=true)(b:iO k.e):af.wf k:=by
 obtain⟨p,f,g,q,t⟩:=aD.1 h;obtain⟨u,w,y,A⟩:=bg.1 f;obtain⟨i,B,C⟩:=bv.1 g;refine⟨⟨⟨⟨ω,λr b=>?_⟩,⟨ω,λ_ _=>trivial⟩⟩,⟨ω,λe l=>?_⟩⟩,⟨ω,ω⟩,b⟩
 ·obtain⟨j,c,rfl⟩:=aY b
  obtain⟨D,n⟩:=Ak h c;exact⟨ω,λv o=>by have:=n v o;exact⟨ω,ω⟩⟩
 obtain⟨j,c,rfl⟩:=aY l;have a:=i j c;unfold kM at a;rw[C0]at a;by_cases d:(nth k.G.S.K j).w=0
 ·have:=a.2.2.1 d;exact⟨⟨ω,ω⟩,⟨ω,ω⟩⟩
 have:=a.2.2.2 d;exact⟨⟨ω,ω⟩,⟨ω,ω⟩⟩
theorem GM{p:cI}(h:eI p=true):cI.wf p:=by
 have a:=λi b=>lL h (i:=i) b
 have e:p.W.length<=16:=lX h;unfold eI at h;simp only[I0,C0]at h;exact⟨⟨ω,ω⟩,⟨ω,ω⟩,⟨ω,λv c=>by
   obtain⟨j,d,rfl⟩:=aY c;have:=a j d;exact⟨ω,ω⟩⟩⟩
def aR.jobWf{h:ac}{E:List Int}(a:aR h E):cU.wf h.b1/\cU.sml h.b1:=by
 cases b:h.b0 with
 | true=>
  obtain⟨c,f,g,i,j⟩:=fx.1 (a.job b).1;have k:=lX c;exact⟨⟨GM c,⟨ω,ω⟩,⟨ω,ω⟩⟩,by show h.b1.k.W.length<=1048576;omega⟩
 | false=>
  have:=a.noj b;unfold qF at this;rw[C0]at this;obtain⟨l,n,e,o,p⟩:=this;refine⟨⟨⟨⟨ω,ω⟩,⟨ω,ω⟩,⟨ω,λv d=>?_⟩⟩,⟨ω,ω⟩,⟨ω,ω⟩⟩,by show h.b1.k.W.length<=1048576;omega⟩;rw[T6 e]at d;cases d
theorem wU{n:Int}(h:0<=aJ n):1<=n/\n<=8:=by grind [aJ]
def iB.wf{h:ac}{E:List Int}(b:aR h E){a c:Int}(d:iB h.H a c):jF a:=by
 have:=d.bd b;exact⟨ω,ω⟩
theorem aR.wf{h:ac}{E:List Int}(c:aR h E)(K:iO h.M.e):ac.wf h:=by
 have q:=c.lens;have r:=c.L;have B:=c.nums;unfold cr at B;rw[C0]at B;obtain⟨V,M,W⟩:=eS.1 c.rng;obtain⟨N,-,-,X,Y,-⟩:=jv.1 c.quar;have u:=c.mail;have g:=c.hfl;unfold a9 at g;rw[CB u]at g;unfold b9 at u;simp only[I0,C0,cm,fW,T3,mL,Nb]at u;obtain⟨⟨⟨Z,m2,m3⟩,O⟩,m5⟩:=u;have y:=q.free;have P:=q.spans;have h3:=q.larges;have h4:=q.objs;have h5:=q.caches;have h6:=q.quar;have C:∀n:Nat,bo h.b n<=bo h.b (n+1):=λn=>by grind [bo]
 have f:∀a b:Nat,a<=b->bo h.b a<=bo h.b b:=λa b t=>by
  induction t with
  | refl=>exact T4 _
  | step _ ih=>grind
 have A:∀n:Nat,0<=bo h.b n:=λn=>f 0 n (T0 _)
 have o:∀i,i<h.b.T.length->(nth h.b.T i).length<=30/\(nth h.b.u i).length<=30:=λi k=>by
  have D:=f (i+1) h.b.T.length ω;have Q:=A i;simp only[bo]at D;omega
 refine⟨DG c.ker K,⟨ω,λx e=>?_⟩,⟨ω,λx e=>?_⟩,⟨ω,λx e=>?_⟩,⟨ω,λx e=>?_⟩,⟨ω,λx e=>?_⟩,⟨⟨ω,λl d=>?_⟩,⟨ω,λl d=>?_⟩⟩,⟨⟨ω,ω⟩,⟨ω,λx e=>?_⟩⟩,⟨ω,ω⟩,⟨ω,ω⟩,⟨ω,ω⟩,⟨ω,ω⟩,trivial,c.jobWf.1⟩
 ·have:=M x e;exact⟨⟨ω,ω⟩,⟨ω,ω⟩⟩
 ·have w:=r.sok x e
  have F:=ep w;have R:=aB w;exact⟨⟨ω,ω⟩,⟨ω,ω⟩,⟨ω,ω⟩⟩
 ·have G:=aN (r.lok x e)
  have H:=bR (r.lok x e);exact⟨⟨ω,ω⟩,⟨ω,ω⟩,⟨ω,ω⟩⟩
 ·obtain⟨o1,o2,o3,o4⟩:=c.onu x e
  have t:0<=x.X/\x.X<512/\-1000<=x.d/\x.d<=1000:=by
   rcases c.oow x e with⟨s,w,y,P⟩|⟨l,d,D,Q⟩
   ·have R:=aB (r.sok s w)
    have:=wU (n:=x.d) ω;exact⟨by have:=y.1;omega,by have:=y.2.1;omega,ω,ω⟩
   have G:=aN (r.lok l d);have H:=bR (r.lok l d);omega
  exact⟨⟨ω,ω⟩,⟨ω,ω⟩,⟨ω,ω⟩,⟨ω,ω⟩⟩
 ·obtain⟨c1,c2⟩:=q.lists x e
  refine⟨ω,λl d=>⟨ψ,λa J=>?_⟩⟩;obtain⟨j,S,rfl⟩:=aY d;exact iB.wf c (c.hca x e j S a J)
 ·obtain⟨i,k,rfl⟩:=aY d
  have F:=o i k;refine⟨ω,λp T=>?_⟩;have U:=(O i k).1 p T;exact⟨⟨ω,ω⟩,iB.wf c (g p.X (R2.2 (.inl (List.mem_flatMap.2 ψ))))⟩
 ·obtain⟨i,k,rfl⟩:=aY d
  have F:=o i ω;exact⟨ω,λa J=>iB.wf c (g a (R2.2 (.inr (List.mem_flatten.2 ψ))))⟩
 have G:=N x e;have H:=c.snc x e;exact⟨iB.wf c (c.hqu x e),⟨ω,ω⟩,⟨ω,ω⟩⟩
structure Rd(h:ac):Prop where
 ker:aC h.M=true
 wf:ac.wf h
 sml:ac.sml h
 lens:oy h
def aR.fit{h:ac}{E:List Int}(a:aR h E)(b:iO h.M.e)(c:aI.sml h.b):Rd h:=⟨a.ker,a.wf b,a.lens.sml a.ker c a.jobWf.2,a.lens⟩
theorem Fg{h:ac}(a:aR h [])(b:h.b0=true):aC (mStep h).M=true/\(mStep h).M.q<=h.M.q+1/\(mStep h).M.e=h.M.e/\(mStep h).b=h.b/\(DN h=true->(mStep h).b0=false)/\cU.wf (mStep h).b1/\cU.sml (mStep h).b1:=by
 have s:=JS.of a b;refine⟨s.ker,s.calls.2.1,s.calls.2.2,rfl,λc=>?_,?_⟩
 ·unfold DN at c
  rw[C0]at c;show(if over _=true then false else h.b0)=false
  grind [over]
 show cU.wf (if over _=true then _ else _)/\cU.sml (if over _=true then _ else _);split
 ·exact⟨⟨⟨⟨by decide,by decide⟩,⟨by decide,by decide⟩,⟨by decide,λv d=>by cases d⟩⟩,⟨by decide,by decide⟩,⟨by decide,by decide⟩⟩,by show(0:Nat)<=1048576;omega⟩
 have f:=(fx.1 (a.job b).1).1;have g:=lX f;obtain⟨j,k⟩:=s.ph;obtain⟨l,i⟩:=s.nxt;have e:=s.plan;refine⟨⟨by grind [GM],⟨ω,ω⟩,⟨ω,by rw[e]at i;omega⟩⟩,by show((jE h.M h.b1).2.k.W).length<=1048576;rw[e];omega⟩
def x6(h:ac):Nat->ac × Bool
 | 0=>(h,false)
 | i+1=>if(x6 h i).1.b0=true then(mStep (x6 h i).1,DN (x6 h i).1) else x6 h i
def fin(h:ac):ac × Bool:=x6 h 100
def Be{h:ac}(g:aR h []):aR (started h).1 []/\(started h).1.M=h.M/\(started h).1.b=h.b:=by
 have t:=g.nums;unfold cr at t;rw[C0]at t;have u:=(lO (bK h).length (show 0<=h.c1/\h.c1<=1073741823 by omega) ((bK h).length - 1)).2;have j:=qq (bK h) (show 0<=h.c1/\h.c1<=1073741823 by omega);have c:cr {h with c1:=(shuf (bK h).length h.c1).2} = true:=by
  unfold cr;rw[C0];unfold shuf;simp only;omega
 cases k:mJ (bK h) h.c1 with
 | nil=>
  have f:Ab.started h=({h with c1:=(shuf (bK h).length h.c1).2},false):=by unfold Ab.started;rw[k]
  rw[f];exact⟨{g with nums:=c},rfl,rfl⟩
 | cons q C=>
  obtain⟨D,E,l⟩:=j q (by rw[k];exact R1 ..);have f:Ab.started h=({h with c1:=(shuf (bK h).length h.c1).2,b0:=true,b1:=vC (dA (nth (bK h) q.A.toNat) (nth (bK h) q.B.toNat))},true):=by unfold Ab.started;rw[k]
  rw[f];have d:∀s∈bK h,s∈h.H:=λs w=>oL h (U2 _) s (List.mem_of_mem_take w)
  have n:=d _ (am (xs:=bK h) (i:=q.A.toNat) ω);have o:=d _ (am (xs:=bK h) (i:=q.B.toNat) ω);generalize nth (bK h) q.A.toNat=a at l n |-;generalize nth (bK h) q.B.toNat=b at l o |-;obtain⟨y,F,G⟩:=su l;have p:jj (vC (dA a b))=true:=fx.2 ⟨y,by show(0:Int)<=0;omega,by show(0:Int)<=5;omega,by show(0:Int)<=0;omega,by show(0:Int)<=(((dA a b).W.length:Nat):Int);omega⟩;have r:(∃s∈h.H,s.Q=(dA a b).b2)/\∃s∈h.H,s.Q=(dA a b).b3:=by
   unfold dA;split
   ·exact⟨⟨b,o,rfl⟩,⟨a,n,rfl⟩⟩
   exact⟨⟨a,n,rfl⟩,⟨b,o,rfl⟩⟩
  exact⟨{g with nums:=c,job:=λ_=>⟨p,r⟩,noj:=λe=>by cases e},rfl,rfl⟩
def aR.objSz{h:ac}{E:List Int}(a:aR h E):∀o∈h.O,0<=o.d/\o.d<=1000:=λx c=>by
 rcases a.oow x c with⟨s,d,e,f⟩|⟨l,b,g,i⟩
 ·have j:=aB (a.L.sok s d)
  have:=wU (n:=x.d) ω;omega
 have k:=bR (a.L.lok l b);omega
def Hc{h:ac}(t:Int){size:Int}(c:aR h [])(d:9<=size/\size<=1000):pJ h t size=if(HI h size).2<0 then((HI h size).1,-1,4) else(addO (HI h size).1 (HI h size).2 size t,(HI h size).2,0):=by
 unfold pJ HI;by_cases a:(a7 h.o (lZ size:Nat)).2.2=false
 ·rw[CB a,CB a]
  exact(CB (show(-1:Int)<0 by decide)).symm
 rw[C9 a,C9 a];obtain⟨e,-⟩:=kS c (show(1:Int)<=(lZ size:Nat) by unfold lZ;omega) (by simpa using a);by_cases b:(iG h size).2=lZ size
 ·rw[CB b,CB b]
  exact(C9 (show ¬16*(a7 h.o (lZ size:Nat)).2.1<0 by omega)).symm
 rw[C9 b,C9 b];exact(CB (show(-1:Int)<0 by decide)).symm
def yf(h:ac)(t size:Int)(k:aR h []):aP Tryz.prog 86 false [.ptr (br h),.val none [I t],.val none [I size]] [.ptr (br (gm h t size).1),.val none [I t],.val none [I size]] (.tup [none,none]) [I (gm h t size).2.1,I (gm h t size).2.2]:=by
 have X:=k.lens;have hlc:=X.caches;have P:=X.objs;have p:=k.nums;unfold cr at p;rw[C0]at p;have Q:=sE k.objSz h.O.length (U2 _);change 0<=uY h/\uY h<=_ at Q;have n:=aE t 0 ((h.R.length:Int) - 1);have r:=aE size 1 1000;have E:=xe h k.objSz ω;have F:=gd size;refine fM 119 [(119,[2,0,0]),(120,[2,0])] [(7,10,[36,37,38,39,40,41,42,43,44,45]),(18,272,[81,82,83,84,85,86,87,89,90,91,92,93,94,95,96,97,0,1,2,3,4,5,6,8,9,10,11,12,13,14,15,16,1016,7,1008,1009,1010,1011,1012,1013,1014,1015,1016,17,18]),(1048594,0,[8])] [(0,0),(0,0),(0,0)] Tryz.func86 rfl (λu q=>?_) (.inr ⟨trivial,trivial,trivial⟩);unfold gm;by_cases h1:1000000<=h.a2
 ·rw[CB (.inl h1)]
  repeat'(first|refine gE ?_|(conv=>whnf);first|refine C8 ?_)
  refine CF rfl rfl ?_;exact wC
 by_cases h2:90000<h.M.q
 ·rw[CB (.inr h2)]
  repeat'(first|refine gE ?_|(conv=>whnf);first|with_reducible refine Bf.D (λb=>?_) (λb=>?_)|refine C8 ?_)
  refine CF rfl rfl ?_;exact wC
 rw[C9 ω];by_cases C:¬(0<=t/\t<=h.R.length - 1)
 ·rw[CB C]
  rw[R0 C]at n
  repeat'(first|refine gE ?_|(conv=>whnf);first|with_reducible refine Bf.D (λb=>?_) (λb=>?_)|refine C8 ?_|refine C7 (n) ?_)
  refine CF rfl rfl ?_;exact wC
 rw[C9 C];replace C:=Decidable.not_not.1 C;rw[O0 C]at n;by_cases B:¬(1<=size/\size<=1000)
 ·rw[CB B]
  rw[R0 B]at r
  repeat'(first|refine gE ?_|(conv=>whnf);first|with_reducible refine Bf.D (λb=>?_) (λb=>?_)|refine C8 ?_|refine C7 (n) ?_|refine C7 (r) ?_)
  refine CF rfl rfl ?_;exact wC
 rw[C9 B];replace B:=Decidable.not_not.1 B;rw[O0 B]at r;by_cases Y:h.c5<uY h+size
 ·rw[CB Y]
  repeat'(first|refine gE ?_|(conv=>whnf);first|with_reducible refine Bf.D (λb=>?_) (λb=>?_)|refine C8 ?_|refine C7 (n) ?_|refine C7 (r) ?_|refine CH (E) ⟨⟨rfl,bz h⟩,trivial⟩ ?_|refine C8 ?_)
  refine CF rfl rfl ?_;exact wC
 rw[C9 Y];by_cases G:0<=aJ size
 ·rw[CB G]
  have hc3:aJ size<=3:=by unfold aJ;repeat' split<;>omega
  obtain⟨T,rfl⟩:=O2 C.1;obtain⟨K,hK⟩:=O2 G;have o:=xZ h T K k ω ω ω;have s:=yV (t:=T) (c:=K) k ω ω ω;rw[hK]at F |-;simp only[I2];generalize gl h T K=w at o s |-;obtain⟨g,a⟩:=w;have H:g.a2=h.a2:=s.nx;simp only at o |-;by_cases J:a<0
  ·rw[CB J]
   repeat'(first|refine gE ?_|(conv=>whnf);first|with_reducible refine Bf.D (λb=>?_) (λb=>?_)|refine C8 ?_|refine C7 (n) ?_|refine C7 (r) ?_|refine CH (E) ⟨⟨rfl,bz h⟩,trivial⟩ ?_|refine C8 ?_|refine C7 (F) ?_|refine CJ (o) (.inl rfl) ?_)
   refine CF rfl rfl ?_;exact wC
  rw[C9 J];obtain⟨k1,k2⟩:=s.yes (show(0:Int)<=a by omega);have R:g.O.length<=512:=k1.lens.objs
  repeat'(first|refine gE ?_|(conv=>whnf);first|with_reducible refine Bf.D (λb=>?_) (λb=>?_)|refine C8 ?_|refine C7 (n) ?_|refine C7 (r) ?_|refine CH (E) ⟨⟨rfl,bz h⟩,trivial⟩ ?_|refine C8 ?_|refine C7 (F) ?_|refine CJ (o) (.inl rfl) ?_)
  (conv=>whnf)
  refine CE (ι:=Nat) (λi=>[(0,.F .box (br g)),(1,.F .one [I ((T:Nat):Int)]),(2,.F .one [I (size)]),(8,.F .one [I (a)]),(9,.F .one [I ((i:Nat):Int)])]) (λi=>i<=g.O.length/\∀(j:Nat)(z:bF),j<i->g.O[j]? = some z->LZ a z=false) (λi=>g.O.length - i) (0) ?_ (⟨T0 _,λj z hj=>ω⟩) λi k=>?_
  ·exact wC
  obtain⟨S,L⟩:=k;by_cases U:i<g.O.length/\(nth g.O i).X<a
  ·have d:=ah U.1
   repeat'(first|refine gE ?_|(conv=>whnf);first|with_reducible refine CA (aa d) ?_|refine C8 ?_|refine CG rfl (aa d) rfl ?_)
   ((conv=>whnf);refine CD (i+1) ⟨ω,fL d (R0 ω) L⟩ ω ?_;(exact wC))
  have l:lz (LZ a) g.O=i:=uA ω L λz M=>by
   have V:=(Z1.1 M).1;have:z=nth g.O i:=(bm M).symm;subst this;exact O0 ω
  have d:i<g.O.length->g.O[i]? = some (nth g.O i):=λW=>ah W
  rw[show addO g a size (T:Nat) = {g with O:=g.O.take i++⟨g.a2,a,size,(T:Nat)⟩::g.O.drop i,a2:=g.a2+1} by unfold addO;rw[uO l]]
  repeat'(first|refine gE ?_|(conv=>whnf);first|with_reducible (first|refine CA (aa (d ω)) ?_|refine Bf.D (λb=>?_) (λb=>?_))|refine C8 ?_|refine CG rfl (aa (d ω)) rfl ?_|refine F6.mk rfl (AI g.O) rfl ?_|refine CU i rfl (by rw[X0];omega) (aM λ_=>rfl) V3 ?_|refine Sl.suf i rfl (by rw[X0];omega) (aM λ_=>rfl) W3 ?_|refine CR (λ_=>rfl) (λ_=>rfl) (by rw[O1];omega) (by decide) ?_|refine Ap.sn (aM λ_=>rfl) rfl (by rw[X0,O1];omega) (by decide) rfl ?_|refine Ap.ins (e:=bF.enc .U) (y:=⟨g.a2,a,size,(T:Nat)⟩) rfl (λ_=>rfl) (λ_=>rfl) ω (by decide) ?_|refine C8 ?_)
  all_goals
   refine CF rfl rfl ?_;exact wC
 rw[C9 G];have N:9<=size:=by unfold aJ at G;repeat' split at G<;>omega
 have o:=xW h size k ⟨N,B.2⟩ ω;rw[Hc t k ⟨N,B.2⟩];have Z:(HI h size).1.a2=h.a2/\(HI h size).1.O=h.O:=by
  unfold HI;split
  ·exact⟨rfl,rfl⟩
  split<;>exact⟨rfl,rfl⟩
 generalize HI h size=w at o Z |-;obtain⟨g,a⟩:=w;obtain⟨H,O⟩:=Z;simp only at o H O |-;have R:g.O.length<=512:=by rw[O];exact P
 by_cases J:a<0
 ·rw[CB J]
  repeat'(first|refine gE ?_|(conv=>whnf);first|with_reducible refine Bf.D (λb=>?_) (λb=>?_)|refine C8 ?_|refine C7 (n) ?_|refine C7 (r) ?_|refine CH (E) ⟨⟨rfl,bz h⟩,trivial⟩ ?_|refine C8 ?_|refine C7 (F) ?_|refine CJ (o) (.inl rfl) ?_)
  refine CF rfl rfl ?_;exact wC
 rw[C9 J]
 repeat'(first|refine gE ?_|(conv=>whnf);first|with_reducible refine Bf.D (λb=>?_) (λb=>?_)|refine C8 ?_|refine C7 (n) ?_|refine C7 (r) ?_|refine CH (E) ⟨⟨rfl,bz h⟩,trivial⟩ ?_|refine C8 ?_|refine C7 (F) ?_|refine CJ (o) (.inl rfl) ?_)
 (conv=>whnf)
 refine CE (ι:=Nat) (λi=>[(0,.F .box (br g)),(1,.F .one [I (t)]),(2,.F .one [I (size)]),(8,.F .one [I (a)]),(9,.F .one [I ((i:Nat):Int)])]) (λi=>i<=g.O.length/\∀(j:Nat)(z:bF),j<i->g.O[j]? = some z->LZ a z=false) (λi=>g.O.length - i) (0) ?_ (⟨T0 _,λj z hj=>ω⟩) λi k=>?_
 ·exact wC
 obtain⟨S,L⟩:=k;by_cases U:i<g.O.length/\(nth g.O i).X<a
 ·have d:=ah U.1
  repeat'(first|refine gE ?_|(conv=>whnf);first|with_reducible refine CA (aa d) ?_|refine C8 ?_|refine CG rfl (aa d) rfl ?_)
  ((conv=>whnf);refine CD (i+1) ⟨ω,fL d (R0 ω) L⟩ ω ?_;(exact wC))
 have l:lz (LZ a) g.O=i:=uA ω L λz M=>by
  have V:=(Z1.1 M).1;have:z=nth g.O i:=(bm M).symm;subst this;exact O0 ω
 have d:i<g.O.length->g.O[i]? = some (nth g.O i):=λW=>ah W
 rw[show addO g a size t = {g with O:=g.O.take i++⟨g.a2,a,size,t⟩::g.O.drop i,a2:=g.a2+1} by unfold addO;rw[uO l]]
 repeat'(first|refine gE ?_|(conv=>whnf);first|with_reducible (first|refine CA (aa (d ω)) ?_|refine Bf.D (λb=>?_) (λb=>?_))|refine C8 ?_|refine CG rfl (aa (d ω)) rfl ?_|refine F6.mk rfl (AI g.O) rfl ?_|refine CU i rfl (by rw[X0];omega) (aM λ_=>rfl) V3 ?_|refine Sl.suf i rfl (by rw[X0];omega) (aM λ_=>rfl) W3 ?_|refine CR (λ_=>rfl) (λ_=>rfl) (by rw[O1];omega) (by decide) ?_|refine Ap.sn (aM λ_=>rfl) rfl (by rw[X0,O1];omega) (by decide) rfl ?_|refine Ap.ins (e:=bF.enc .U) (y:=⟨g.a2,a,size,t⟩) rfl (λ_=>rfl) (λ_=>rfl) ω (by decide) ?_|refine C8 ?_)
 all_goals
  refine CF rfl rfl ?_;exact wC
def EC(h:ac)(a n:Int)(t:h.J.length<=4096)(j:∀l∈h.J,bP l=true)(o:x9 h a<0):aP Tryz.prog 125 false [.ptr (br h),.val none [I a],.val none [I n]] [.ptr (br h),.val none [I a],.val none [I n]] .one [B false]:=by
 have b:∀l∈h.J,l.Q*16≠a:=λl c e=>by
  have:=DJ (p:=GD a) c (O0 e);unfold x9 at o;omega
 refine fM 136 [(173,[2,0])] [(8,6,[49,50,51,52,53,54]),(9,10,[56,57,58,59,60,61,62,63,64,65]),(20,270,[123,124,125,126,127,128,129,130,131,122,132,133,134,135,0,1,2,3,4,5,6,7,8,9,10,11,12,13,14,1011])] [(0,0),(0,0),(0,0)] Tryz.func125 rfl (λu q=>?_)
 repeat'(first|refine gP ?_|(conv=>whnf);first|refine C8 ?_)
 (conv=>whnf)
 refine CE (ι:=Nat) (λk=>[(0,.F .box (br h)),(1,.F .one [I (a)]),(2,.F .one [I (n)]),(7,.F .one [I ((k:Nat):Int)])]) (λk=>k<=h.J.length) (λk=>h.J.length - k) (0) ?_ (T0 _) λk w=>?_
 ·repeat'(first|exact trivial|rfl |exact nM r|exact nM g|exact cJ _|refine CI ?_ ?_|(exact u7 (by first|omega|(simp only;omega)|(simp;omega))))
 by_cases d:k<h.J.length
 ·have i:=ah d
  have y:=b _ (am d);have C:=aN (j _ (am d))
  repeat'(first|refine gB ?_|(conv=>whnf);first|with_reducible refine CA (aa i) ?_|refine C8 ?_|refine CG rfl (aa i) rfl ?_)
  ((conv=>whnf);refine CD (k+1) ω ω ?_;(exact wC))
 repeat'(first|refine gE ?_|(conv=>whnf);first|refine C8 ?_)
 refine CF rfl rfl ?_;exact wC
def NW(h:ac)(a:Int)(m:Nat):br {h with M:=zK h.M a (m+1)} = (br {h with M:=zK h.M a m}).set 0 (.s .own (((zK h.M a m).G.V.W.map (aF .own)).set (au (zK h.M a m).G.S ((a+m) / 16)).j.toNat ((aF .own (nth (zK h.M a m).G.V.W (fJ (zK h.M a m) (a+m)))).set 0 (.s .own (((nth (zK h.M a m).G.V.W (fJ (zK h.M a m) (a+m))).map (rI .own)).set ((a+m) % 16).toNat (splice (rI .own (nth (nth (zK h.M a m).G.V.W (fJ (zK h.M a m) (a+m))) ((a+m) % 16).toNat)) 0 [I 0])))))):=
 FP {h with M:=zK h.M a m} (a+m) 0
def kN(h:ac)(i k:Nat)(n:Int)(K:af):ac:={h with M:=K,J:=h.J.set k (trimL (nth h.J k) n),O:=h.O.set i {nth h.O i with d:=n}}
def HH(h:ac)(i k:Nat)(n:Int)(K:af):(kN h i k n K).O.map (bF.enc .own)=(h.O.map (bF.enc .own)).set i (splice (bF.enc .own (nth h.O i)) 2 [I n]):=by
 simp[kN,T5,bF.enc,splice]
def qU(h:ac)(i:Nat)(n:Int)(j:aR h [])(H:i<h.O.length)(hg:0<=x9 h (nth h.O i).X):aP Tryz.prog 125 false [.ptr (br h),.val none [I (nth h.O i).X],.val none [I n]] [.ptr (br (if kQ h i n then trimH h i (x9 h (nth h.O i).X).toNat n else h)),.val none [I (nth h.O i).X],.val none [I n]] .one [B (decide (kQ h i n))]:=by
 have c:=j.lens;have hnl:=c.larges;have hno:=c.objs;have hpg:dC h<=32:=c.ents;obtain⟨f1,f2,f3⟩:=fR (GD (nth h.O i).X) h.J hg;obtain⟨g,o⟩:=O2 hg;have b:g<h.J.length:=by unfold x9 at o;omega
 have Y:(nth h.J g).Q*16=(nth h.O i).X:=by
  have:=of_decide_eq_true f2;rw[show(d7 (GD (nth h.O i).X) h.J).toNat=g by unfold x9 at o;omega]at this;exact this
 have J:∀k,k<g->(nth h.J k).Q*16≠(nth h.O i).X:=λk hk e=>by
  have N:k<h.J.length:=ω
  have hok1:=aN (j.L.lok _ (am N));have hok2:=aN (j.L.lok _ (am b));have:=j.L.one k g N b 0 0 ω ω ω;omega
 have p:kQ h i n↔9<=n/\n<=(nth h.J g).d:=by
  unfold kQ;rw[o,I2];exact⟨λx=>x.2,λx=>⟨ω,x⟩⟩
 rw[o,I2];have hbd:=sP j (am H);obtain⟨-,Z,w⟩:=j.objAt (am H);have hii:pj h (nth h.O i).X=i:=by
  have h2:=(j.objAt (am H)).1;exact g9 (f:=(·.X)) (gN j.osr) h2 H (by rw[Z])
 rw[hii]at w;have E:=ah H;have hxg:=ah b;have V:=vH (nth h.J g) n (j.L.lok _ (am b));have h8:=j.L.lok _ (am b);unfold bP at h8;rw[C0]at h8;refine fM 136 [(173,[2,0])] [(8,6,[49,50,51,52,53,54]),(9,10,[56,57,58,59,60,61,62,63,64,65]),(20,270,[123,124,125,126,127,128,129,130,131,122,132,133,134,135,0,1,2,3,4,5,6,7,8,9,10,11,12,13,14,1011])] [(0,0),(0,0),(0,0)] Tryz.func125 rfl (λu q=>?_)
 repeat'(first|refine gP ?_|(conv=>whnf);first|refine C8 ?_)
 (conv=>whnf)
 refine CE (ι:=Nat) (λk=>[(0,.F .box (br h)),(1,.F .one [I ((nth h.O i).X)]),(2,.F .one [I (n)]),(7,.F .one [I ((k:Nat):Int)])]) (λk=>k<=g) (λk=>g - k) (0) ?_ (T0 _) λk hk=>?_
 ·repeat'(first|exact trivial|rfl |exact nM r|exact nM d|exact cJ _|refine CI ?_ ?_|(exact u7 (by first|omega|(simp only;omega)|(simp;omega))))
 have l:=ah (xs:=h.J) (i:=k) ω;have hfk:=aN (j.L.lok _ (am (xs:=h.J) (i:=k) ω));by_cases e:k=g;rotate_left
 ·have hne:=J k ω
  repeat'(first|refine gB ?_|(conv=>whnf);first|with_reducible refine CA (aa l) ?_|refine C8 ?_|refine CG rfl (aa l) rfl ?_)
  ((conv=>whnf);refine CD (k+1) ω ω ?_;(exact wC))
 subst e;by_cases F:9<=n/\n<=(nth h.J k).d;rotate_left
 ·rw[C9 (by rw[p];exact F),R0 (by rw[p];exact F)]
  rw[C9 F]at V
  repeat'(first|refine gB ?_|(conv=>whnf);first|with_reducible refine CA (aa l) ?_|refine C8 ?_|refine CG rfl (aa l) rfl ?_|refine C7 (V) ?_)
  refine CF rfl rfl ?_;exact wC
 rw[CB (by rw[p];exact F),O0 (by rw[p];exact F)];rw[CB F]at V;have y:=λm hm=>B4 j b F (m:=m) hm
 have D:=λm=>(wK h.M (16*(nth h.J k).Q+n) m).1
 have O:=λa W=>ot j b (a:=a) W
 have hsz:n<=16*(nth h.J k).a3:=ω
 generalize hM:(16*((n+15) / 16) - n).toNat=M at *;have hfl:∀m,(zK h.M (16*(nth h.J k).Q+n) m).G.V.W.length=h.M.G.V.W.length:=λm=>by
  induction m with
  | zero=>rfl
  | succ m ih=>show(List.set _ _ _).length=_;rw[I1];exact ih
 have cO:=pK {h with J:=h.J.set k (trimL (nth h.J k) n)} (nth h.O i).X (by show h.O.length<=_;omega);change ao _ _ _ [.val (some 24) (ac.enc .U {h with J:=h.J.set k (trimL (nth h.J k) n)}),_] _ [I (d7 (lf (nth h.O i).X) h.O)]at cO;rw[w]at cO;have Q:=bz {h with J:=h.J.set k (trimL (nth h.J k) n)};have heL:br {h with J:=h.J.set k (trimL (nth h.J k) n)} = (br h).set 7 (.s .own ((h.J.map (ay.enc .own)).set k (ay.enc .own (trimL (nth h.J k) n)))):=by simp[br,T5]
 rw[heL]at Q
 repeat'(first|refine gB ?_|(conv=>whnf);first|with_reducible (first|refine CA (aa l) ?_|refine CA (aa E) ?_)|refine C8 ?_|refine CG rfl (aa l) rfl ?_|refine C7 (V) ?_|refine CO rfl rfl (aa l) rfl (Z0 rfl) rfl ?_|refine CH (cO) ⟨⟨rfl,Q⟩,⟨rfl,rfl⟩,trivial⟩ ?_|refine CO rfl rfl (aa E) rfl (Z0 rfl) rfl ?_|refine CG rfl (aa E) rfl ?_|refine C8 ?_)
 rw[<-Y];have e0:kN h i k n h.M=kN h i k n (zK h.M (16*(nth h.J k).Q+n) 0):=rfl;have r:C.s .own ((kN h i k n (zK h.M (16*(nth h.J k).Q+n) 0)).J.map (ay.enc .own))=C.s .own ((h.J.map (ay.enc .own)).set k (ay.enc .own (trimL (nth h.J k) n))):=by simp[kN,T5]
 have d:C.s .own ((kN h i k n (zK h.M (16*(nth h.J k).Q+n) 0)).O.map (bF.enc .own))=C.s .own ((h.O.map (bF.enc .own)).set i (splice (bF.enc .own (nth h.O i)) 2 [I n])):=U0 _ (HH h i k n _)
 (conv=>whnf)
 refine CE (ι:=Nat) (λm=>[(0,.F .box (br (kN h i k n (zK h.M (16*(nth h.J k).Q+n) m)))),(1,.F .one [I (((nth h.J k).Q*16))]),(8,.F .box (ay.enc .own (trimL (nth h.J k) n))),(9,.F .box (a8.enc .own (wZ (nth h.J k) n))),(11,.F .one [I (((16*(nth h.J k).Q+n)+(m:Nat)))])]) (λm=>m<=M) (λm=>M - m) (0) ?_ (T0 _) λm hm=>?_
 ·repeat'(first|exact trivial|rfl |exact nM r|exact nM d|exact cJ _|refine CI ?_ ?_|(exact u7 (by first|omega|(simp only;omega)|(simp;omega))))
 have hmod:IntKind.i64.wrap 0=0:=rfl;by_cases lm:m<M
 ·have W:0<=(16*(nth h.J k).Q+n)+(m:Nat)/\(16*(nth h.J k).Q+n)+(m:Nat)<512:=ω
  have R:=O ((16*(nth h.J k).Q+n)+(m:Nat)) ω;have t:=y m hm;rw[<-D m]at R;have hks:=bE t;have c2:=cX (zK h.M (16*(nth h.J k).Q+n) m).G.S (((16*(nth h.J k).Q+n)+(m:Nat)) / 16) hks.1.2;obtain⟨-,-,-,q0,q1⟩:=cC t R;have hul:=(bg.1 (aD.1 t).2.1).2.2.1;have S:fJ (zK h.M (16*(nth h.J k).Q+n) m) ((16*(nth h.J k).Q+n)+(m:Nat))<(zK h.M (16*(nth h.J k).Q+n) m).G.V.W.length:=by unfold fJ;omega
  have G:(zK h.M (16*(nth h.J k).Q+n) m).G.V.W[(au (zK h.M (16*(nth h.J k).Q+n) m).G.S (((16*(nth h.J k).Q+n)+(m:Nat)) / 16)).j.toNat]? = some _:=ah S;have h16:=(Ak t S).1;have T:=ah (xs:=nth (zK h.M (16*(nth h.J k).Q+n) m).G.V.W (fJ (zK h.M (16*(nth h.J k).Q+n) m) ((16*(nth h.J k).Q+n)+(m:Nat)))) (i:=(((16*(nth h.J k).Q+n)+(m:Nat)) % 16).toNat) (by rw[h16];omega);have htm:((16*(nth h.J k).Q+n)+(m:Nat)).tmod 16=((16*(nth h.J k).Q+n)+(m:Nat)) % 16:=fQ W.1;have hpu:=NW (kN h i k n h.M) (16*(nth h.J k).Q+n) m;have hwr:=po W;have hst:(trimL (nth h.J k) n).a3=(n+15) / 16:=rfl
  repeat'(first|refine gE ?_|(conv=>whnf);first|refine C8 ?_|refine CM (by decide) ?_|refine CK hwr ?_|refine CS htm ?_|refine CH (c2) ⟨⟨rfl,CX _⟩,⟨rfl,rfl⟩,trivial⟩ ?_|refine CL q0 (aa G) ?_|refine CG rfl (aa G) rfl ?_|refine CL ω (aa T) ?_|refine Pu.two rfl rfl (aa G) rfl rfl rfl (aa T) rfl (U2 _) hpu ?_)
  ((conv=>whnf);refine CD (m+1) ω ω ?_;(exact wC))
 obtain rfl:m=M:=ω
 have hst:(trimL (nth h.J k) n).a3=(n+15) / 16:=rfl;have hkM:=y m (U2 _);have U:(zK h.M (16*(nth h.J k).Q+n) m).G.S.K.length=dC h:=by rw[D];rfl
 have hTK:t4 h k n=zK h.M (16*(nth h.J k).Q+n) m:=by unfold t4;rw[hM]
 unfold trimH G3;rw[hTK];generalize zK h.M (16*(nth h.J k).Q+n) m=K at *;have hN:((dE (nth h.J k) n:Nat):Int)=(nth h.J k).a3 - (n+15) / 16:=by unfold dE;omega
 have hrA:0<dE (nth h.J k) n->wZ (nth h.J k) n = ⟨(nth h.J k).Q+(n+15) / 16,(dE (nth h.J k) n:Nat)⟩:=λhp=>by unfold wZ;rw[CB ω,hN]
 have hrB:¬0<dE (nth h.J k) n->wZ (nth h.J k) n = ⟨0,0⟩:=λhp=>by unfold wZ;rw[C9 ω]
 generalize dE (nth h.J k) n=P at *;by_cases X:0<P
 ·rw[CB X]
  have hr:=hrA X;rw[hr]
  repeat'(first|refine gE ?_|(conv=>whnf);first|refine C8 ?_)
  (conv=>whnf)
  refine CE (ι:=Nat) (λx=>[(0,.F .box (br (kN h i k n (dQ K ((nth h.J k).Q+(n+15) / 16) x)))),(9,.F .box ([I ((nth h.J k).Q+(n+15) / 16),I (P:Nat)])),(13,.F .one [I (((nth h.J k).Q+(n+15) / 16+(x:Nat)))])]) (λx=>x<=P) (λx=>P - x) (0) ?_ (T0 _) λx l=>?_
  ·repeat'(first|exact trivial|rfl |exact nM r|exact nM d|exact cJ _|refine CI ?_ ?_|(exact u7 (by first|omega|(simp only;omega)|(simp;omega))))
  by_cases lx:x<P
  ·have c3:=mb (kN h i k n (dQ K ((nth h.J k).Q+(n+15) / 16) x)) ((nth h.J k).Q+(n+15) / 16+(x:Nat)) (kT hkM _ _)
   repeat'(first|refine gE ?_|(conv=>whnf);first|refine C8 ?_|refine CJ (c3) (.inl rfl) ?_)
   ((conv=>whnf);refine CD (x+1) ω ω ?_;(exact wC))
  obtain rfl:x=P:=ω
  have c4:=gt (kN h i k n (dQ K ((nth h.J k).Q+(n+15) / 16) x));rw[show dC (kN h i k n (dQ K ((nth h.J k).Q+(n+15) / 16) x))=dC h from(i7 _ _ _).1.trans U]at c4;have c5:=lE (dC h:Nat) h.o ⟨(nth h.J k).Q+(n+15) / 16,(x:Nat)⟩ ⟨ω,ω⟩ ⟨by have:=c.free;omega,λ_ _=>trivial⟩
  repeat'(first|refine gE ?_|(conv=>whnf);first|refine C8 ?_|refine CH (c4) ⟨bz _,trivial⟩ ?_|refine CH (c5) ⟨⟨rfl,rfl⟩,⟨rfl,dI h.o⟩,⟨rfl,rfl⟩,trivial⟩ ?_|refine C8 ?_)
  refine CF rfl rfl ?_;exact wC
 rw[C9 X];obtain rfl:P=0:=ω
 have hr:=hrB X;rw[hr]
 repeat'(first|refine gE ?_|(conv=>whnf);first|refine C8 ?_)
 (conv=>whnf)
 refine CE (ι:=Nat) (λx=>[(0,.F .box (br (kN h i k n K))),(9,.F .box ([I 0,I 0])),(13,.F .one [I (0)])]) (λx=>x=0) (λx=>0) (0) ?_ (rfl) λx l=>?_
 ·repeat'(first|exact trivial|rfl |exact nM r|exact nM d|exact cJ _|refine CI ?_ ?_|(exact u7 (by first|omega|(simp only;omega)|(simp;omega))))
 subst l
 repeat'(first|refine gE ?_|(conv=>whnf);first|refine C8 ?_)
 refine CF rfl rfl ?_;exact wC
def D3{α:Type}(a:α)(k:Nat):List.replicate (k+1) a=List.replicate k a++[a]:=List.replicate_succ' ..
def Fu(n k:Nat):aU.enc .own ⟨List.replicate k (List.replicate 16 0),List.replicate n false⟩ = [.s .own (List.replicate k [.s .own (List.replicate 16 [I 0])]),.s .own (List.replicate n [B false])]:=by
 simp[aU.enc,aF,rI,rB,List.map_replicate]
def N6(n:Nat):KD [.s .own (List.replicate n [.z]),.s .own (List.replicate n [.z]),B true] (aI.enc .own (dG n)++[B true]):=by
 have e:aI.enc .own (dG n)++[B true]=[.s .own (List.replicate n [.s .own []]),.s .own (List.replicate n [.s .own []]),B true]:=by simp[aI.enc,dG,cY,aF,List.map_replicate]
 rw[e];exact .cons (.rep (.cons .z_ .nil)) (.cons (.rep (.cons .z_ .nil)) (.cons (.rfl_ _) .nil))
def zB(n:Nat)(b:1<=n/\n<=4):ao Tryz.prog 114 false [.val none [I (n:Nat)]] (.tup [some 2,none]) (aI.enc .own (dG n)++[B true]):=by
 have a:=aE ((n:Nat):Int) 1 4;rw[O0 ω]at a;refine fO 13 [(3,4,[8,9,10,11])] Tryz.func114 rfl ?_ (.inr (bc (aI.enc_fr _) ⟨trivial,trivial⟩))
 repeat'((conv=>whnf);first|with_reducible (first|refine Lm ?_|refine Wm ω ?_|refine Bn ?_|refine jK.dk rfl ?_)|refine Bt ?_|refine Bu ?_|refine C8 ?_|refine C7 (a) ?_|refine Mk.mk n rfl rfl ω (yb ω (by decide)) rfl ?_)
 exact N6 n
def JB:KD [.s .own (List.replicate 4 [.z])] (aA.enc .own eL):=.cons (.rep (.cons .z_ .nil)) .nil
def xX:ao Tryz.prog 115 false [] .agg (aA.enc .own eL):=by
 refine fO 3 [] Tryz.func115 rfl ?_ (.inr (aA.enc_fr _))
 repeat'((conv=>whnf);first|with_reducible (first|refine Lm ?_|refine Wm ω ?_|refine Bn ?_|refine jK.dk rfl ?_)|refine Bt ?_|refine Bu ?_|refine C8 ?_|refine Mk.mk 4 rfl rfl (by decide) (by decide) rfl ?_)
 exact JB
def r7:ao Tryz.prog 116 false [.val none [I 16]] (.tup [some 2,none]) (bI.enc .own ⟨16,[]⟩++[B true]):=by
 refine fO 10 [] Tryz.func116 rfl ?_ (.inr (bc (bI.enc_fr _) ⟨trivial,trivial⟩))
 repeat'((conv=>whnf);first|with_reducible (first|refine Lm ?_|refine Wm ω ?_|refine Bn ?_|refine jK.wk rfl ?_)|refine Bt ?_|refine Bu ?_|refine C8 ?_|refine C7 (aE 16 0 500) ?_)
 exact⟨rfl,rfl,rfl,trivial⟩
def caps(h:ac)(k:Nat):ac:={h with R:=List.replicate k eL}
def GV(k:Nat):(List.replicate (k+1) eL).map (aA.enc .own)=(List.replicate k eL).map (aA.enc .own)++[aA.enc .own eL]:=by rw[D3,C5];rfl
def LS{k:Nat} : ∀r∈(List.replicate k eL).map (aA.enc .own),r.length=1:=aM λ_=>rfl
def Nm(x:List bD):fz (.s .own (x.map (bD.enc .own)))=.s .U (x.map (bD.enc .U)):=(List.cons.inj (List.cons.inj (CY ⟨0,x⟩)).2).1
def er:∀a b:List C,d8 (a++b)=d8 a++d8 b
 | [],_=>rfl
 | x::xs,b=>by show fz x::d8 (xs++b)=fz x::(d8 xs++d8 b);rw[er xs b]
def dH(r:ax)(c:ax.sml r):ao Tryz.prog 98 false [.val (some 2) (ax.enc .U r)] .agg (ax.enc .own r):=by
 have e:r.O.length<=1048576:=c.1;refine fO 36 [(5,272,[15,16,17,18,19,20,21,22,23,24,25,26,27,28,29,34,0,1,2,3,4,5,6,7,8,9,10,11,12,13,14,15,1000,1001,1002,1003,1004,1005,1006,1007,16,1000,1001,17,1000,1001,18,19,20])] Tryz.func98 rfl ?_ (.inr (ax.enc_fr _))
 repeat'(first|refine gP ?_|(conv=>whnf);first|refine C8 ?_)
 (conv=>whnf)
 refine CE (ι:=Nat) (λi=>[(1,.F .box (ax.enc .U r)),(2,.F .box [I 0,.z]),(3,.F .box [I r.a2,.s .own ((r.O.take i).map (bD.enc .own))]),(4,.F .one [I ((i:Nat):Int)])]) (λi=>i<=r.O.length) (λi=>r.O.length - i) (0) ?_ (T0 _) λi g=>?_
 ·exact wC
 by_cases b:i<r.O.length
 ·have d:=ah b
  have a:(nth r.O i).W.length<=1048576:=c.2 _ (am b)
  repeat'(first|refine gE ?_|(conv=>whnf);first|with_reducible refine CA (aa d) ?_|refine C8 ?_|refine CG rfl (aa d) rfl ?_|refine CT (λ_=>rfl) (λ_=>rfl) a (by decide) ?_|refine CR (λ_=>rfl) (λ_=>rfl) a (by decide) ?_|refine C8 ?_|refine Ap.sn (aM λ_=>rfl) rfl (by simp;omega) (by decide) (jU b) ?_)
  ((conv=>whnf);refine CD (i+1) ω ω ?_;(exact wC))
 repeat'(first|refine gE ?_|(conv=>whnf);first|refine C8 ?_)
 obtain rfl:i=r.O.length:=ω
 rw[U4]
 rfl
def gL(r:ax)(id:Int)(g:r.O.length<=1048576):ao Tryz.prog 183 false [.val (some 2) (ax.enc .U r),.val none [I id]] .one [I (nJ r id)]:=by
 refine fO 22 [] Tryz.func183 rfl ?_
 repeat'(first|refine gP ?_|(conv=>whnf);first|refine C8 ?_)
 (conv=>whnf)
 refine CE (ι:=Nat) (λi=>[(1,.F .one [I (id)]),(2,.F .box (ax.enc .U r)),(5,.F .one [I ((i:Nat):Int)])]) (λi=>i<=r.O.length/\∀(j:Nat)(z:bD),j<i->r.O[j]? = some z->mP id z=false) (λi=>r.O.length - i) (0) ?_ (⟨T0 _,λj z h=>ω⟩) λi c=>?_
 ·exact wC
 obtain⟨c,b⟩:=c;by_cases d:i<r.O.length
 ·have a:=ah d
  by_cases e:(nth r.O i).Id=id
  ·repeat'(first|refine gB ?_|(conv=>whnf);first|with_reducible refine CA (aa a) ?_|refine C8 ?_|refine CG rfl (aa a) rfl ?_)
   exact U0 (λz=>[I z]) (dX a (O0 e) b).symm
  repeat'(first|refine gB ?_|(conv=>whnf);first|with_reducible refine CA (aa a) ?_|refine C8 ?_|refine CG rfl (aa a) rfl ?_)
  ((conv=>whnf);refine CD (i+1) ⟨ω,fL a (R0 e) b⟩ ω ?_;(exact wC))
 repeat'(first|refine gE ?_|(conv=>whnf);first|refine C8 ?_)
 exact U0 (λz=>[I z]) (fS ω b).symm
def mK(r:ax)(c:C)(h:PN c):gn (ax.enc .own r++[c]):=bc (ax.enc_fr _) ⟨h,trivial⟩
def x4(r:ax)(n:Int)(m:Nat)(b:pd r m)(h:m<=1000)(c:1<=n/\n<=1000):ao Tryz.prog 87 false [.val (some 2) (ax.enc .U r),.val none [I n]] (.tup [some 2,none]) (ax.enc .U (ke r n)++[I r.a2]):=by
 have i:=b.sml h;have d:=b.len;have j:=b.nx;have k:=dH r i;have e:=aE n 1 1000;rw[O0 c]at e;have key:ao Tryz.prog 87 false [.val (some 2) (ax.enc .U r),.val none [I n]] (.tup [some 2,none]) (ax.enc .own (ke r n)++[I r.a2]):=by
  have a:=mK (ke r n) (I r.a2) trivial;unfold ke at a |-;rw[CB c]at a |-;have l:ax.enc .own {r with a2:=r.a2+1,O:=r.O++[⟨r.a2,List.replicate n.toNat 0⟩]} = [I (r.a2+1),.s .own (r.O.map (bD.enc .own)++[[I r.a2,.s .own (List.replicate n.toNat [I 0])]])]:=by
   simp[ax.enc,bD.enc,rI]
  rw[l]at a |-;refine fO 30 [(4,263,[13,14,15,16,17,18,22,0,1,2,3,4,5,6,1000,1001,7,1000,1001,8,9,10]),(6,259,[27,28,29,0,1,2,3,1001,1002,4])] Tryz.func87 rfl ?_ (.inr a)
  repeat'(first|refine gP ?_|(conv=>whnf);first|refine C8 ?_|refine C7 (k) ?_|refine C7 (e) ?_|refine Mk.mk n.toNat ω ω ω (yb ω (by decide)) rfl ?_|refine C8 ?_|refine Ap.sn (aM λ_=>rfl) rfl (by simp;omega) (by decide) rfl ?_)
  (conv=>whnf)
  rfl
 have g:=key.fzR;rw[er,CY]at g;exact g
def AJ(r:ax)(id:Int)(m:Nat)(d:pd r m)(k:m<=1000):ao Tryz.prog 122 true [.val (some 2) (ax.enc .U r),.val none [I id]] (.tup [some 2,none]) (ax.enc .U (kL r id)++[B (!decide (nJ r id<0))]):=by
 have g:=d.sml k;have h:=d.len;have i:=dH r g;have b:=gL r id g.1;by_cases e:nJ r id<0
 ·have key:ao Tryz.prog 122 true [.val (some 2) (ax.enc .U r),.val none [I id]] (.tup [some 2,none]) (ax.enc .own r++[B false]):=by
   refine fO 30 [(5,267,[16,17,18,19,20,22,23,24,25,26,28,0,1,2,3,4,6,7,8,9,10,5,1006,1007,1008,1009,1010,11,12,13]),(1048581,6,[1])] Tryz.func122 rfl ?_ (.inl rfl)
   repeat'(first|refine gE ?_|(conv=>whnf);first|refine C8 ?_|refine C7 (i) ?_|refine C7 (b) ?_)
   rfl
  have a:=key.fzR;rw[er,CY]at a;unfold kL;rw[CB e,O0 e];exact a
 have n:kL r id = {r with O:=dele r.O (nJ r id).toNat}:=by unfold kL;rw[C9 e]
 obtain⟨t,u,w⟩:=fR (mP id) r.O (by unfold nJ at e;omega);obtain⟨j,c⟩:=O2 (show 0<=nJ r id by omega);have o:j<r.O.length:=by unfold nJ at c;omega
 have key:ao Tryz.prog 122 true [.val (some 2) (ax.enc .U r),.val none [I id]] (.tup [some 2,none]) ([I r.a2,.s .own ((dele r.O j).map (bD.enc .U))]++[B true]):=by
  rw[c]at b;refine fO 30 [(5,267,[16,17,18,19,20,22,23,24,25,26,28,0,1,2,3,4,6,7,8,9,10,5,1006,1007,1008,1009,1010,11,12,13]),(1048581,6,[1])] Tryz.func122 rfl ?_ (.inl rfl)
  repeat'(first|refine gE ?_|(conv=>whnf);first|refine C8 ?_|refine C7 (i) ?_|refine C7 (b) ?_|refine F6.mk rfl (Nm r.O) rfl ?_|refine CU j rfl (by rw[X0];omega) (aM λ_=>rfl) V3 ?_|refine Sl.suf (j+1) ω (by rw[X0];omega) (aM λ_=>rfl) W3 ?_|refine CR (λ_=>rfl) (λ_=>rfl) (by rw[O1];omega) (by decide) ?_|refine CT (λ_=>rfl) (λ_=>rfl) (by rw[O1];omega) (by decide) ?_|refine Ap.dele (λ_=>rfl) (λ_=>rfl) ω (by decide) ?_|refine C8 ?_)
  rfl
 have a:=key.fzR;have p:d8 ([I r.a2,.s .own ((dele r.O j).map (bD.enc .U))]++[B true])=ax.enc .U (kL r id)++[B (!decide (nJ r id<0))]:=by
  have:∀l:List bD,fzR (l.map (bD.enc .U))=l.map (bD.enc .U):=λl=>by
   induction l with
   | nil=>rfl
   | cons x xs q=>rw[O5,fzR,q,<-bD.enc_fz,qW]
  rw[n,c,R0 ω];simp[d8,fz,ax.enc,this]
 rw[p]at a;exact a
def yc(r:ax)(id a v:Int)(m:Nat)(o:pd r m)(D:m<=1000)(h:0<=nJ r id)(c:0<=a/\a<=(nth r.O (nJ r id).toNat).W.length - 1)(p:0<=v/\v<=999):ao Tryz.prog 124 false [.val (some 2) (ax.enc .U r),.val none [I id],.val none [I a],.val none [I v]] (.tup [some 2,none]) (ax.enc .U (eO r id a v)++[B true]):=by
 have k:=o.sml D;have q:=o.len;have E:=dH r k;have t:=gL r id k.1;obtain⟨J,K,L⟩:=fR (mP id) r.O h;obtain⟨j,l⟩:=O2 h;have d:j<r.O.length:=by unfold nJ at l;omega
 have e:=ah d;have F:(nth r.O j).W.length<=1048576:=k.2 _ (am d);obtain⟨b,g⟩:=O2 c.1;have G:eO r id a v = {r with O:=r.O.set j ⟨(nth r.O j).Id,(nth r.O j).W.set b v⟩}:=by
  unfold eO;rw[CB ⟨h,c,p⟩,l,g];rfl
 rw[l]at t c;rw[g]at c |-;simp only[I2]at c;have u:=ah (xs:=(nth r.O j).W) (i:=b) ω;have w:=aE (b:Nat) 0 (((nth r.O j).W.length:Nat) - 1:Int);rw[O0 ω]at w;have y:=aE v 0 999;rw[O0 p]at y;have key:ao Tryz.prog 124 false [.val (some 2) (ax.enc .U r),.val none [I id],.val none [I (b:Nat)],.val none [I v]] (.tup [some 2,none]) (ax.enc .own (eO r id (b:Nat) v)++[B true]):=by
  have n:=mK (eO r id (b:Nat) v) (B true) trivial;rw[<-g,G]at n |-;have H:ax.enc .own {r with O:=r.O.set j ⟨(nth r.O j).Id,(nth r.O j).W.set b v⟩} = [I r.a2,.s .own ((r.O.map (bD.enc .own)).set j [I (nth r.O j).Id,.s .own (((nth r.O j).W.map (rI .own)).set b [I v])])]:=by
   simp[ax.enc,bD.enc,rI,T5]
  rw[H]at n |-;rw[g];refine fO 48 [] Tryz.func124 rfl ?_ (.inr n)
  repeat'(first|refine gE ?_|(conv=>whnf);first|with_reducible (first|refine CA (aa e) ?_|refine CA (aa u) ?_|refine CL ω (aa e) ?_)|refine C8 ?_|refine C7 (E) ?_|refine C7 (t) ?_|refine C7 (w) ?_|refine C7 (y) ?_|refine CG rfl (aa e) rfl ?_|refine Pu.two rfl rfl (aa e) rfl rfl rfl (aa u) rfl (U2 _) rfl ?_)
  rfl
 have C:=key.fzR;rw[er,CY]at C;exact C
def AE(r:ax)(id n:Int)(m:Nat)(l:pd r m)(u:m<=1000)(g:0<=nJ r id)(c:1<=n/\n<=(nth r.O (nJ r id).toNat).W.length):ao Tryz.prog 126 false [.val (some 2) (ax.enc .U r),.val none [I id],.val none [I n]] (.tup [some 2,none]) (ax.enc .U (fV r id n)++[B true]):=by
 have h:=l.sml u;have o:=l.len;have w:=dH r h;have p:=gL r id h.1;obtain⟨E,F,G⟩:=fR (mP id) r.O g;obtain⟨j,i⟩:=O2 g;have a:j<r.O.length:=by unfold nJ at i;omega
 have d:=ah a;have y:(nth r.O j).W.length<=1048576:=h.2 _ (am a);obtain⟨b,e⟩:=O2 (show 0<=n by omega);have C:fV r id n = {r with O:=r.O.set j ⟨(nth r.O j).Id,(nth r.O j).W.take b⟩}:=by
  unfold fV;rw[CB ⟨g,c⟩,i,e];rfl
 rw[i]at p c;rw[e]at c |-;simp only[I2]at c;have q:=aE (b:Nat) 1 (((nth r.O j).W.length:Nat):Int);rw[O0 ω]at q;have key:ao Tryz.prog 126 false [.val (some 2) (ax.enc .U r),.val none [I id],.val none [I (b:Nat)]] (.tup [some 2,none]) (ax.enc .own (fV r id (b:Nat))++[B true]):=by
  have k:=mK (fV r id (b:Nat)) (B true) trivial;rw[<-e,C]at k |-;have D:ax.enc .own {r with O:=r.O.set j ⟨(nth r.O j).Id,(nth r.O j).W.take b⟩} = [I r.a2,.s .own ((r.O.map (bD.enc .own)).set j [I (nth r.O j).Id,.s .own (((nth r.O j).W.take b).map (rI .U))])]:=by
   simp only[ax.enc,T5]
   rfl
  rw[D]at k |-;rw[e];refine fO 46 [(5,270,[30,31,32,33,34,35,36,37,38,39,40,41,43,44,0,1,2,3,4,5,6,7,8,9,10,11,12,1000,1001,1002,13,14,15])] Tryz.func126 rfl ?_ (.inr k)
  repeat'(first|refine gE ?_|(conv=>whnf);first|with_reducible (first|refine CA (aa d) ?_|refine CL ω (aa d) ?_)|refine C8 ?_|refine C7 (w) ?_|refine C7 (p) ?_|refine C7 (q) ?_|refine CG rfl (aa d) rfl ?_|refine CU b rfl (by rw[X0];omega) (aM λ_=>rfl) V3 ?_|refine CT (λ_=>rfl) (λ_=>rfl) (by rw[O1];omega) (by decide) ?_|refine CR (λ_=>rfl) (λ_=>rfl) (by rw[O1];omega) (by decide) ?_|refine C8 ?_|refine CO rfl rfl (aa d) rfl (Z0 rfl) rfl ?_)
  rfl
 have t:=key.fzR;rw[er,CY]at t;exact t
def zG(r:ax)(id a v:Int)(m:Nat)(h:pd r m)(l:m<=1000)(u:0<=v/\v<=999):∃b:Bool,ao Tryz.prog 124 false [.val (some 2) (ax.enc .U r),.val none [I id],.val none [I a],.val none [I v]] (.tup [some 2,none]) (ax.enc .U (eO r id a v)++[B b]):=by
 by_cases i:0<=nJ r id
 ·by_cases d:0<=a/\a<=(nth r.O (nJ r id).toNat).W.length - 1
  ·exact⟨true,yc r id a v m h l i d u⟩
  refine⟨false,?_⟩;have c:=h.sml l;have o:=h.len;have n:=dH r c;have k:=gL r id c.1;obtain⟨C,D,E⟩:=fR (mP id) r.O i;obtain⟨j,p⟩:=O2 i;have e:j<r.O.length:=by unfold nJ at p;omega
  have q:=ah e;have w:(nth r.O j).W.length<=1048576:=c.2 _ (am e);have y:eO r id a v=r:=by unfold eO;rw[C9 (λx=>d x.2.1)]
  rw[p]at k d;simp only[I2]at d;have t:=aE a 0 (((nth r.O j).W.length:Nat) - 1:Int);rw[R0 d]at t;rw[y];have key:ao Tryz.prog 124 false [.val (some 2) (ax.enc .U r),.val none [I id],.val none [I a],.val none [I v]] (.tup [some 2,none]) (ax.enc .own r++[B false]):=by
   refine fO 48 [] Tryz.func124 rfl ?_ (.inr (mK r (B false) trivial))
   repeat'(first|refine gE ?_|(conv=>whnf);first|with_reducible refine CA (aa q) ?_|refine C8 ?_|refine C7 (n) ?_|refine C7 (k) ?_|refine C7 (t) ?_|refine CG rfl (aa q) rfl ?_)
   rfl
  have g:=key.fzR;rw[er,CY]at g;exact g
 refine⟨false,?_⟩;have c:=h.sml l;have n:=dH r c;have k:=gL r id c.1;rw[show eO r id a v=r by unfold eO;rw[C9 (λx=>i x.1)]];have key:ao Tryz.prog 124 false [.val (some 2) (ax.enc .U r),.val none [I id],.val none [I a],.val none [I v]] (.tup [some 2,none]) (ax.enc .own r++[B false]):=by
  refine fO 48 [] Tryz.func124 rfl ?_ (.inr (mK r (B false) trivial))
  repeat'(first|refine gE ?_|(conv=>whnf);first|refine C8 ?_|refine C7 (n) ?_|refine C7 (k) ?_)
  rfl
 have g:=key.fzR;rw[er,CY]at g;exact g
def DT(r:ax)(id n:Int)(m:Nat)(g:pd r m)(k:m<=1000):∃b:Bool,ao Tryz.prog 126 false [.val (some 2) (ax.enc .U r),.val none [I id],.val none [I n]] (.tup [some 2,none]) (ax.enc .U (fV r id n)++[B b]):=by
 by_cases h:0<=nJ r id
 ·by_cases c:1<=n/\n<=(nth r.O (nJ r id).toNat).W.length
  ·exact⟨true,AE r id n m g k h c⟩
  refine⟨false,?_⟩;have a:=g.sml k;have o:=g.len;have l:=dH r a;have i:=gL r id a.1;obtain⟨y,C,D⟩:=fR (mP id) r.O h;obtain⟨j,p⟩:=O2 h;have d:j<r.O.length:=by unfold nJ at p;omega
  have q:=ah d;have u:(nth r.O j).W.length<=1048576:=a.2 _ (am d);have w:fV r id n=r:=by unfold fV;rw[C9 (λx=>c x.2)]
  rw[p]at i c;simp only[I2]at c;have t:=aE n 1 (((nth r.O j).W.length:Nat):Int);rw[R0 c]at t;rw[w];have key:ao Tryz.prog 126 false [.val (some 2) (ax.enc .U r),.val none [I id],.val none [I n]] (.tup [some 2,none]) (ax.enc .own r++[B false]):=by
   refine fO 46 [(5,270,[30,31,32,33,34,35,36,37,38,39,40,41,43,44,0,1,2,3,4,5,6,7,8,9,10,11,12,1000,1001,1002,13,14,15])] Tryz.func126 rfl ?_ (.inr (mK r (B false) trivial))
   repeat'(first|refine gE ?_|(conv=>whnf);first|with_reducible refine CA (aa q) ?_|refine C8 ?_|refine C7 (l) ?_|refine C7 (i) ?_|refine C7 (t) ?_|refine CG rfl (aa q) rfl ?_)
   rfl
  have e:=key.fzR;rw[er,CY]at e;exact e
 refine⟨false,?_⟩;have a:=g.sml k;have l:=dH r a;have i:=gL r id a.1;rw[show fV r id n=r by unfold fV;rw[C9 (λx=>h x.1)]];have key:ao Tryz.prog 126 false [.val (some 2) (ax.enc .U r),.val none [I id],.val none [I n]] (.tup [some 2,none]) (ax.enc .own r++[B false]):=by
  refine fO 46 [(5,270,[30,31,32,33,34,35,36,37,38,39,40,41,43,44,0,1,2,3,4,5,6,7,8,9,10,11,12,1000,1001,1002,13,14,15])] Tryz.func126 rfl ?_ (.inr (mK r (B false) trivial))
  repeat'(first|refine gE ?_|(conv=>whnf);first|refine C8 ?_|refine C7 (l) ?_|refine C7 (i) ?_)
  rfl
 have e:=key.fzR;rw[er,CY]at e;exact e
structure ib where
 i:Nat
 h:Int
deriving Inhabited
def w64(x:Int):Int:=IntKind.i64.wrap x
def PP(h:Int):Int:=w64 (w64 (h*6364136223846793005)+1442695040888963407)
def PF(a b:Int):Int:=w64 ((BitVec.ofInt IntKind.i64.bits a ^^^ BitVec.ofInt IntKind.i64.bits b).toNat:Nat)
def and255(a:Int):Int:=w64 ((BitVec.ofInt IntKind.i64.bits a &&& BitVec.ofInt IntKind.i64.bits 255).toNat:Nat)
def LU(h:Int)(n:Nat):Int:=h.fdiv (2 ^ (min n IntKind.i64.bits))
def y7(h:Int):Int:=and255 (PF (LU h 33) (LU h 45))
def yW(a:Int):0<=and255 a/\and255 a<=255:=by
 have b:(BitVec.ofInt IntKind.i64.bits a &&& BitVec.ofInt IntKind.i64.bits 255).toNat<=255:=by
  rw[BitVec.toNat_and];exact R4 Nat.and_le_right (by decide)
 unfold and255 w64;rw[ed ω ω];omega
def dz(zs:List Int)(c:ib):Int × ib:=if c.i<zs.length then(and255 (y7 (PP c.h)+nth zs c.i),⟨c.i+1,PP c.h⟩) else(y7 (PP c.h),⟨c.i,PP c.h⟩)
def rG(zs:List Int)(c:ib):0<=(dz zs c).1/\(dz zs c).1<=255:=by
 unfold dz;split<;>exact yW _
def iu{zs:List Int}{c:ib}(h:c.i<=zs.length):(dz zs c).2.i<=zs.length:=by
 unfold dz;split
 ·simp only;omega
 exact h
def y3(zs:List Int)(c:ib):Int × ib:=
 ((dz zs c).1*16777216+(dz zs (dz zs c).2).1*65536+(dz zs (dz zs (dz zs c).2).2).1*256+(dz zs (dz zs (dz zs (dz zs c).2).2).2).1,(dz zs (dz zs (dz zs (dz zs c).2).2).2).2)
def bq(zs:List Int)(c:ib)(n:Int):Int × ib:=if n<=256 then((dz zs c).1 % n,(dz zs c).2) else((y3 zs c).1 % n,(y3 zs c).2)
def bC(zs:List Int)(c:ib){n:Int}(h:1<=n):0<=(bq zs c n).1/\(bq zs c n).1<n:=by
 unfold bq;split<;>exact⟨Int.emod_nonneg _ ω,Int.emod_lt_of_pos _ ω⟩
def bO{zs:List Int}{c:ib}(h:c.i<=zs.length)(n:Int):(bq zs c n).2.i<=zs.length:=by
 unfold bq;split
 ·exact iu h
 exact iu (iu (iu (iu h)))
def km(zs:List Int)(c:ib)(l:List Int):Int × ib:=(nth l (bq zs c (l.length:Nat)).1.toNat,(bq zs c (l.length:Nat)).2)
def oM(zs:List Int)(c:ib){l:List Int}(h:1<=l.length):(km zs c l).1∈l:=by
 have:=bC zs c (n:=(l.length:Nat)) ω;exact am ω
def oh(zs:List Int):Nat->Nat->List Int->ib->List Int × ib
 | 0,_,out,c=>(out,(bq zs c 4).2)
 | f+1,i,out,c=>if(i:Int)<(bq zs c 4).1 then oh zs f (i+1) (out++[(bq zs (bq zs c 4).2 12).1]) (bq zs (bq zs c 4).2 12).2 else(out,(bq zs c 4).2)
def Mg(zs:List Int)(c:ib):List Int × ib:=oh zs 4 0 [] c
def Gc(zs:List Int):∀(f i:Nat)(out:List Int)(c:ib),(∀x∈out,0<=x)->out.length+f<=4->c.i<=zs.length->(∀x∈(oh zs f i out c).1,0<=x)/\(oh zs f i out c).1.length<=4/\(oh zs f i out c).2.i<=zs.length
 | 0,_,out,c,b,e,d=>⟨b,by show out.length<=4;omega,bO d _⟩
 | f+1,i,out,c,b,e,d=>by
  unfold oh;split
  ·refine Gc zs f (i+1) _ _ (λx a=>?_) (by simp only[X2,List.length_singleton];omega) (bO (bO d _) _)
   rcases R2.1 a with a|a
   ·exact b x a
   rw[C1.1 a];exact(bC zs _ (by decide)).1
  exact⟨b,by show out.length<=4;omega,bO d _⟩
def xY(zs:List Int)(c:ib):Int × ib:=bq zs c 7
def DU(zs:List Int)(c:ib):Int × ib:=bq zs (xY zs c).2 3
def FG(zs:List Int)(c:ib):Int × ib:=bq zs (DU zs c).2 100
def AG(zs:List Int)(c:ib):Int × ib:=bq zs (FG zs c).2 4
def NN(zs:List Int)(c:ib):List Int × ib:=Mg zs (AG zs c).2
def pE(zs:List Int)(c:ib):cQ:=⟨(6+(xY zs c).1).toNat,(6+(xY zs c).1 - (AG zs c).1).toNat,(1+(DU zs c).1).toNat,40+(FG zs c).1,(NN zs c).1⟩
def vP{zs:List Int}{c:ib}(h:c.i<=zs.length):Jj (pE zs c)/\(NN zs c).2.i<=zs.length:=by
 have a:=bC zs c (n:=7) (by decide);have b:=bC zs (xY zs c).2 (n:=3) (by decide);have d:=bC zs (DU zs c).2 (n:=100) (by decide);have e:=bC zs (FG zs c).2 (n:=4) (by decide);change 0<=(xY zs c).1/\(xY zs c).1<7 at a;change 0<=(DU zs c).1/\(DU zs c).1<3 at b;change 0<=(FG zs c).1/\(FG zs c).1<100 at d;change 0<=(AG zs c).1/\(AG zs c).1<4 at e;obtain⟨f,k,g⟩:=Gc zs 4 0 [] (AG zs c).2 (λx j=>by cases j) (by simp) (bO (bO (bO (bO h _) _) _) _);refine⟨⟨?_,?_,?_,?_,?_⟩,g⟩
 ·show 1<=(6+(xY zs c).1).toNat/\(6+(xY zs c).1).toNat<=32;omega
 ·show 1<=(6+(xY zs c).1 - (AG zs c).1).toNat/\(6+(xY zs c).1 - (AG zs c).1).toNat<=32;omega
 ·show 1<=(1+(DU zs c).1).toNat/\(1+(DU zs c).1).toNat<=4;omega
 ·show 0<=40+(FG zs c).1/\40+(FG zs c).1<=1000;omega
 exact⟨by show(oh zs 4 0 [] (AG zs c).2).1.length<=40;omega,f⟩
def yi(zs:List Int)(c:ib):Int × ib:=bq zs c 3
def Em(zs:List Int)(c:ib)(ids:Int):Int × ib:=bq zs (yi zs c).2 ids
def kx(zs:List Int)(c:ib)(ids:Int):Int × ib:=bq zs (Em zs c ids).2 20
def szs:List Int:=[1,1,2,2,3,4,4,5,8,9,20]
def qM(zs:List Int)(c:ib)(ids:Int):eD × ib:=
 if(kx zs c ids).1<=6 then(⟨1,(yi zs c).1,(km zs (kx zs c ids).2 szs).1,0,0⟩,(km zs (kx zs c ids).2 szs).2)
 else if(kx zs c ids).1<=9 then(⟨2,(yi zs c).1,1+(Em zs c ids).1,0,0⟩,(kx zs c ids).2)
 else if(kx zs c ids).1<=12 then(⟨3,(yi zs c).1,1+(Em zs c ids).1,(bq zs (kx zs c ids).2 4).1,1+(bq zs (bq zs (kx zs c ids).2 4).2 999).1⟩,(bq zs (bq zs (kx zs c ids).2 4).2 999).2)
 else if(kx zs c ids).1=13 then(⟨4,(yi zs c).1,1+(Em zs c ids).1,0,9+(bq zs (kx zs c ids).2 10).1⟩,(bq zs (kx zs c ids).2 10).2)
 else if(kx zs c ids).1=14 then(⟨(km zs (kx zs c ids).2 [5,6]).1,(yi zs c).1,1+(Em zs c ids).1,0,0⟩,(km zs (kx zs c ids).2 [5,6]).2)
 else if(kx zs c ids).1=15 then(⟨7,(yi zs c).1,1+(Em zs c ids).1,0,0⟩,(kx zs c ids).2)
 else if(kx zs c ids).1=16 then(⟨8,(yi zs c).1,(km zs (kx zs c ids).2 [1,30,60,120]).1,0,0⟩,(km zs (kx zs c ids).2 [1,30,60,120]).2)
 else if(kx zs c ids).1=17 then(⟨9,(yi zs c).1,1+(Em zs c ids).1,0,0⟩,(kx zs c ids).2)
 else(⟨10,(yi zs c).1,(km zs (kx zs c ids).2 [1,2,3,10,30]).1,0,0⟩,(km zs (kx zs c ids).2 [1,2,3,10,30]).2)
structure Qg(a:eD):Prop where
 k:1<=a.b6/\a.b6<=10
 t:0<=a.a4/\a.a4<=1000000
 n:0<=a.N/\a.N<=1000000
 p:0<=a.At/\a.At<=1000000
 v:0<=a.Value/\a.Value<=1000000
def KX{zs:List Int}{c:ib}{ids:Int}(h:c.i<=zs.length)(b:1<=ids/\ids<=1000):Qg (qM zs c ids).1/\(qM zs c ids).2.i<=zs.length:=by
 have d:=bC zs c (n:=3) (by decide);have e:=bC zs (yi zs c).2 (n:=ids) b.1;change 0<=(yi zs c).1/\(yi zs c).1<3 at d;change 0<=(Em zs c ids).1/\(Em zs c ids).1<ids at e;have a:(kx zs c ids).2.i<=zs.length:=bO (bO (bO h _) _) _;have f:=oM zs (kx zs c ids).2 (l:=szs) (by decide);have g:=oM zs (kx zs c ids).2 (l:=[5,6]) (by decide);have j:=oM zs (kx zs c ids).2 (l:=[1,30,60,120]) (by decide);have k:=oM zs (kx zs c ids).2 (l:=[1,2,3,10,30]) (by decide);have o:=bC zs (kx zs c ids).2 (n:=4) (by decide);have p:=bC zs (bq zs (kx zs c ids).2 4).2 (n:=999) (by decide);have q:=bC zs (kx zs c ids).2 (n:=10) (by decide);simp only[szs,List.mem_cons,List.not_mem_nil,or_false]at f g j k;unfold qM
 repeat' split
 ·exact⟨⟨by simp only;omega,by simp only;omega,by simp only[szs];omega,by simp only;omega,by simp only;omega⟩,bO a _⟩
 ·exact⟨⟨by simp only;omega,by simp only;omega,by simp only;omega,by simp only;omega,by simp only;omega⟩,a⟩
 ·exact⟨⟨by simp only;omega,by simp only;omega,by simp only;omega,by simp only;omega,by simp only;omega⟩,bO (bO a _) _⟩
 ·exact⟨⟨by simp only;omega,by simp only;omega,by simp only;omega,by simp only;omega,by simp only;omega⟩,bO a _⟩
 ·exact⟨⟨by simp only;omega,by simp only;omega,by simp only;omega,by simp only;omega,by simp only;omega⟩,bO a _⟩
 ·exact⟨⟨by simp only;omega,by simp only;omega,by simp only;omega,by simp only;omega,by simp only;omega⟩,a⟩
 ·exact⟨⟨by simp only;omega,by simp only;omega,by simp only;omega,by simp only;omega,by simp only;omega⟩,bO a _⟩
 ·exact⟨⟨by simp only;omega,by simp only;omega,by simp only;omega,by simp only;omega,by simp only;omega⟩,a⟩
 exact⟨⟨by simp only;omega,by simp only;omega,by simp only;omega,by simp only;omega,by simp only;omega⟩,bO a _⟩
def kK(zs:List Int)(c:ib):Nat->List eD × ib
 | 0=>([],(bq zs c 41).2)
 | i+1=>((kK zs c i).1++[(qM zs (kK zs c i).2 (1+(i:Int) / 2)).1],(qM zs (kK zs c i).2 (1+(i:Int) / 2)).2)
def nh(zs:List Int)(c:ib):List eD × ib:=kK zs c (bq zs c 41).1.toNat
def qT{zs:List Int}{c:ib}(h:c.i<=zs.length):∀{n:Nat},n<=100->(kK zs c n).1.length=n/\(∀a∈(kK zs c n).1,Qg a)/\(kK zs c n).2.i<=zs.length
 | 0,_=>⟨rfl,λa b=>(by cases b),bO h _⟩
 | n+1,k=>by
  obtain⟨d,e,f⟩:=qT h (n:=n) ω;obtain⟨g,j⟩:=KX (ids:=1+(n:Int) / 2) f ω;refine⟨by simp only[kK,X2,List.length_singleton,d],λa b=>?_,j⟩;rcases R2.1 b with b|b
  ·exact e a b
  rw[C1.1 b];exact g
def pb(zs:List Int):Nat->Int
 | 0=>w64 (98801+(zs.length:Nat))
 | i+1=>w64 ((BitVec.ofInt IntKind.i64.bits (w64 (w64 (w64 (pb zs i*131)+nth zs i)+7)) &&& BitVec.ofInt IntKind.i64.bits 1073741823).toNat:Nat)
def uv(zs:List Int):ib:=⟨0,pb zs (min zs.length 4000)⟩
def fg(zs:List Int):ib:=(NN zs (uv zs)).2
def drawn(zs:List Int):bG:=(Bd (pE zs (uv zs)) (nh zs (fg zs)).1 (nh zs (fg zs)).1.length).1
def Ej(zs:List Int):nt (drawn zs) 40:=by
 have a:(uv zs).i<=zs.length:=T0 _;obtain⟨b,d⟩:=vP a;have f:=bC zs (fg zs) (n:=41) (by decide);obtain⟨e,-,-⟩:=qT (zs:=zs) (c:=fg zs) d (n:=(bq zs (fg zs) 41).1.toNat) ω;refine(zD b _ _).more ?_;show(kK zs (fg zs) _).1.length<=40;rw[e];omega
def rU(z:Int):List C:=[.v (.int .u8 z)]
def ic(zs:List Int)(c:ib):List C:=[.s .U (zs.map rU),I (c.i:Nat),I c.h]
def j7(zs:List Int):Prop:=zs.length<=1048576/\∀z∈zs,0<=z/\z<=255
def jQ(zs:List Int)(c:ib)(e:j7 zs)(w:c.i<=zs.length):aP Tryz.prog 99 false [.ptr (ic zs c)] [.ptr (ic zs (dz zs c).2)] .one [I (dz zs c).1]:=by
 have g:IntKind.i64.wrap (c.h*6364136223846793005)=w64 (c.h*6364136223846793005):=rfl;have b:IntKind.i64.wrap (w64 (c.h*6364136223846793005)+1442695040888963407)=PP c.h:=rfl;have o:=e.1;generalize p:PP c.h=H at b;have j:H.fdiv (2 ^ (min (33:Int).toNat IntKind.i64.bits))=LU H 33:=rfl;have k:H.fdiv (2 ^ (min (45:Int).toNat IntKind.i64.bits))=LU H 45:=rfl;have l:IntKind.i64.wrap (BitVec.ofInt IntKind.i64.bits (LU H 33) ^^^ BitVec.ofInt IntKind.i64.bits (LU H 45)).toNat=PF (LU H 33) (LU H 45):=rfl;have d:IntKind.i64.wrap (BitVec.ofInt IntKind.i64.bits (PF (LU H 33) (LU H 45)) &&& BitVec.ofInt IntKind.i64.bits 255).toNat=y7 H:=rfl;have r:0<=y7 H/\y7 H<=255:=yW _;unfold dz;rw[p];generalize y7 H=y at d r |-;refine fM 58 [] [(2,10,[13,14,15,16,17,18,19,20,21,22]),(3,9,[25,26,27,28,29,30,31,32,33]),(4,12,[35,36,37,38,39,40,41,42,43,44,45,46])] [(0,0)] Tryz.func99 rfl (λu q=>?_);by_cases a:c.i<zs.length
 ·rw[CB a]
  have n:=ah a;have B:=e.2 _ (am a);have t:IntKind.i64.wrap (BitVec.ofInt IntKind.i64.bits (y+nth zs c.i) &&& BitVec.ofInt IntKind.i64.bits 255).toNat=and255 (y+nth zs c.i):=rfl
  repeat'(first|refine gE ?_|(conv=>whnf);first|with_reducible (first|refine CK g ?_|refine CK b ?_|refine CK l ?_|refine CK d ?_|refine CK t ?_|refine CA (aa n) ?_|refine CM (by decide) ?_|refine CS j ?_|refine CS k ?_)|refine CG rfl (aa n) rfl ?_|refine C8 ?_)
  refine CF rfl rfl ?_;exact wB
 rw[C9 a]
 repeat'(first|refine gE ?_|(conv=>whnf);first|with_reducible (first|refine CK g ?_|refine CK b ?_|refine CK l ?_|refine CK d ?_|refine CM (by decide) ?_|refine CS j ?_|refine CS k ?_)|refine C8 ?_)
 refine CF rfl rfl ?_;exact wB
def bQ(zs:List Int)(c:ib)(n:Int)(b:j7 zs)(d:c.i<=zs.length)(p:1<=n):aP Tryz.prog 62 false [.ptr (ic zs c),.val none [I n]] [.ptr (ic zs (bq zs c n).2),.val none [I n]] .one [I (bq zs c n).1]:=by
 have j:=rG zs c;have g:=jQ zs c b d;unfold bq;refine fM 37 [(99,[2])] [] [(0,0),(0,0)] Tryz.func62 rfl (λu q=>?_);by_cases h:n<=256
 ·rw[CB h]
  have a:(dz zs c).1.tmod n=(dz zs c).1 % n:=Int.tmod_eq_emod_of_nonneg j.1
  repeat'(first|refine gE ?_|(conv=>whnf);first|with_reducible (first|refine CS a ?_|refine Bf.D (λe=>?_) (λe=>?_))|refine CJ (g) (.inl rfl) ?_|refine CM ω ?_)
  refine CF rfl rfl ?_;exact wB
 rw[C9 h];have r:=rG zs (dz zs c).2;have t:=rG zs (dz zs (dz zs c).2).2;have w:=rG zs (dz zs (dz zs (dz zs c).2).2).2;have k:=jQ zs (dz zs c).2 b (iu d);have l:=jQ zs (dz zs (dz zs c).2).2 b (iu (iu d));have o:=jQ zs (dz zs (dz zs (dz zs c).2).2).2 b (iu (iu (iu d)));have a:(y3 zs c).1.tmod n=(y3 zs c).1 % n:=Int.tmod_eq_emod_of_nonneg (by unfold y3;simp only;omega);unfold y3 at a |-;simp only at a
 repeat'(first|refine gE ?_|(conv=>whnf);first|with_reducible (first|refine CS a ?_|refine Bf.D (λe=>?_) (λe=>?_))|refine CJ (g) (.inl rfl) ?_|refine CJ (k) (.inl rfl) ?_|refine CJ (l) (.inl rfl) ?_|refine CJ (o) (.inl rfl) ?_|refine CM ω ?_)
 refine CF rfl rfl ?_;exact wB
end Go.Proofs.YtifeilefdakapaaGreatDoor.Ab
