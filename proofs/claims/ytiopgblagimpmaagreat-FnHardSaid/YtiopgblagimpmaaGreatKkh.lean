/- A small object's slot: the reference's. No condition. -/
import Derived.Test.YtiopgblagimpmaaGreatKkc
import Derived.Test.YtiopgblagimpmaaGreatKkg
import Derived.Test.YtiopgblagimpmaaGreatKkf
import Derived.Test.YtiopgblagimpmaaGreatKke
set_option linter.unusedVariables false
set_option linter.defProp false
set_option linter.unusedSimpArgs false
set_option linter.constructorNameAsVariable false
namespace Go.Proofs.YtiopgblagimpmaaGreat.Ab
open Go.RowKit
set_option maxRecDepth 20000
set_option maxHeartbeats 4000000
variable{i:Nat}{c:Int}{h:ac}
def wM(a:i<h.J.length)(b:p6 h c i=true)(d:∀j,j<i->p6 h c j=false):pn h c=some i:=
 List.find?_range_eq_some.2 ⟨b,List.mem_range.2 a,λj e=>by rw[d j e];rfl⟩
def wV(a:∀j,j<h.J.length->p6 h c j=false):pn h c=none:=
 List.find?_range_eq_none.2 λj b=>by rw[a j b];rfl
def lS(a:p6 h c i=false)(b:∀j,j<i->p6 h c j=false):∀j,j<i+1->p6 h c j=false:=λj d=>by
 by_cases e:j=i
 ·rw[e];exact a
 exact b j ω
def Pp(h:ac)(t:Nat)(c:aF):bL {h with S:=h.S.set t c} = (bL h).set 9 (.s .own ((h.S.map (aF.enc .own)).set t (aF.enc .own c))):=by
 simp[bL,S8]
def H8{c:Nat}(b:bc h [])(l:c<=3)(e:h.F.Calls<=90000)(h1:¬(ay h.o 1).2.2=false)(f:¬(newK h.F (ay h.o 1).2.1).2=false):bc (mL h c) []/\mM h<(mL h c).J.length:=by
 have a:(ay h.o 1).2.2=true:=by simpa using h1
 obtain⟨g,i,j,n⟩:=jb b (Y6 1) a;have s:=xC.of (p:=(ay h.o 1).2.1) b.ker ω ⟨g,by have:(ay h.o 1).2.1+1<=(h.F.G.Q.K.length:Nat):=i;omega⟩ (j _ ω ω);have d:(newK h.F (ay h.o 1).2.1).2=true:=by simpa using f
 have k:xC h.F (ay h.o 1).2.1 ((newK h.F (ay h.o 1).2.1).1,true):=by rw[<-d];exact s
 exact⟨b.addS (c:=c) ⟨ω,ω⟩ a k,(EK (FL (ay h.o 1).2.1) h.J ⟨(ay h.o 1).2.1,c,0⟩).1⟩
def Dg(h:ac)(t c:Nat)(o:bc h [])(M:t<h.S.length)(N:c<=3)(p:h.F.Calls<=90000):zzB 221 false [.ptr (bL h),.val none [I (t:Nat)],.val none [I (c:Nat)]] [.ptr (bL (smallA h t c).1),.val none [I (t:Nat)],.val none [I (c:Nat)]] .one [I (smallA h t c).2]:=by
 have E:=o.cach _ (au M);have e:=ar M;have r:=zk (nth h.S t) c E N;have Q:=o.lens.spans;have B:=o;unfold Wi at r;by_cases F:0<(nth (nth h.S t).Z c).length
 ·unfold smallA
  rw[CE F]at r |-;simp only;rw[Pp];refine fM 80 [(368,[2,0]),(369,[2,0])] [(3,6,[27,28,29,30,31,32])] [(0,0),(0,0),(0,0)] Tryz.func221 rfl (λu q=>?_)
  repeat'(first|refine gP ?_|refine CH (r) ⟨⟨rfl,Cg _⟩,⟨rfl,rfl⟩,trivial⟩ ?_|refine CR rfl rfl (aa e) rfl (Z1 rfl) rfl ?_)
  refine CL rfl rfl ?_;exact wC
 rw[CC F]at r;have d:smallA h t c=match pn h c with
  | some i=>(slotT h i,qz h i)
  | none=>if(ay h.o 1).2.2=false then(h,-1)
   else if(newK h.F (ay h.o 1).2.1).2=false then({h with F:=(newK h.F (ay h.o 1).2.1).1},-1)
   else jw (mL h c) (mM h):=by unfold smallA;exact CC F
 refine fM 80 [(368,[2,0]),(369,[2,0])] [(3,6,[27,28,29,30,31,32])] [(0,0),(0,0),(0,0)] Tryz.func221 rfl (λu q=>?_)
 repeat'(first|refine gP ?_|refine CH (r) ⟨⟨rfl,Cg _⟩,⟨rfl,rfl⟩,trivial⟩ ?_)
 refine CK (ι:=Nat) (λi=>[(0,.H .box (bL h)),(1,.H .one [I ((t:Nat):Int)]),(2,.H .one [I ((c:Nat):Int)]),(10,.H .one [I ((i:Nat):Int)])]) (λi=>i<=h.J.length/\∀j,j<i->p6 h c j=false) (λi=>h.J.length - i) (0) ?_ (⟨Z0 _,λj W=>ω⟩) λi o=>?_
 ·exact wC
 obtain⟨R,w⟩:=o;by_cases C:i<h.J.length
 ·have l:=ar C
  by_cases O:(nth h.J i).d=c
  ·have y:=w8 h (nth h.J i).R
   cases D:fB h (nth h.J i).R with
   | true=>
    rw[D]at y
    repeat'(first|refine gB ?_|refine CH (y) ⟨bP h,⟨rfl,rfl⟩,trivial⟩ ?_)
    (refine CG (i+1) ⟨ω,lS (by unfold p6;rw[D];simp) w⟩ ω ?_;(exact wC))
   | false=>
    rw[D]at y;have n:=uV h [] i B C;unfold jw at n;by_cases P:(iy h i).length=0
    ·rw[CE P]at n
     repeat'(first|refine gB ?_|refine CH (y) ⟨bP h,⟨rfl,rfl⟩,trivial⟩ ?_)
     (refine CG (i+1) ⟨ω,lS (by unfold p6;rw[X0 (by omega:¬0<(iy h i).length)];simp) w⟩ ω ?_;(exact wC))
    rw[CC P]at n;have G:pn h c=some i:=wM C (by unfold p6;rw[O0 O,D,O0 ω];rfl) w;rw[G]at d;simp only at d;obtain⟨S,T⟩:=B.slotT C (by omega:0<(iy h i).length);have H:=jZ.nn S T;rw[d];generalize slotT h i=g at n |-;generalize qz h i=a at n H |-
    repeat'(first|refine gB ?_|refine CH (y) ⟨bP h,⟨rfl,rfl⟩,trivial⟩ ?_)
    refine CL rfl rfl ?_;exact wC
  refine ZB ?_
  (refine CG (i+1) ⟨ω,lS (by unfold p6;rw[X0 O];rfl) w⟩ ω ?_;(exact wC))
 obtain rfl:i=h.J.length:=ω
 have G:pn h c=none:=wV w;rw[G]at d;simp only at d;have k:=EG h [] c B p;rw[d];unfold LQ at k;by_cases J:(ay h.o 1).2.2=false
 ·rw[CE J]at k |-
  refine ZE ?_
  refine CL rfl rfl ?_;exact wC
 rw[CC J]at k |-;by_cases K:(newK h.F (ay h.o 1).2.1).2=false
 ·rw[CE K]at k |-
  refine ZE ?_
  refine CL rfl rfl ?_;exact wC
 rw[CC K]at k |-;obtain⟨U,V⟩:=H8 B N p J K;have L:=uV (mL h c) [] (mM h) U V;generalize mL h c=g at k L |-;generalize mM h=b at k L |-
 refine ZE ?_
 refine CL rfl rfl ?_;exact wC
def BU(h:ac)(size:Int):ac × Int:=
 if(ay h.o (gQ size:Nat)).2.2=false then(h,-1)
 else if(ef h size).2=gQ size then({h with F:=(ef h size).1,o:=(ay h.o (gQ size:Nat)).1,M:=jW (Tq (ay h.o (gQ size:Nat)).2.1) h.M ⟨(ay h.o (gQ size:Nat)).2.1,(gQ size:Nat),size⟩},16*(ay h.o (gQ size:Nat)).2.1)
 else({h with F:=unmN (ef h size).1 (ay h.o (gQ size:Nat)).2.1 (ef h size).2},-1)
def zJ(k:ah)(p:Int)(i:Nat):newsK k p (i+1)=if(newsK k p i).2=i then((newK (newsK k p i).1 (p+(i:Nat))).1,if(newK (newsK k p i).1 (p+(i:Nat))).2=true then i+1 else i) else newsK k p i:=rfl
def J5(k:ah)(p:Int):∀i,(newsK k p i).2<=i
 | 0=>v4 _
 | i+1=>by
  have b:=J5 k p i;rw[zJ];by_cases e:(newsK k p i).2=i
  ·rw[CE e]
   show(if _ then i+1 else i)<=i+1;by_cases a:(newK (newsK k p i).1 (p+(i:Nat))).2=true
   ·rw[CE a];exact v4 _
   rw[CC a];exact Nat.le_succ _
  rw[CC e];omega
def kj{k:ah}{p:Int}{i:Nat}(h:(newsK k p i).2≠i):∀j,newsK k p (i+j)=newsK k p i/\(newsK k p (i+j)).2<i+j
 | 0=>⟨rfl,by show(newsK k p i).2<i;have:=J5 k p i;omega⟩
 | j+1=>by
  have a:=kj h j;have e:newsK k p (i+(j+1))=newsK k p (i+j):=by
   show newsK k p (i+j+1)=_;rw[zJ,CC ω]
  exact⟨e.trans a.1,by rw[e];omega⟩
def BP(h:ac)(size:Int)(l:bc h [])(C:9<=size/\size<=1000)(V:h.F.Calls<=90000):zzB 222 false [.ptr (bL h),.val none [I size]] [.ptr (bL (BU h size).1),.val none [I size]] .one [I (BU h size).2]:=by
 have E:=l.lens;have W:=E.larges;have Q:=l;have F:fo h<=32:=E.ents;have G:fF size=((gQ size:Nat):Int):=by unfold fF gQ;split<;>omega
 have hN:1<=gQ size/\gQ size<=63:=by unfold gQ;omega
 have H:=nJ size;rw[G]at H;have R:=iR h;have t:=qQ (fo h:Nat) h.o (gQ size:Nat) ⟨ω,ω⟩ l.rng ⟨ω,ω⟩ (by have:=E.free;omega);unfold Wh at t;have b:=jb l (show(1:Int)<=(gQ size:Nat) by omega);unfold BU ef;generalize gQ size=N at *;generalize ay h.o (N:Nat)=r at t b |-;obtain⟨J,p,ok⟩:=r;simp only at t b |-;refine fM 105 [(373,[2,0]),(374,[2,0]),(2000018,[0,7])] [(2,268,[16,17,18,19,20,21,22,23,15,24,25,26,0,1,2,3,4,5,6,7,8,9,10,11,12,1010,1011,13,1011,14])] [(0,0),(0,0)] Tryz.func222 rfl (λu q=>?_);cases ok with
 | false=>
  rw[CE rfl]
  repeat'(first|refine gP ?_|refine CH (R) ⟨bP h,trivial⟩ ?_|refine CH (t) ⟨⟨rfl,rfl⟩,⟨rfl,ee h.o⟩,⟨rfl,rfl⟩,trivial⟩ ?_)
  refine CL rfl rfl ?_;exact wC
 | true=>
  rw[CC (by simp)];obtain⟨S,K,B,u4⟩:=b rfl;change p+(N:Nat)<=(h.F.G.Q.K.length:Nat) at K;change ∀q:Nat,p<=q->(q:Int)<p+(N:Nat)->(nth h.F.G.Q.K q).j=0 at B
  have X:h.F.G.Q.K.length<=32:=F
  repeat'(first|refine gP ?_|refine CH (R) ⟨bP h,trivial⟩ ?_|refine CH (t) ⟨⟨rfl,rfl⟩,⟨rfl,ee h.o⟩,⟨rfl,rfl⟩,trivial⟩ ?_)
  refine CK (ι:=Nat) (λi=>[(0,.H .box (bL {h with F:=(newsK h.F p i).1})),(1,.H .one [I (size)]),(5,.H .one [I ((N:Nat):Int)]),(6,.H .one (bt .own J)),(7,.H .one [I (p)]),(9,.H .one [I ((i:Nat):Int)])]) (λi=>i<=N/\(newsK h.F p i).2=i) (λi=>N - i) (0) ?_ (⟨Z0 _,rfl⟩) λi l=>?_
  ·exact wC
  obtain⟨L,M⟩:=l;have s:=jY.of (p:=p) (n:=N) Q.ker ω ⟨S,K⟩ B i L;have Y:=s.calls;have Z:=s.len;by_cases li:i<N
  ·have O:(nth (newsK h.F p i).1.G.Q.K (p+(i:Nat)).toNat).j=0:=by
    rw[s.out _ (by rw[M];omega)];exact B _ ω ω
   have c:=J4 {h with F:=(newsK h.F p i).1} (p+(i:Nat)) s.ker (by show(newsK h.F p i).1.Calls≠100000;omega) ⟨ω,by show p+(i:Nat)<((newsK h.F p i).1.G.Q.K.length:Nat);omega⟩ O;have a:newsK h.F p (i+1)=((newK (newsK h.F p i).1 (p+(i:Nat))).1,if(newK (newsK h.F p i).1 (p+(i:Nat))).2=true then i+1 else i):=by
    show(if(newsK h.F p i).2=i then _ else _)=_;rw[CE M]
   simp only at c;cases e:(newK (newsK h.F p i).1 (p+(i:Nat))).2 with
   | true=>
    rw[e]at c a;rw[CE rfl]at a;have P:(newK (newsK h.F p i).1 (p+(i:Nat))).1=(newsK h.F p (i+1)).1:=by rw[a]
    rw[P]at c
    refine ZE ?_
    (refine CG (i+1) ⟨ω,by rw[a]⟩ ω ?_;(exact wC))
   | false=>
    rw[e]at c a;rw[CC (by simp)]at a;have d:=kj (k:=h.F) (p:=p) (i:=i+1) (by rw[a];simp only;omega) (N - (i+1));rw[show i+1+(N - (i+1))=N by omega]at d;rw[d.1]at d;have T:=jY.of (p:=p) (n:=N) Q.ker ω ⟨S,K⟩ B (i+1) ω;rw[CC (by have:=kj (k:=h.F) (p:=p) (i:=i+1) (by rw[a];simp only;omega) (N - (i+1));rw[show i+1+(N - (i+1))=N by omega]at this;omega)];rw[show newsK h.F p N=newsK h.F p (i+1) by have:=kj (k:=h.F) (p:=p) (i:=i+1) (by rw[a];simp only;omega) (N - (i+1));rw[show i+1+(N - (i+1))=N by omega]at this;exact this.1];rw[a]at T |-;have g:=T.ker;simp only at g |-;generalize (newK (newsK h.F p i).1 (p+(i:Nat))).1=k at c g |-
    refine ZE ?_
    refine CK (ι:=Nat) (λj=>[(0,.H .box (bL {h with F:=unmN k p j})),(1,.H .one [I (size)]),(5,.H .one [I ((N:Nat):Int)]),(7,.H .one [I (p)]),(9,.H .one [I ((i:Nat):Int)]),(10,.H .one [I ((j:Nat):Int)])]) (λj=>j<=i) (λj=>i - j) (0) ?_ (Z0 _) λj hj=>?_
    ·exact wC
    have c4:=oM {h with F:=unmN k p j} (p+(j:Nat)) (io g p j);by_cases lj:j<i
    ·refine ZE ?_
     (refine CG (j+1) ω ω ?_;(exact wC))
    obtain rfl:j=i:=ω
    refine ZE ?_
    refine CL rfl rfl ?_;exact wC
  obtain rfl:i=N:=ω
  rw[CE M];generalize (newsK h.F p i).1=k
  refine ZE ?_
  refine CK (ι:=Nat) (λm=>[(0,.H .box (bL {h with F:=k,o:=J})),(1,.H .one [I (size)]),(5,.H .one [I ((i:Nat):Int)]),(7,.H .one [I (p)]),(11,.H .one [I ((m:Nat):Int)])]) (λm=>m<=h.M.length/\∀(j:Nat)(z:aE),j<m->h.M[j]? = some z->Tq p z=false) (λm=>h.M.length - m) (0) ?_ (⟨Z0 _,λj z hj=>ω⟩) λm hm=>?_
  ·exact wC
  obtain⟨hm',U⟩:=hm;have hl2:({h with F:=k,o:=J} : ac).M.length=h.M.length:=rfl;by_cases go:m<h.M.length/\(nth h.M m).R<p
  ·have o:=ar go.1
   refine ZE ?_
   (refine CG (m+1) ⟨ω,eA o (X0 ω) U⟩ ω ?_;(exact wC))
  have w:jE (Tq p) h.M=m:=ng ω U λz C=>by
   have hlt:=(I3.1 C).1;have:z=nth h.M m:=(bq C).symm;subst this;exact O0 ω
  have o:m<h.M.length->h.M[m]? = some (nth h.M m):=λhh=>ar hh
  rw[mT w]
  repeat'(first|refine gE ?_|with_reducible (first|refine CF (aa (o ω)) ?_|refine Bf.D (λhq=>?_) (λhq=>?_))|refine CJ rfl (aa (o ω)) rfl ?_|refine JT.mk rfl (vE h.M) rfl ?_|refine CY m rfl (by rw[O1];omega) (aO λ_=>rfl) C5 ?_|refine Cb m rfl (by rw[O1];omega) (aO λ_=>rfl) I5 ?_|refine CT (λ_=>rfl) (λ_=>rfl) (by rw[O2];omega) (by decide) ?_|refine Ap.sn (aO λ_=>rfl) rfl (by rw[O1,O2];omega) (by decide) rfl ?_|refine Ap.ins (e:=aE.enc .U) (y:=⟨p,(i:Nat),size⟩) rfl (λ_=>rfl) (λ_=>rfl) ω (by decide) ?_)
  all_goals
   refine CL rfl ?_ ?_
   ·exact C1 (λz=>[I z]) ω
   exact wC
def xt{k:ah}(h:aD k=true)(b:fm k.u):ah.wf k:=by
 obtain⟨p,f,g,q,t⟩:=aC.1 h;obtain⟨u,w,y,A⟩:=aZ.1 f;obtain⟨i,B,C⟩:=bo.1 g;refine⟨⟨⟨⟨ω,λr b=>?_⟩,⟨ω,λ_ _=>trivial⟩⟩,⟨ω,λe l=>?_⟩⟩,⟨ω,ω⟩,b⟩
 ·obtain⟨j,c,rfl⟩:=aR b
  obtain⟨D,n⟩:=vH h c;exact⟨ω,λv o=>by have:=n v o;exact⟨ω,ω⟩⟩
 obtain⟨j,c,rfl⟩:=aR l;have a:=i j c;unfold lD at a;rw[C0]at a;by_cases d:(nth k.G.Q.K j).j=0
 ·have:=a.2.2.1 d;exact⟨⟨ω,ω⟩,⟨ω,ω⟩⟩
 have:=a.2.2.2 d;exact⟨⟨ω,ω⟩,⟨ω,ω⟩⟩
def MW{p:cn}(h:fk p=true):cn.wf p:=by
 have a:=λi b=>fU h (i:=i) b
 have e:p.T.length<=16:=mc h;unfold fk at h;simp only[I0,C0]at h;exact⟨⟨ω,ω⟩,⟨ω,ω⟩,⟨ω,λv c=>by
   obtain⟨j,d,rfl⟩:=aR c;have:=a j d;exact⟨ω,ω⟩⟩⟩
variable{E:List Int}
def bc.jobWf(a:bc h E):cz.wf h.Y/\cz.sml h.Y:=by
 cases b:h.q with
 | true=>
  obtain⟨c,f,g,i,j⟩:=cW.1 (a.job b).1;have k:=mc c;exact⟨⟨MW c,⟨ω,ω⟩,⟨ω,ω⟩⟩,by show h.Y.X.T.length<=1048576;omega⟩
 | false=>
  have:=a.noj b;unfold rZ at this;rw[C0]at this;obtain⟨l,n,e,o,p⟩:=this;refine⟨⟨⟨⟨ω,ω⟩,⟨ω,ω⟩,⟨ω,λv d=>?_⟩⟩,⟨ω,ω⟩,⟨ω,ω⟩⟩,by show h.Y.X.T.length<=1048576;omega⟩;rw[X9 e]at d;cases d
def yE{n:Int}(h:0<=aL n):1<=n/\n<=8:=by
 unfold aL at h
 repeat' split at h
 all_goals omega
def jZ.wf(b:bc h E){a:Int}(d:jZ h.J a c):oy a:=by
 have:=d.bd b;exact⟨ω,ω⟩
def bc.wf(d:bc h E)(M:fm h.F.u):ac.wf h:=by
 have q:=d.lens;have r:=d.L;have D:=d.nums;unfold cx at D;rw[C0]at D;obtain⟨X,N,Y⟩:=gN.1 d.rng;obtain⟨O,-,-,Z,q5,-⟩:=kT.1 d.quar;have w:=d.mail;have k:=d.hfl;unfold aV at k;rw[CE w]at k;unfold bT at w;simp only[I0,C0,cI,iF,v5,o6,Tz]at w;obtain⟨⟨⟨m1,m2,m3⟩,P⟩,m5⟩:=w;have A:=q.free;have Q:=q.spans;have h3:=q.larges;have h4:=q.objs;have h5:=q.caches;have h6:=q.quar;have t:∀n:Nat,bI h.w n<=bI h.w (n+1):=λn=>by simp only[bI];omega
 have g:∀a b:Nat,a<=b->bI h.w a<=bI h.w b:=λa b u=>by
  induction u with
  | refl=>exact Y6 _
  | step _ R=>exact X6 R (t _)
 have B:∀n:Nat,0<=bI h.w n:=λn=>g 0 n (Z0 _)
 have o:∀i,i<h.w.V.length->(nth h.w.V i).length<=30/\(nth h.w.a2 i).length<=30:=λi f=>by
  have F:=g (i+1) h.w.V.length ω;have S:=B i;simp only[bI]at F;omega
 refine⟨xt d.ker M,⟨ω,λx e=>?_⟩,⟨ω,λx e=>?_⟩,⟨ω,λx e=>?_⟩,⟨ω,λx e=>?_⟩,⟨ω,λx e=>?_⟩,⟨⟨ω,λl c=>?_⟩,⟨ω,λl c=>?_⟩⟩,⟨⟨ω,ω⟩,⟨ω,λx e=>?_⟩⟩,⟨ω,ω⟩,⟨ω,ω⟩,⟨ω,ω⟩,⟨ω,ω⟩,trivial,d.jobWf.1⟩
 ·have:=N x e;exact⟨⟨ω,ω⟩,⟨ω,ω⟩⟩
 ·have y:=r.sok x e
  have G:=dU y;have T:=aI y;exact⟨⟨ω,ω⟩,⟨ω,ω⟩,⟨ω,ω⟩⟩
 ·have H:=aW (r.lok x e)
  have J:=de (r.lok x e);exact⟨⟨ω,ω⟩,⟨ω,ω⟩,⟨ω,ω⟩⟩
 ·obtain⟨o1,o2,o3,o4⟩:=d.onu x e
  have u:0<=x.Addr/\x.Addr<512/\-1000<=x.y/\x.y<=1000:=by
   rcases d.oow x e with⟨s,y,A,Q⟩|⟨l,c,F,S⟩
   ·have T:=aI (r.sok s y)
    have:=yE (n:=x.y) ω;exact⟨by have:=A.1;omega,by have:=A.2.1;omega,ω,ω⟩
   have H:=aW (r.lok l c);have J:=de (r.lok l c);omega
  exact⟨⟨ω,ω⟩,⟨ω,ω⟩,⟨ω,ω⟩,⟨ω,ω⟩⟩
 ·obtain⟨c1,U⟩:=q.lists x e
  refine⟨ω,λl c=>⟨by have:=U l c;omega,λa C=>?_⟩⟩;obtain⟨j,V,rfl⟩:=aR c;exact jZ.wf d (d.hca x e j V a C)
 ·obtain⟨i,f,rfl⟩:=aR c
  have G:=o i f;refine⟨ω,λp K=>?_⟩;have W:=(P i f).1 p K;exact⟨⟨ω,ω⟩,jZ.wf d (k p.Addr (t4.2 (.inl (List.mem_flatMap.2 ⟨_,au f,O5.2 ⟨p,K,rfl⟩⟩))))⟩
 ·obtain⟨i,f,rfl⟩:=aR c
  have G:=o i ω;exact⟨ω,λa C=>jZ.wf d (k a (t4.2 (.inr (List.mem_flatten.2 ⟨_,au f,C⟩))))⟩
 have H:=O x e;have J:=d.snc x e;exact⟨jZ.wf d (d.hqu x e),⟨ω,ω⟩,⟨ω,ω⟩⟩
structure Ww(h:ac):Prop where
 ker:aD h.F=true
 wf:ac.wf h
 sml:ac.sml h
 lens:pW h
def bc.fit(a:bc h E)(b:fm h.F.u)(c:aP.sml h.w):Ww h:=⟨a.ker,a.wf b,a.lens.sml a.ker c a.jobWf.2,a.lens⟩
def bc.mStep0(b:bc h [])(c:h.q=true)(a:m9 h=false):bc (Ab.mStep h) []:=by
 have s:=JS.of b c;unfold m9 at a;rw[C6]at a;unfold Ab.mStep;generalize (eE h.F h.Y).1=k at s a |-;generalize (eE h.F h.Y).2=j at s a |-;cases e:over j with
 | true=>exact b.step s.ker s.len (s.pg (.inl a)) (λh=>by simp at h) (λ_=>by simp[rZ])
 | false=>
  simp only[Bool.false_eq_true,if_false];exact b.step s.ker s.len (s.pg (.inl a)) (λ_=>⟨cW.2 ⟨by rw[s.plan];exact(cW.1 (b.job c).1).1,s.ph.1,s.ph.2,s.nxt⟩,by rw[s.plan];exact(b.job c).2⟩) (λh=>by rw[c]at h;cases h)
def oY(b:bc h [])(c:h.q=true):aD (mStep h).F=true/\(mStep h).F.Calls<=h.F.Calls+1/\(mStep h).F.u=h.F.u/\(mStep h).w=h.w/\(m9 h=true->(mStep h).q=false)/\cz.wf (mStep h).Y/\cz.sml (mStep h).Y:=by
 have s:=JS.of b c;refine⟨s.ker,s.calls.2.1,s.calls.2.2,rfl,λa=>?_,?_⟩
 ·unfold m9 at a
  rw[C0]at a;show(if over _=true then false else h.q)=false;rw[CE (show over (eE h.F h.Y).2=true from O0 (.inl a))]
 show cz.wf (if over _=true then _ else _)/\cz.sml (if over _=true then _ else _);split
 ·exact⟨⟨⟨⟨by decide,by decide⟩,⟨by decide,by decide⟩,⟨by decide,λv f=>by cases f⟩⟩,⟨by decide,by decide⟩,⟨by decide,by decide⟩⟩,by show(0:Nat)<=1048576;omega⟩
 have d:=(cW.1 (b.job c).1).1;have g:=mc d;obtain⟨j,k⟩:=s.ph;obtain⟨l,i⟩:=s.nxt;have e:=s.plan;refine⟨⟨by rw[e];exact MW d,⟨ω,ω⟩,⟨ω,by rw[e]at i;omega⟩⟩,by show((eE h.F h.Y).2.X.T).length<=1048576;rw[e];omega⟩
def L1(a:pW h)(b:aD (mStep h).F=true):pW (mStep h):=by
 obtain⟨n,c,d,o,p,q,e⟩:=aC.1 b;obtain⟨t,f,u,g⟩:=aZ.1 c;obtain⟨w,y,i⟩:=bo.1 d;refine⟨f,λr k=>?_,ω,i,e,a.free,a.spans,a.larges,a.objs,a.caches,a.lists,a.quar⟩;obtain⟨j,l,rfl⟩:=aR k;have:=g j l;unfold iB at this;simp only[I0,C0]at this;exact this.1
def f9(h:ac):Nat->ac × Bool
 | 0=>(h,false)
 | i+1=>if(f9 h i).1.q=true then(mStep (f9 h i).1,m9 (f9 h i).1) else f9 h i
def fin(h:ac):ac × Bool:=f9 h 100
structure UM(h:ac)(c:Int)(g:ac × Bool):Prop where
 inv:g.2=false->bc g.1 []
 done:g.2=true->g.1.q=false
 fit:Ww g.1
 calls:g.1.F.Calls<=h.F.Calls+c
 ref:g.1.F.u=h.F.u
 mail:g.1.w=h.w
def xZ{h:ac}(f:bc h [])(g:fm h.F.u)(j:aP.sml h.w):∀i:Nat,UM h i (f9 h i)
 | 0=>⟨λ_=>f,λe=>(by cases e),f.fit g j,by show h.F.Calls<=h.F.Calls+((0:Nat):Int);omega,rfl,rfl⟩
 | i+1=>by
  have b:=xZ f g j i;unfold f9;split
  ·rename_i e
   have n:(f9 h i).2=false:=by
    cases o:(f9 h i).2 with
    | false=>rfl
    | true=>rw[b.done o]at e;cases e
   have k:=b.inv n;obtain⟨d,w,l,p,q,r,t⟩:=oY k e;have y:=b.calls;have a:=b.fit.wf;have c:=b.fit.sml;refine⟨λu=>k.mStep0 e u,q,⟨d,?_,?_,L1 b.fit.lens d⟩,by simp only;omega,l.trans b.ref,p.trans b.mail⟩
   ·exact⟨xt d (by rw[l,b.ref];exact g),a.2.1,a.2.2.1,a.2.2.2.1,a.2.2.2.2.1,a.2.2.2.2.2.1,a.2.2.2.2.2.2.1,a.2.2.2.2.2.2.2.1,a.2.2.2.2.2.2.2.2.1,a.2.2.2.2.2.2.2.2.2.1,a.2.2.2.2.2.2.2.2.2.2.1,a.2.2.2.2.2.2.2.2.2.2.2.1,trivial,r⟩
   exact⟨bk d,c.2.1,c.2.2.1,c.2.2.2.1,c.2.2.2.2.1,c.2.2.2.2.2.1,c.2.2.2.2.2.2.1,c.2.2.2.2.2.2.2.1,t⟩
  exact⟨b.inv,b.done,b.fit,by have:=b.calls;omega,b.ref,b.mail⟩
def Qr(a:bc h [])(b:fm h.F.u)(c:aP.sml h.w):UM h (100:Nat) (fin h):=xZ a b c 100
def D1{h:ac}{i:Nat}(a:(f9 h i).1.q=false):∀k,f9 h (i+k)=f9 h i
 | 0=>rfl
 | k+1=>by
  have b:=D1 a k;have c:f9 h (i+(k+1))=if(f9 h (i+k)).1.q=true then(mStep (f9 h (i+k)).1,m9 (f9 h (i+k)).1) else f9 h (i+k):=rfl
  rw[c,b,CC (by rw[a];simp)]
def PF(a:(f9 h i).1.q=false)(b:i<=100):fin h=f9 h i:=by
 have:=D1 a (100 - i)
 rwa [show i+(100 - i)=100 by omega]at this
def qU(hi:bc h []):bc (started h).1 []/\(started h).1.F=h.F/\(started h).1.w=h.w:=by
 have r:=hi.nums;unfold cx at r;rw[C0]at r;have t:=(kQ (bp h).length (show 0<=h.b3/\h.b3<=1073741823 by omega) ((bp h).length - 1)).2;have g:=my (bp h) (show 0<=h.b3/\h.b3<=1073741823 by omega);have c:cx {h with b3:=(shuf (bp h).length h.b3).2} = true:=by
  unfold cx;rw[C0];unfold shuf;simp only;omega
 cases j:jF (bp h) h.b3 with
 | nil=>
  have f:Ab.started h=({h with b3:=(shuf (bp h).length h.b3).2},false):=by unfold Ab.started;rw[j]
  rw[f];exact⟨{hi with nums:=c},rfl,rfl⟩
 | cons q y=>
  obtain⟨C,D,k⟩:=g q (by rw[j];exact X2 ..);have f:Ab.started h=({h with b3:=(shuf (bp h).length h.b3).2,q:=true,Y:=ur (dl (nth (bp h) q.A.toNat) (nth (bp h) q.B.toNat))},true):=by unfold Ab.started;rw[j]
  rw[f];have d:∀s∈bp h,s∈h.J:=λs u=>ot h (v4 _) s (List.mem_of_mem_take u)
  have l:=d _ (au (xs:=bp h) (i:=q.A.toNat) ω);have n:=d _ (au (xs:=bp h) (i:=q.B.toNat) ω);generalize nth (bp h) q.A.toNat=a at k l |-;generalize nth (bp h) q.B.toNat=b at k n |-;obtain⟨w,E,F⟩:=rh k;have o:jX (ur (dl a b))=true:=cW.2 ⟨w,by show(0:Int)<=0;omega,by show(0:Int)<=5;omega,by show(0:Int)<=0;omega,by show(0:Int)<=(((dl a b).T.length:Nat):Int);omega⟩;have p:(∃s∈h.J,s.R=(dl a b).a3)/\∃s∈h.J,s.R=(dl a b).a0:=by
   unfold dl;split
   ·exact⟨⟨b,n,rfl⟩,⟨a,l,rfl⟩⟩
   exact⟨⟨a,l,rfl⟩,⟨b,n,rfl⟩⟩
  exact⟨{hi with nums:=c,job:=λ_=>⟨o,p⟩,noj:=λe=>by cases e},rfl,rfl⟩
def ic(h:ac):Nat->ac × Nat
 | 0=>((fin h).1,(fin h).2.toNat)
 | i+1=>if(meshSt (ic h i).1).2=true then((fin (meshSt (ic h i).1).1).1,(ic h i).2+(fin (meshSt (ic h i).1).1).2.toNat) else((meshSt (ic h i).1).1,(ic h i).2)
structure QG(h:ac)(i:Nat)(g:ac × Nat):Prop where
 fit:Ww g.1
 calls:g.1.F.Calls<=h.F.Calls+100*(i+1)
 ref:g.1.F.u=h.F.u
 mail:g.1.w=h.w
 cnt:g.2<=i+1
def Er(d:Ww h)(f:fm h.F.u)(g:aP.sml h.w):Ww (meshSt h).1/\(meshSt h).1.F=h.F/\(meshSt h).1.w=h.w/\((meshSt h).2=true->bc (meshSt h).1 []):=by
 unfold meshSt;split
 ·rename_i e
  obtain⟨a,b,c⟩:=qU (bc.of e.2);exact⟨a.fit (by rw[b];exact f) (by rw[c];exact g),b,c,λ_=>a⟩
 exact⟨d,rfl,rfl,λe=>by cases e⟩
def u9{h:ac}(k:bc h [])(c:fm h.F.u)(d:aP.sml h.w):∀i:Nat,QG h i (ic h i)
 | 0=>by
  have s:=Qr k c d;show QG h 0 ((fin h).1,(fin h).2.toNat);generalize fin h=f at s |-;have l:f.2.toNat<=1:=by cases f.2<;>decide
  exact⟨s.fit,by have:=s.calls;show f.1.F.Calls<=_;omega,s.ref,s.mail,l⟩
 | i+1=>by
  have a:=u9 k c d i;obtain⟨n,b,g,o⟩:=Er a.fit (by rw[a.ref];exact c) (by rw[a.mail];exact d);have p:=a.calls;have q:=a.cnt;unfold ic;split
  ·rename_i e
   have s:=Qr (o e) (by rw[b,a.ref];exact c) (by rw[g,a.mail];exact d);generalize fin (meshSt (ic h i).1).1=f at s |-;have l:f.2.toNat<=1:=by cases f.2<;>decide
   have j:=s.calls;rw[b]at j;exact⟨s.fit,by show f.1.F.Calls<=_;omega,s.ref.trans (by rw[b];exact a.ref),s.mail.trans (g.trans a.mail),by simp only;omega⟩
  exact⟨n,by simp only[b];omega,by simp only[b];exact a.ref,g.trans a.mail,by simp only;omega⟩
def bc.objSz(a:bc h E):∀o∈h.O,0<=o.y/\o.y<=1000:=λx c=>by
 rcases a.oow x c with⟨s,d,e,f⟩|⟨l,b,g,i⟩
 ·have j:=aI (a.L.sok s d)
  have:=yE (n:=x.y) ω;omega
 have k:=de (a.L.lok l b);omega
def Ew(t:Int){size:Int}(c:bc h [])(d:9<=size/\size<=1000):largeA h t size=if(BU h size).2<0 then((BU h size).1,-1,4) else(addO (BU h size).1 (BU h size).2 size t,(BU h size).2,0):=by
 unfold largeA BU;by_cases a:(ay h.o (gQ size:Nat)).2.2=false
 ·rw[CE a,CE a]
  exact(CE (show(-1:Int)<0 by decide)).symm
 rw[CC a,CC a];obtain⟨e,-⟩:=jb c (show(1:Int)<=(gQ size:Nat) by unfold gQ;omega) (by simpa using a);by_cases b:(ef h size).2=gQ size
 ·rw[CE b,CE b]
  exact(CC (show ¬16*(ay h.o (gQ size:Nat)).2.1<0 by omega)).symm
 rw[CC b,CC b];exact(CE (show(-1:Int)<0 by decide)).symm
def B8(h:ac)(t size:Int)(k:bc h []):zzB 74 false [.ptr (bL h),.val none [I t],.val none [I size]] [.ptr (bL (allocH h t size).1),.val none [I t],.val none [I size]] (.tup [none,none]) [I (allocH h t size).2.1,I (allocH h t size).2.2]:=by
 have X:=k.lens;have hlc:=X.caches;have P:=X.objs;have p:=k.nums;unfold cx at p;rw[C0]at p;have Q:=om k.objSz h.O.length (v4 _);change 0<=iw h/\iw h<=_ at Q;have n:=aK t 0 ((h.S.length:Int) - 1);have r:=aK size 1 1000;have E:=yh h k.objSz ω;have F:=lQ size;refine fM 119 [(221,[2,0,0]),(222,[2,0])] [(7,10,[36,37,38,39,40,41,42,43,44,45]),(18,272,[81,82,83,84,85,86,87,89,90,91,92,93,94,95,96,97,0,1,2,3,4,5,6,8,9,10,11,12,13,14,15,16,1016,7,1008,1009,1010,1011,1012,1013,1014,1015,1016,17,18]),(1048594,0,[8])] [(0,0),(0,0),(0,0)] Tryz.func74 rfl (λu q=>?_) (.inr ⟨trivial,trivial,trivial⟩);unfold allocH;by_cases h1:1000000<=h.b
 ·rw[CE (.inl h1)]
  refine ZE ?_
  refine CL rfl rfl ?_;exact wC
 by_cases h2:90000<h.F.Calls
 ·rw[CE (.inr h2)]
  repeat'(first|refine gE ?_|with_reducible refine Bf.D (λb=>?_) (λb=>?_))
  refine CL rfl rfl ?_;exact wC
 rw[CC ω];by_cases C:¬(0<=t/\t<=h.S.length - 1)
 ·rw[CE C]
  rw[X0 C]at n
  repeat'(first|refine gE ?_|with_reducible refine Bf.D (λb=>?_) (λb=>?_))
  refine CL rfl rfl ?_;exact wC
 rw[CC C];replace C:=Decidable.not_not.1 C;rw[O0 C]at n;by_cases B:¬(1<=size/\size<=1000)
 ·rw[CE B]
  rw[X0 B]at r
  repeat'(first|refine gE ?_|with_reducible refine Bf.D (λb=>?_) (λb=>?_))
  refine CL rfl rfl ?_;exact wC
 rw[CC B];replace B:=Decidable.not_not.1 B;rw[O0 B]at r;by_cases Y:h.b1<iw h+size
 ·rw[CE Y]
  repeat'(first|refine gE ?_|with_reducible refine Bf.D (λb=>?_) (λb=>?_)|refine CH (E) ⟨⟨rfl,bP h⟩,trivial⟩ ?_)
  refine CL rfl rfl ?_;exact wC
 rw[CC Y];by_cases G:0<=aL size
 ·rw[CE G]
  have hc3:aL size<=3:=by unfold aL;repeat' split<;>omega
  obtain⟨T,rfl⟩:=Z3 C.1;obtain⟨K,hK⟩:=Z3 G;have o:=Dg h T K k ω ω ω;have s:=ov (t:=T) (c:=K) k ω ω ω;rw[hK]at F |-;simp only[Y3];generalize smallA h T K=w at o s |-;obtain⟨g,a⟩:=w;have H:g.b=h.b:=s.nx;simp only at o |-;by_cases J:a<0
  ·rw[CE J]
   repeat'(first|refine gE ?_|with_reducible refine Bf.D (λb=>?_) (λb=>?_)|refine CH (E) ⟨⟨rfl,bP h⟩,trivial⟩ ?_)
   refine CL rfl rfl ?_;exact wC
  rw[CC J];obtain⟨k1,k2⟩:=s.yes (show(0:Int)<=a by omega);have R:g.O.length<=512:=k1.lens.objs
  repeat'(first|refine gE ?_|with_reducible refine Bf.D (λb=>?_) (λb=>?_)|refine CH (E) ⟨⟨rfl,bP h⟩,trivial⟩ ?_)
  refine CK (ι:=Nat) (λi=>[(0,.H .box (bL g)),(1,.H .one [I ((T:Nat):Int)]),(2,.H .one [I (size)]),(8,.H .one [I (a)]),(9,.H .one [I ((i:Nat):Int)])]) (λi=>i<=g.O.length/\∀(j:Nat)(z:bu),j<i->g.O[j]? = some z->LO a z=false) (λi=>g.O.length - i) (0) ?_ (⟨Z0 _,λj z hj=>ω⟩) λi k=>?_
  ·exact wC
  obtain⟨S,L⟩:=k;by_cases U:i<g.O.length/\(nth g.O i).Addr<a
  ·have d:=ar U.1
   refine ZE ?_
   (refine CG (i+1) ⟨ω,eA d (X0 ω) L⟩ ω ?_;(exact wC))
  have l:jE (LO a) g.O=i:=ng ω L λz M=>by
   have V:=(I3.1 M).1;have:z=nth g.O i:=(bq M).symm;subst this;exact O0 ω
  have d:i<g.O.length->g.O[i]? = some (nth g.O i):=λW=>ar W
  rw[show addO g a size (T:Nat) = {g with O:=g.O.take i++⟨g.b,a,size,(T:Nat)⟩::g.O.drop i,b:=g.b+1} by unfold addO;rw[mT l]]
  repeat'(first|refine gE ?_|with_reducible (first|refine CF (aa (d ω)) ?_|refine Bf.D (λb=>?_) (λb=>?_))|refine CJ rfl (aa (d ω)) rfl ?_|refine JT.mk rfl (xV g.O) rfl ?_|refine CY i rfl (by rw[O1];omega) (aO λ_=>rfl) C5 ?_|refine Cb i rfl (by rw[O1];omega) (aO λ_=>rfl) I5 ?_|refine CT (λ_=>rfl) (λ_=>rfl) (by rw[O2];omega) (by decide) ?_|refine Ap.sn (aO λ_=>rfl) rfl (by rw[O1,O2];omega) (by decide) rfl ?_|refine Ap.ins (e:=bu.enc .U) (y:=⟨g.b,a,size,(T:Nat)⟩) rfl (λ_=>rfl) (λ_=>rfl) ω (by decide) ?_)
  all_goals
   refine CL rfl rfl ?_;exact wC
 rw[CC G];have N:9<=size:=by unfold aL at G;repeat' split at G<;>omega
 have o:=BP h size k ⟨N,B.2⟩ ω;rw[Ew t k ⟨N,B.2⟩];have Z:(BU h size).1.b=h.b/\(BU h size).1.O=h.O:=by
  unfold BU;split
  ·exact⟨rfl,rfl⟩
  split<;>exact⟨rfl,rfl⟩
 generalize BU h size=w at o Z |-;obtain⟨g,a⟩:=w;obtain⟨H,O⟩:=Z;simp only at o H O |-;have R:g.O.length<=512:=by rw[O];exact P
 by_cases J:a<0
 ·rw[CE J]
  repeat'(first|refine gE ?_|with_reducible refine Bf.D (λb=>?_) (λb=>?_)|refine CH (E) ⟨⟨rfl,bP h⟩,trivial⟩ ?_)
  refine CL rfl rfl ?_;exact wC
 rw[CC J]
 repeat'(first|refine gE ?_|with_reducible refine Bf.D (λb=>?_) (λb=>?_)|refine CH (E) ⟨⟨rfl,bP h⟩,trivial⟩ ?_)
 refine CK (ι:=Nat) (λi=>[(0,.H .box (bL g)),(1,.H .one [I (t)]),(2,.H .one [I (size)]),(8,.H .one [I (a)]),(9,.H .one [I ((i:Nat):Int)])]) (λi=>i<=g.O.length/\∀(j:Nat)(z:bu),j<i->g.O[j]? = some z->LO a z=false) (λi=>g.O.length - i) (0) ?_ (⟨Z0 _,λj z hj=>ω⟩) λi k=>?_
 ·exact wC
 obtain⟨S,L⟩:=k;by_cases U:i<g.O.length/\(nth g.O i).Addr<a
 ·have d:=ar U.1
  refine ZE ?_
  (refine CG (i+1) ⟨ω,eA d (X0 ω) L⟩ ω ?_;(exact wC))
 have l:jE (LO a) g.O=i:=ng ω L λz M=>by
  have V:=(I3.1 M).1;have:z=nth g.O i:=(bq M).symm;subst this;exact O0 ω
 have d:i<g.O.length->g.O[i]? = some (nth g.O i):=λW=>ar W
 rw[show addO g a size t = {g with O:=g.O.take i++⟨g.b,a,size,t⟩::g.O.drop i,b:=g.b+1} by unfold addO;rw[mT l]]
 repeat'(first|refine gE ?_|with_reducible (first|refine CF (aa (d ω)) ?_|refine Bf.D (λb=>?_) (λb=>?_))|refine CJ rfl (aa (d ω)) rfl ?_|refine JT.mk rfl (xV g.O) rfl ?_|refine CY i rfl (by rw[O1];omega) (aO λ_=>rfl) C5 ?_|refine Cb i rfl (by rw[O1];omega) (aO λ_=>rfl) I5 ?_|refine CT (λ_=>rfl) (λ_=>rfl) (by rw[O2];omega) (by decide) ?_|refine Ap.sn (aO λ_=>rfl) rfl (by rw[O1,O2];omega) (by decide) rfl ?_|refine Ap.ins (e:=bu.enc .U) (y:=⟨g.b,a,size,t⟩) rfl (λ_=>rfl) (λ_=>rfl) ω (by decide) ?_)
 all_goals
  refine CL rfl rfl ?_;exact wC
def Lr(h:ac)(a n:Int)(t:h.M.length<=4096)(j:∀l∈h.M,bR l=true)(o:Da h a<0):zzB 420 false [.ptr (bL h),.val none [I a],.val none [I n]] [.ptr (bL h),.val none [I a],.val none [I n]] .one [B false]:=by
 have b:∀l∈h.M,l.R*16≠a:=λl c e=>by
  have:=GI (p:=M4 a) c (O0 e);unfold Da at o;omega
 refine fM 136 [(374,[2,0])] [(8,6,[49,50,51,52,53,54]),(9,10,[56,57,58,59,60,61,62,63,64,65]),(20,270,[123,124,125,126,127,128,129,130,131,122,132,133,134,135,0,1,2,3,4,5,6,7,8,9,10,11,12,13,14,1011])] [(0,0),(0,0),(0,0)] Tryz.func420 rfl (λu q=>?_)
 refine ZP ?_
 refine CK (ι:=Nat) (λk=>[(0,.H .box (bL h)),(1,.H .one [I (a)]),(2,.H .one [I (n)]),(7,.H .one [I ((k:Nat):Int)])]) (λk=>k<=h.M.length) (λk=>h.M.length - k) (0) ?_ (Z0 _) λk w=>?_
 ·repeat'(first|exact trivial|rfl |exact nL r|exact nL g|exact dG _|refine CN ?_ ?_|(exact Be (by first|omega|(simp only;omega)|(simp;omega))))
 by_cases d:k<h.M.length
 ·have i:=ar d
  have y:=b _ (au d);have C:=aW (j _ (au d))
  refine ZB ?_
  (refine CG (k+1) ω ω ?_;(exact wC))
 refine ZE ?_
 refine CL rfl rfl ?_;exact wC
def Vo(h:ac)(a:Int)(m:Nat):bL {h with F:=zK h.F a (m+1)} = (bL {h with F:=zK h.F a m}).set 0 (.s .own (((zK h.F a m).G.W.T.map (aH .own)).set (af (zK h.F a m).G.Q ((a+m) / 16)).e.toNat ((aH .own (nth (zK h.F a m).G.W.T (df (zK h.F a m) (a+m)))).set 0 (.s .own (((nth (zK h.F a m).G.W.T (df (zK h.F a m) (a+m))).map (rI .own)).set ((a+m) % 16).toNat (splice (rI .own (nth (nth (zK h.F a m).G.W.T (df (zK h.F a m) (a+m))) ((a+m) % 16).toNat)) 0 [I 0])))))):=
 Mt {h with F:=zK h.F a m} (a+m) 0
def na(h:ac)(i k:Nat)(n:Int)(K:ah):ac:={h with F:=K,M:=h.M.set k (trimL (nth h.M k) n),O:=h.O.set i {nth h.O i with y:=n}}
def NK(h:ac)(i k:Nat)(n:Int)(K:ah):(na h i k n K).O.map (bu.enc .own)=(h.O.map (bu.enc .own)).set i (splice (bu.enc .own (nth h.O i)) 2 [I n]):=by
 simp[na,S8,bu.enc,splice]
def uk(h:ac)(i:Nat)(n:Int)(j:bc h [])(H:i<h.O.length)(hg:0<=Da h (nth h.O i).Addr):zzB 420 false [.ptr (bL h),.val none [I (nth h.O i).Addr],.val none [I n]] [.ptr (bL (if mX h i n then trimH h i (Da h (nth h.O i).Addr).toNat n else h)),.val none [I (nth h.O i).Addr],.val none [I n]] .one [B (decide (mX h i n))]:=by
 have c:=j.lens;have hnl:=c.larges;have hno:=c.objs;have hpg:fo h<=32:=c.ents;obtain⟨f1,f2,f3⟩:=gq (M4 (nth h.O i).Addr) h.M hg;obtain⟨g,o⟩:=Z3 hg;have b:g<h.M.length:=by unfold Da at o;omega
 have Y:(nth h.M g).R*16=(nth h.O i).Addr:=by
  have:=of_decide_eq_true f2;rw[show(cV (M4 (nth h.O i).Addr) h.M).toNat=g by unfold Da at o;omega]at this;exact this
 have J:∀k,k<g->(nth h.M k).R*16≠(nth h.O i).Addr:=λk hk e=>by
  have N:k<h.M.length:=ω
  have hok1:=aW (j.L.lok _ (au N));have hok2:=aW (j.L.lok _ (au b));have:=j.L.one k g N b 0 0 ω ω ω;omega
 have p:mX h i n↔9<=n/\n<=(nth h.M g).y:=by
  unfold mX;rw[o,Y3];exact⟨λx=>x.2,λx=>⟨ω,x⟩⟩
 rw[o,Y3];have hbd:=vW j (au H);obtain⟨-,Z,w⟩:=j.objAt (au H);have hii:sj h (nth h.O i).Addr=i:=by
  have h2:=(j.objAt (au H)).1;exact cX (f:=(·.Addr)) (dw j.osr) h2 H (by rw[Z])
 rw[hii]at w;have E:=ar H;have hxg:=ar b;have V:=AM (nth h.M g) n (j.L.lok _ (au b));have h8:=j.L.lok _ (au b);unfold bR at h8;rw[C0]at h8;refine fM 136 [(374,[2,0])] [(8,6,[49,50,51,52,53,54]),(9,10,[56,57,58,59,60,61,62,63,64,65]),(20,270,[123,124,125,126,127,128,129,130,131,122,132,133,134,135,0,1,2,3,4,5,6,7,8,9,10,11,12,13,14,1011])] [(0,0),(0,0),(0,0)] Tryz.func420 rfl (λu q=>?_)
 refine ZP ?_
 refine CK (ι:=Nat) (λk=>[(0,.H .box (bL h)),(1,.H .one [I ((nth h.O i).Addr)]),(2,.H .one [I (n)]),(7,.H .one [I ((k:Nat):Int)])]) (λk=>k<=g) (λk=>g - k) (0) ?_ (Z0 _) λk hk=>?_
 ·repeat'(first|exact trivial|rfl |exact nL r|exact nL d|exact dG _|refine CN ?_ ?_|(exact Be (by first|omega|(simp only;omega)|(simp;omega))))
 have l:=ar (xs:=h.M) (i:=k) ω;have hfk:=aW (j.L.lok _ (au (xs:=h.M) (i:=k) ω));by_cases e:k=g;rotate_left
 ·have hne:=J k ω
  refine ZB ?_
  (refine CG (k+1) ω ω ?_;(exact wC))
 subst e;by_cases F:9<=n/\n<=(nth h.M k).y;rotate_left
 ·rw[CC (by rw[p];exact F),X0 (by rw[p];exact F)]
  rw[CC F]at V
  refine ZB ?_
  refine CL rfl rfl ?_;exact wC
 rw[CE (by rw[p];exact F),O0 (by rw[p];exact F)];rw[CE F]at V;have y:=λm hm=>z7 j b F (m:=m) hm
 have D:=λm=>(oQ h.F (16*(nth h.M k).R+n) m).1
 have O:=λa W=>kO j b (a:=a) W
 have hsz:n<=16*(nth h.M k).a4:=ω
 generalize hM:(16*((n+15) / 16) - n).toNat=M at *;have hfl:∀m,(zK h.F (16*(nth h.M k).R+n) m).G.W.T.length=h.F.G.W.T.length:=λm=>by
  induction m with
  | zero=>rfl
  | succ m ih=>show(List.set _ _ _).length=_;rw[I2];exact ih
 have cO:=t6 {h with M:=h.M.set k (trimL (nth h.M k) n)} (nth h.O i).Addr (by show h.O.length<=_;omega);change ax _ _ _ [.val (some 24) (ac.enc .U {h with M:=h.M.set k (trimL (nth h.M k) n)}),_] _ [I (cV (nq (nth h.O i).Addr) h.O)]at cO;rw[w]at cO;have Q:=bP {h with M:=h.M.set k (trimL (nth h.M k) n)};have heL:bL {h with M:=h.M.set k (trimL (nth h.M k) n)} = (bL h).set 7 (.s .own ((h.M.map (aE.enc .own)).set k (aE.enc .own (trimL (nth h.M k) n)))):=by simp[bL,S8]
 rw[heL]at Q
 repeat'(first|refine gB ?_|refine CR rfl rfl (aa l) rfl (Z1 rfl) rfl ?_|refine CH (cO) ⟨⟨rfl,Q⟩,⟨rfl,rfl⟩,trivial⟩ ?_|refine CR rfl rfl (aa E) rfl (Z1 rfl) rfl ?_)
 rw[<-Y];have e0:na h i k n h.F=na h i k n (zK h.F (16*(nth h.M k).R+n) 0):=rfl;have r:C.s .own ((na h i k n (zK h.F (16*(nth h.M k).R+n) 0)).M.map (aE.enc .own))=C.s .own ((h.M.map (aE.enc .own)).set k (aE.enc .own (trimL (nth h.M k) n))):=by simp[na,S8]
 have d:C.s .own ((na h i k n (zK h.F (16*(nth h.M k).R+n) 0)).O.map (bu.enc .own))=C.s .own ((h.O.map (bu.enc .own)).set i (splice (bu.enc .own (nth h.O i)) 2 [I n])):=C1 _ (NK h i k n _)
 (conv=>whnf)
 refine CK (ι:=Nat) (λm=>[(0,.H .box (bL (na h i k n (zK h.F (16*(nth h.M k).R+n) m)))),(1,.H .one [I (((nth h.M k).R*16))]),(8,.H .box (aE.enc .own (trimL (nth h.M k) n))),(9,.H .box (aB.enc .own (AU (nth h.M k) n))),(11,.H .one [I (((16*(nth h.M k).R+n)+(m:Nat)))])]) (λm=>m<=M) (λm=>M - m) (0) ?_ (Z0 _) λm hm=>?_
 ·repeat'(first|exact trivial|rfl |exact nL r|exact nL d|exact dG _|refine CN ?_ ?_|(exact Be (by first|omega|(simp only;omega)|(simp;omega))))
 have hmod:IntKind.i64.wrap 0=0:=rfl;by_cases lm:m<M
 ·have W:0<=(16*(nth h.M k).R+n)+(m:Nat)/\(16*(nth h.M k).R+n)+(m:Nat)<512:=ω
  have R:=O ((16*(nth h.M k).R+n)+(m:Nat)) ω;have t:=y m hm;rw[<-D m]at R;have hks:=bk t;have c2:=dy (zK h.F (16*(nth h.M k).R+n) m).G.Q (((16*(nth h.M k).R+n)+(m:Nat)) / 16) hks.1.2;obtain⟨-,-,-,q0,q1⟩:=bK t R;have hul:=(aZ.1 (aC.1 t).2.1).2.2.1;have S:df (zK h.F (16*(nth h.M k).R+n) m) ((16*(nth h.M k).R+n)+(m:Nat))<(zK h.F (16*(nth h.M k).R+n) m).G.W.T.length:=by unfold df;omega
  have G:(zK h.F (16*(nth h.M k).R+n) m).G.W.T[(af (zK h.F (16*(nth h.M k).R+n) m).G.Q (((16*(nth h.M k).R+n)+(m:Nat)) / 16)).e.toNat]? = some _:=ar S;have h16:=(vH t S).1;have T:=ar (xs:=nth (zK h.F (16*(nth h.M k).R+n) m).G.W.T (df (zK h.F (16*(nth h.M k).R+n) m) ((16*(nth h.M k).R+n)+(m:Nat)))) (i:=(((16*(nth h.M k).R+n)+(m:Nat)) % 16).toNat) (by rw[h16];omega);have htm:((16*(nth h.M k).R+n)+(m:Nat)).tmod 16=((16*(nth h.M k).R+n)+(m:Nat)) % 16:=eK W.1;have hpu:=Vo (na h i k n h.F) (16*(nth h.M k).R+n) m;have hwr:=qB W;have hst:(trimL (nth h.M k) n).a4=(n+15) / 16:=rfl
  repeat'(first|refine gE ?_|refine CQ (by decide) ?_|refine CP hwr ?_|refine CU htm ?_|refine CH (c2) ⟨⟨rfl,Cf _⟩,⟨rfl,rfl⟩,trivial⟩ ?_|refine CO q0 (aa G) ?_|refine CO ω (aa T) ?_|refine Pu.two rfl rfl (aa G) rfl rfl rfl (aa T) rfl (v4 _) hpu ?_)
  (refine CG (m+1) ω ω ?_;(exact wC))
 obtain rfl:m=M:=ω
 have hst:(trimL (nth h.M k) n).a4=(n+15) / 16:=rfl;have hkM:=y m (v4 _);have U:(zK h.F (16*(nth h.M k).R+n) m).G.Q.K.length=fo h:=by rw[D];rfl
 have hTK:lE h k n=zK h.F (16*(nth h.M k).R+n) m:=by unfold lE;rw[hM]
 unfold trimH Mq;rw[hTK];generalize zK h.F (16*(nth h.M k).R+n) m=K at *;have hN:((dP (nth h.M k) n:Nat):Int)=(nth h.M k).a4 - (n+15) / 16:=by unfold dP;omega
 have hrA:0<dP (nth h.M k) n->AU (nth h.M k) n = ⟨(nth h.M k).R+(n+15) / 16,(dP (nth h.M k) n:Nat)⟩:=λhp=>by unfold AU;rw[CE ω,hN]
 have hrB:¬0<dP (nth h.M k) n->AU (nth h.M k) n = ⟨0,0⟩:=λhp=>by unfold AU;rw[CC ω]
 generalize dP (nth h.M k) n=P at *;by_cases X:0<P
 ·rw[CE X]
  have hr:=hrA X;rw[hr]
  refine ZE ?_
  refine CK (ι:=Nat) (λx=>[(0,.H .box (bL (na h i k n (unmN K ((nth h.M k).R+(n+15) / 16) x)))),(9,.H .box ([I ((nth h.M k).R+(n+15) / 16),I (P:Nat)])),(13,.H .one [I (((nth h.M k).R+(n+15) / 16+(x:Nat)))])]) (λx=>x<=P) (λx=>P - x) (0) ?_ (Z0 _) λx l=>?_
  ·repeat'(first|exact trivial|rfl |exact nL r|exact nL d|exact dG _|refine CN ?_ ?_|(exact Be (by first|omega|(simp only;omega)|(simp;omega))))
  by_cases lx:x<P
  ·have c3:=oM (na h i k n (unmN K ((nth h.M k).R+(n+15) / 16) x)) ((nth h.M k).R+(n+15) / 16+(x:Nat)) (io hkM _ _)
   refine ZE ?_
   (refine CG (x+1) ω ω ?_;(exact wC))
  obtain rfl:x=P:=ω
  have c4:=iR (na h i k n (unmN K ((nth h.M k).R+(n+15) / 16) x));rw[show fo (na h i k n (unmN K ((nth h.M k).R+(n+15) / 16) x))=fo h from(eZ _ _ _).1.trans U]at c4;have c5:=np (fo h:Nat) h.o ⟨(nth h.M k).R+(n+15) / 16,(x:Nat)⟩ ⟨ω,ω⟩ ⟨by have:=c.free;omega,λ_ _=>trivial⟩
  repeat'(first|refine gE ?_|refine CH (c4) ⟨bP _,trivial⟩ ?_|refine CH (c5) ⟨⟨rfl,rfl⟩,⟨rfl,ee h.o⟩,⟨rfl,rfl⟩,trivial⟩ ?_)
  refine CL rfl rfl ?_;exact wC
 rw[CC X];obtain rfl:P=0:=ω
 have hr:=hrB X;rw[hr]
 refine ZE ?_
 refine CK (ι:=Nat) (λx=>[(0,.H .box (bL (na h i k n K))),(9,.H .box ([I 0,I 0])),(13,.H .one [I (0)])]) (λx=>x=0) (λx=>0) (0) ?_ (rfl) λx l=>?_
 ·repeat'(first|exact trivial|rfl |exact nL r|exact nL d|exact dG _|refine CN ?_ ?_|(exact Be (by first|omega|(simp only;omega)|(simp;omega))))
 subst l
 refine ZE ?_
 refine CL rfl rfl ?_;exact wC
def Hk{α:Type}(a:α)(k:Nat):List.replicate (k+1) a=List.replicate k a++[a]:=List.replicate_succ' ..
def L8(n k:Nat):aU.enc .own ⟨List.replicate k (List.replicate 16 0),List.replicate n false⟩ = [.s .own (List.replicate k [.s .own (List.replicate 16 [I 0])]),.s .own (List.replicate n [B false])]:=by
 simp[aU.enc,aH,rI,rB,List.map_replicate]
def LL(n:Nat):Rm [.s .own (List.replicate n [.z]),.s .own (List.replicate n [.z]),B true] (aP.enc .own (eR n)++[B true]):=by
 have e:aP.enc .own (eR n)++[B true]=[.s .own (List.replicate n [.s .own []]),.s .own (List.replicate n [.s .own []]),B true]:=by simp[aP.enc,eR,cL,aH,List.map_replicate]
 rw[e];exact .cons (.rep (.cons .z_ .nil)) (.cons (.rep (.cons .z_ .nil)) (.cons (.rfl_ _) .nil))
def T7(n:Nat)(b:1<=n/\n<=4):zzA 200 false [.val none [I (n:Nat)]] (.tup [some 2,none]) (aP.enc .own (eR n)++[B true]):=by
 have a:=aN ((n:Nat):Int) 1 4;rw[O0 ω]at a;refine fO 13 [(3,4,[8,9,10,11])] Tryz.func200 rfl ?_ (.inr (aJ (aP.enc_fr _) ⟨trivial,trivial⟩))
 repeat'((conv=>whnf);first|with_reducible (first|refine Lm ?_|refine Wm ω ?_|refine Bn ?_|refine jV.dk rfl ?_)|refine Bt ?_|refine Bu ?_|refine CD ?_|refine CB (a) ?_|refine Mk.mk n rfl rfl ω (zd ω (by decide)) rfl ?_)
 exact LL n
def FO(n:Nat)(b:1<=n/\n<=4):zzA 413 false [.val none [I (n:Nat)]] (.tup [some 2,none]) (aP.enc .own (eR n)++[B true]):=by
 have a:=aK ((n:Nat):Int) 1 4;rw[O0 ω]at a;refine fO 13 [(3,4,[8,9,10,11])] Tryz.func413 rfl ?_ (.inr (aJ (aP.enc_fr _) ⟨trivial,trivial⟩))
 repeat'((conv=>whnf);first|with_reducible (first|refine Lm ?_|refine Wm ω ?_|refine Bn ?_|refine jV.dk rfl ?_)|refine Bt ?_|refine Bu ?_|refine CD ?_|refine CB (a) ?_|refine Mk.mk n rfl rfl ω (zd ω (by decide)) rfl ?_)
 exact LL n
def RG:Rm [.s .own (List.replicate 4 [.z])] (aF.enc .own gx):=.cons (.rep (.cons .z_ .nil)) .nil
def BI:zzA 414 false [] .agg (aF.enc .own gx):=by
 refine fO 3 [] Tryz.func414 rfl ?_ (.inr (aF.enc_fr _))
 repeat'((conv=>whnf);first|with_reducible (first|refine Lm ?_|refine Wm ω ?_|refine Bn ?_|refine jV.dk rfl ?_)|refine Bt ?_|refine Bu ?_|refine CD ?_|refine Mk.mk 4 rfl rfl (by decide) (by decide) rfl ?_)
 exact RG
def uO:zzA 415 false [.val none [I 16]] (.tup [some 2,none]) (bS.enc .own ⟨16,[]⟩++[B true]):=by
 refine fO 10 [] Tryz.func415 rfl ?_ (.inr (aJ (bS.enc_fr _) ⟨trivial,trivial⟩))
 repeat'((conv=>whnf);first|with_reducible (first|refine Lm ?_|refine Wm ω ?_|refine Bn ?_|refine jV.wk rfl ?_)|refine Bt ?_|refine Bu ?_|refine CD ?_|refine CB (aK 16 0 500) ?_)
 exact⟨rfl,rfl,rfl,trivial⟩
def caps(h:ac)(k:Nat):ac:={h with S:=List.replicate k gx}
def N8(k:Nat):(List.replicate (k+1) gx).map (aF.enc .own)=(List.replicate k gx).map (aF.enc .own)++[aF.enc .own gx]:=by rw[Hk,Z7];rfl
variable{k:Nat}
def Qq : ∀r∈(List.replicate k gx).map (aF.enc .own),r.length=1:=aO λ_=>rfl
def TV(x:List bJ):fz (.s .own (x.map (bJ.enc .own)))=.s .U (x.map (bJ.enc .U)):=(List.cons.inj (List.cons.inj (Cj ⟨0,x⟩)).2).1
def gd:∀a b:List C,dM (a++b)=dM a++dM b
 | [],_=>rfl
 | x::xs,b=>by show fz x::dM (xs++b)=fz x::(dM xs++dM b);rw[gd xs b]
def fh(r:aG)(c:aG.sml r):zzA 281 false [.val (some 2) (aG.enc .U r)] .agg (aG.enc .own r):=by
 have e:r.O.length<=1048576:=c.1;refine fO 36 [(5,272,[15,16,17,18,19,20,21,22,23,24,25,26,27,28,29,34,0,1,2,3,4,5,6,7,8,9,10,11,12,13,14,15,1000,1001,1002,1003,1004,1005,1006,1007,16,1000,1001,17,1000,1001,18,19,20])] Tryz.func281 rfl ?_ (.inr (aG.enc_fr _))
 refine ZP ?_
 refine CK (ι:=Nat) (λi=>[(1,.H .box (aG.enc .U r)),(2,.H .box [I 0,.z]),(3,.H .box [I r.b,.s .own ((r.O.take i).map (bJ.enc .own))]),(4,.H .one [I ((i:Nat):Int)])]) (λi=>i<=r.O.length) (λi=>r.O.length - i) (0) ?_ (Z0 _) λi g=>?_
 ·exact wC
 by_cases b:i<r.O.length
 ·have d:=ar b
  have a:(nth r.O i).T.length<=1048576:=c.2 _ (au b)
  repeat'(first|refine gE ?_|refine CZ (λ_=>rfl) (λ_=>rfl) a (by decide) ?_|refine CT (λ_=>rfl) (λ_=>rfl) a (by decide) ?_|refine Ap.sn (aO λ_=>rfl) rfl (by simp;omega) (by decide) (gy b) ?_)
  (refine CG (i+1) ω ω ?_;(exact wC))
 refine ZE ?_
 obtain rfl:i=r.O.length:=ω
 rw[C7]
 rfl
def jg(r:aG)(id:Int)(g:r.O.length<=1048576):zzA 516 false [.val (some 2) (aG.enc .U r),.val none [I id]] .one [I (pZ r id)]:=by
 refine fO 22 [] Tryz.func516 rfl ?_
 refine ZP ?_
 refine CK (ι:=Nat) (λi=>[(1,.H .one [I (id)]),(2,.H .box (aG.enc .U r)),(5,.H .one [I ((i:Nat):Int)])]) (λi=>i<=r.O.length/\∀(j:Nat)(z:bJ),j<i->r.O[j]? = some z->pB id z=false) (λi=>r.O.length - i) (0) ?_ (⟨Z0 _,λj z h=>ω⟩) λi c=>?_
 ·exact wC
 obtain⟨c,b⟩:=c;by_cases d:i<r.O.length
 ·have a:=ar d
  by_cases e:(nth r.O i).Id=id
  ·refine ZB ?_
   exact C1 (λz=>[I z]) (dE a (O0 e) b).symm
  refine ZB ?_
  (refine CG (i+1) ⟨ω,eA a (X0 e) b⟩ ω ?_;(exact wC))
 refine ZE ?_
 exact C1 (λz=>[I z]) (gv ω b).symm
def oX(r:aG)(c:C)(h:U9 c):i6 (aG.enc .own r++[c]):=aJ (aG.enc_fr _) ⟨h,trivial⟩
def Di(r:aG)(n:Int)(m:Nat)(b:uS r m)(h:m<=1000)(c:1<=n/\n<=1000):zzA 273 false [.val (some 2) (aG.enc .U r),.val none [I n]] (.tup [some 2,none]) (aG.enc .U (jT r n)++[I r.b]):=by
 have i:=b.sml h;have d:=b.len;have j:=b.nx;have k:=fh r i;have e:=aK n 1 1000;rw[O0 c]at e;have key:zzA 273 false [.val (some 2) (aG.enc .U r),.val none [I n]] (.tup [some 2,none]) (aG.enc .own (jT r n)++[I r.b]):=by
  have a:=oX (jT r n) (I r.b) trivial;unfold jT at a |-;rw[CE c]at a |-;have l:aG.enc .own {r with b:=r.b+1,O:=r.O++[⟨r.b,List.replicate n.toNat 0⟩]} = [I (r.b+1),.s .own (r.O.map (bJ.enc .own)++[[I r.b,.s .own (List.replicate n.toNat [I 0])]])]:=by
   simp[aG.enc,bJ.enc,rI]
  rw[l]at a |-;refine fO 30 [(4,263,[13,14,15,16,17,18,22,0,1,2,3,4,5,6,1000,1001,7,1000,1001,8,9,10]),(6,259,[27,28,29,0,1,2,3,1001,1002,4])] Tryz.func273 rfl ?_ (.inr a)
  repeat'(first|refine gP ?_|refine Mk.mk n.toNat ω ω ω (zd ω (by decide)) rfl ?_|refine Ap.sn (aO λ_=>rfl) rfl (by simp;omega) (by decide) rfl ?_)
  rfl
 have g:=key.fzR;rw[gd,Cj]at g;exact g
def FW(r:aG)(id:Int)(m:Nat)(d:uS r m)(k:m<=1000):zzA 417 true [.val (some 2) (aG.enc .U r),.val none [I id]] (.tup [some 2,none]) (aG.enc .U (kG r id)++[B (!decide (pZ r id<0))]):=by
 have g:=d.sml k;have h:=d.len;have i:=fh r g;have b:=jg r id g.1;by_cases e:pZ r id<0
 ·have key:zzA 417 true [.val (some 2) (aG.enc .U r),.val none [I id]] (.tup [some 2,none]) (aG.enc .own r++[B false]):=by
   refine fO 30 [(5,267,[16,17,18,19,20,22,23,24,25,26,28,0,1,2,3,4,6,7,8,9,10,5,1006,1007,1008,1009,1010,11,12,13]),(1048581,6,[1])] Tryz.func417 rfl ?_ (.inl rfl)
   refine ZE ?_
   rfl
  have a:=key.fzR;rw[gd,Cj]at a;unfold kG;rw[CE e,O0 e];exact a
 have n:kG r id = {r with O:=dele r.O (pZ r id).toNat}:=by unfold kG;rw[CC e]
 obtain⟨t,u,w⟩:=gq (pB id) r.O (by unfold pZ at e;omega);obtain⟨j,c⟩:=Z3 (show 0<=pZ r id by omega);have o:j<r.O.length:=by unfold pZ at c;omega
 have key:zzA 417 true [.val (some 2) (aG.enc .U r),.val none [I id]] (.tup [some 2,none]) ([I r.b,.s .own ((dele r.O j).map (bJ.enc .U))]++[B true]):=by
  rw[c]at b;refine fO 30 [(5,267,[16,17,18,19,20,22,23,24,25,26,28,0,1,2,3,4,6,7,8,9,10,5,1006,1007,1008,1009,1010,11,12,13]),(1048581,6,[1])] Tryz.func417 rfl ?_ (.inl rfl)
  repeat'(first|refine gE ?_|refine JT.mk rfl (TV r.O) rfl ?_|refine CY j rfl (by rw[O1];omega) (aO λ_=>rfl) C5 ?_|refine Cb (j+1) ω (by rw[O1];omega) (aO λ_=>rfl) I5 ?_|refine CT (λ_=>rfl) (λ_=>rfl) (by rw[O2];omega) (by decide) ?_|refine CZ (λ_=>rfl) (λ_=>rfl) (by rw[O2];omega) (by decide) ?_|refine Ap.dele (λ_=>rfl) (λ_=>rfl) ω (by decide) ?_)
  rfl
 have a:=key.fzR;have p:dM ([I r.b,.s .own ((dele r.O j).map (bJ.enc .U))]++[B true])=aG.enc .U (kG r id)++[B (!decide (pZ r id<0))]:=by
  have:∀l:List bJ,fzR (l.map (bJ.enc .U))=l.map (bJ.enc .U):=λl=>by
   induction l with
   | nil=>rfl
   | cons x xs q=>rw[I8,fzR,q,<-bJ.enc_fz,tY]
  rw[n,c,X0 ω];simp[dM,fz,aG.enc,this]
 rw[p]at a;exact a
def BO(r:aG)(id a v:Int)(m:Nat)(o:uS r m)(D:m<=1000)(h:0<=pZ r id)(c:0<=a/\a<=(nth r.O (pZ r id).toNat).T.length - 1)(p:0<=v/\v<=999):zzA 419 false [.val (some 2) (aG.enc .U r),.val none [I id],.val none [I a],.val none [I v]] (.tup [some 2,none]) (aG.enc .U (fe r id a v)++[B true]):=by
 have k:=o.sml D;have q:=o.len;have E:=fh r k;have t:=jg r id k.1;obtain⟨J,K,L⟩:=gq (pB id) r.O h;obtain⟨j,l⟩:=Z3 h;have d:j<r.O.length:=by unfold pZ at l;omega
 have e:=ar d;have F:(nth r.O j).T.length<=1048576:=k.2 _ (au d);obtain⟨b,g⟩:=Z3 c.1;have G:fe r id a v = {r with O:=r.O.set j ⟨(nth r.O j).Id,(nth r.O j).T.set b v⟩}:=by
  unfold fe;rw[CE ⟨h,c,p⟩,l,g];rfl
 rw[l]at t c;rw[g]at c |-;simp only[Y3]at c;have u:=ar (xs:=(nth r.O j).T) (i:=b) ω;have w:=aK (b:Nat) 0 (((nth r.O j).T.length:Nat) - 1:Int);rw[O0 ω]at w;have y:=aK v 0 999;rw[O0 p]at y;have key:zzA 419 false [.val (some 2) (aG.enc .U r),.val none [I id],.val none [I (b:Nat)],.val none [I v]] (.tup [some 2,none]) (aG.enc .own (fe r id (b:Nat) v)++[B true]):=by
  have n:=oX (fe r id (b:Nat) v) (B true) trivial;rw[<-g,G]at n |-;have H:aG.enc .own {r with O:=r.O.set j ⟨(nth r.O j).Id,(nth r.O j).T.set b v⟩} = [I r.b,.s .own ((r.O.map (bJ.enc .own)).set j [I (nth r.O j).Id,.s .own (((nth r.O j).T.map (rI .own)).set b [I v])])]:=by
   simp[aG.enc,bJ.enc,rI,S8]
  rw[H]at n |-;rw[g];refine fO 48 [] Tryz.func419 rfl ?_ (.inr n)
  repeat'(first|refine gE ?_|with_reducible refine CO ω (aa e) ?_|refine Pu.two rfl rfl (aa e) rfl rfl rfl (aa u) rfl (v4 _) rfl ?_)
  rfl
 have C:=key.fzR;rw[gd,Cj]at C;exact C
def EE(r:aG)(id n:Int)(m:Nat)(l:uS r m)(u:m<=1000)(g:0<=pZ r id)(c:1<=n/\n<=(nth r.O (pZ r id).toNat).T.length):zzA 421 false [.val (some 2) (aG.enc .U r),.val none [I id],.val none [I n]] (.tup [some 2,none]) (aG.enc .U (gn r id n)++[B true]):=by
 have h:=l.sml u;have o:=l.len;have w:=fh r h;have p:=jg r id h.1;obtain⟨E,F,G⟩:=gq (pB id) r.O g;obtain⟨j,i⟩:=Z3 g;have a:j<r.O.length:=by unfold pZ at i;omega
 have d:=ar a;have y:(nth r.O j).T.length<=1048576:=h.2 _ (au a);obtain⟨b,e⟩:=Z3 (show 0<=n by omega);have C:gn r id n = {r with O:=r.O.set j ⟨(nth r.O j).Id,(nth r.O j).T.take b⟩}:=by
  unfold gn;rw[CE ⟨g,c⟩,i,e];rfl
 rw[i]at p c;rw[e]at c |-;simp only[Y3]at c;have q:=aK (b:Nat) 1 (((nth r.O j).T.length:Nat):Int);rw[O0 ω]at q;have key:zzA 421 false [.val (some 2) (aG.enc .U r),.val none [I id],.val none [I (b:Nat)]] (.tup [some 2,none]) (aG.enc .own (gn r id (b:Nat))++[B true]):=by
  have k:=oX (gn r id (b:Nat)) (B true) trivial;rw[<-e,C]at k |-;have D:aG.enc .own {r with O:=r.O.set j ⟨(nth r.O j).Id,(nth r.O j).T.take b⟩} = [I r.b,.s .own ((r.O.map (bJ.enc .own)).set j [I (nth r.O j).Id,.s .own (((nth r.O j).T.take b).map (rI .U))])]:=by
   simp only[aG.enc,S8]
   rfl
  rw[D]at k |-;rw[e];refine fO 46 [(5,270,[30,31,32,33,34,35,36,37,38,39,40,41,43,44,0,1,2,3,4,5,6,7,8,9,10,11,12,1000,1001,1002,13,14,15])] Tryz.func421 rfl ?_ (.inr k)
  repeat'(first|refine gE ?_|with_reducible refine CO ω (aa d) ?_|refine CY b rfl (by rw[O1];omega) (aO λ_=>rfl) C5 ?_|refine CZ (λ_=>rfl) (λ_=>rfl) (by rw[O2];omega) (by decide) ?_|refine CT (λ_=>rfl) (λ_=>rfl) (by rw[O2];omega) (by decide) ?_|refine CR rfl rfl (aa d) rfl (Z1 rfl) rfl ?_)
  rfl
 have t:=key.fzR;rw[gd,Cj]at t;exact t
def EP(r:aG)(id a v:Int)(m:Nat)(h:uS r m)(l:m<=1000)(u:0<=v/\v<=999):∃b:Bool,zzA 419 false [.val (some 2) (aG.enc .U r),.val none [I id],.val none [I a],.val none [I v]] (.tup [some 2,none]) (aG.enc .U (fe r id a v)++[B b]):=by
 by_cases i:0<=pZ r id
 ·by_cases d:0<=a/\a<=(nth r.O (pZ r id).toNat).T.length - 1
  ·exact⟨true,BO r id a v m h l i d u⟩
  refine⟨false,?_⟩;have c:=h.sml l;have o:=h.len;have n:=fh r c;have k:=jg r id c.1;obtain⟨C,D,E⟩:=gq (pB id) r.O i;obtain⟨j,p⟩:=Z3 i;have e:j<r.O.length:=by unfold pZ at p;omega
  have q:=ar e;have w:(nth r.O j).T.length<=1048576:=c.2 _ (au e);have y:fe r id a v=r:=by unfold fe;rw[CC (λx=>d x.2.1)]
  rw[p]at k d;simp only[Y3]at d;have t:=aK a 0 (((nth r.O j).T.length:Nat) - 1:Int);rw[X0 d]at t;rw[y];have key:zzA 419 false [.val (some 2) (aG.enc .U r),.val none [I id],.val none [I a],.val none [I v]] (.tup [some 2,none]) (aG.enc .own r++[B false]):=by
   refine fO 48 [] Tryz.func419 rfl ?_ (.inr (oX r (B false) trivial))
   refine ZE ?_
   rfl
  have g:=key.fzR;rw[gd,Cj]at g;exact g
 refine⟨false,?_⟩;have c:=h.sml l;have n:=fh r c;have k:=jg r id c.1;rw[show fe r id a v=r by unfold fe;rw[CC (λx=>i x.1)]];have key:zzA 419 false [.val (some 2) (aG.enc .U r),.val none [I id],.val none [I a],.val none [I v]] (.tup [some 2,none]) (aG.enc .own r++[B false]):=by
  refine fO 48 [] Tryz.func419 rfl ?_ (.inr (oX r (B false) trivial))
  refine ZE ?_
  rfl
 have g:=key.fzR;rw[gd,Cj]at g;exact g
def GQ(r:aG)(id n:Int)(m:Nat)(g:uS r m)(k:m<=1000):∃b:Bool,zzA 421 false [.val (some 2) (aG.enc .U r),.val none [I id],.val none [I n]] (.tup [some 2,none]) (aG.enc .U (gn r id n)++[B b]):=by
 by_cases h:0<=pZ r id
 ·by_cases c:1<=n/\n<=(nth r.O (pZ r id).toNat).T.length
  ·exact⟨true,EE r id n m g k h c⟩
  refine⟨false,?_⟩;have a:=g.sml k;have o:=g.len;have l:=fh r a;have i:=jg r id a.1;obtain⟨y,C,D⟩:=gq (pB id) r.O h;obtain⟨j,p⟩:=Z3 h;have d:j<r.O.length:=by unfold pZ at p;omega
  have q:=ar d;have u:(nth r.O j).T.length<=1048576:=a.2 _ (au d);have w:gn r id n=r:=by unfold gn;rw[CC (λx=>c x.2)]
  rw[p]at i c;simp only[Y3]at c;have t:=aK n 1 (((nth r.O j).T.length:Nat):Int);rw[X0 c]at t;rw[w];have key:zzA 421 false [.val (some 2) (aG.enc .U r),.val none [I id],.val none [I n]] (.tup [some 2,none]) (aG.enc .own r++[B false]):=by
   refine fO 46 [(5,270,[30,31,32,33,34,35,36,37,38,39,40,41,43,44,0,1,2,3,4,5,6,7,8,9,10,11,12,1000,1001,1002,13,14,15])] Tryz.func421 rfl ?_ (.inr (oX r (B false) trivial))
   refine ZE ?_
   rfl
  have e:=key.fzR;rw[gd,Cj]at e;exact e
 refine⟨false,?_⟩;have a:=g.sml k;have l:=fh r a;have i:=jg r id a.1;rw[show gn r id n=r by unfold gn;rw[CC (λx=>h x.1)]];have key:zzA 421 false [.val (some 2) (aG.enc .U r),.val none [I id],.val none [I n]] (.tup [some 2,none]) (aG.enc .own r++[B false]):=by
  refine fO 46 [(5,270,[30,31,32,33,34,35,36,37,38,39,40,41,43,44,0,1,2,3,4,5,6,7,8,9,10,11,12,1000,1001,1002,13,14,15])] Tryz.func421 rfl ?_ (.inr (oX r (B false) trivial))
  refine ZE ?_
  rfl
 have e:=key.fzR;rw[gd,Cj]at e;exact e
structure js where
 i:Nat
 h:Int
deriving Inhabited
def w64(x:Int):Int:=IntKind.i64.wrap x
def VH(h:Int):Int:=w64 (w64 (h*6364136223846793005)+1442695040888963407)
def Vt(a b:Int):Int:=w64 ((BitVec.ofInt IntKind.i64.bits a ^^^ BitVec.ofInt IntKind.i64.bits b).toNat:Nat)
def and255(a:Int):Int:=w64 ((BitVec.ofInt IntKind.i64.bits a &&& BitVec.ofInt IntKind.i64.bits 255).toNat:Nat)
def Tr(h:Int)(n:Nat):Int:=h.fdiv (2 ^ (min n IntKind.i64.bits))
def Ek(h:Int):Int:=and255 (Vt (Tr h 33) (Tr h 45))
def Ec(a:Int):0<=and255 a/\and255 a<=255:=by
 have b:(BitVec.ofInt IntKind.i64.bits a &&& BitVec.ofInt IntKind.i64.bits 255).toNat<=255:=by
  rw[BitVec.toNat_and];exact O6 Nat.and_le_right (by decide)
 unfold and255 w64;rw[fJ ω ω];omega
def ed(zs:List Int)(c:js):Int × js:=if c.i<zs.length then(and255 (Ek (VH c.h)+nth zs c.i),⟨c.i+1,VH c.h⟩) else(Ek (VH c.h),⟨c.i,VH c.h⟩)
def uB(zs:List Int)(c:js):0<=(ed zs c).1/\(ed zs c).1<=255:=by
 unfold ed;split<;>exact Ec _
variable{zs:List Int}
def jQ{c:js}(h:c.i<=zs.length):(ed zs c).2.i<=zs.length:=by
 unfold ed;split
 ·simp only;omega
 exact h
def Ex(zs:List Int)(c:js):Int × js:=
 ((ed zs c).1*16777216+(ed zs (ed zs c).2).1*65536+(ed zs (ed zs (ed zs c).2).2).1*256+(ed zs (ed zs (ed zs (ed zs c).2).2).2).1,(ed zs (ed zs (ed zs (ed zs c).2).2).2).2)
def bC(zs:List Int)(c:js)(n:Int):Int × js:=if n<=256 then((ed zs c).1 % n,(ed zs c).2) else((Ex zs c).1 % n,(Ex zs c).2)
def bQ(zs:List Int)(c:js){n:Int}(h:1<=n):0<=(bC zs c n).1/\(bC zs c n).1<n:=by
 unfold bC;split<;>exact⟨Int.emod_nonneg _ ω,Int.emod_lt_of_pos _ ω⟩
def bY{c:js}(h:c.i<=zs.length)(n:Int):(bC zs c n).2.i<=zs.length:=by
 unfold bC;split
 ·exact jQ h
 exact jQ (jQ (jQ (jQ h)))
def mt(zs:List Int)(c:js)(l:List Int):Int × js:=(nth l (bC zs c (l.length:Nat)).1.toNat,(bC zs c (l.length:Nat)).2)
def ro(zs:List Int)(c:js){l:List Int}(h:1<=l.length):(mt zs c l).1∈l:=by
 have:=bQ zs c (n:=(l.length:Nat)) ω;exact au ω
def qF(zs:List Int):Nat->Nat->List Int->js->List Int × js
 | 0,_,out,c=>(out,(bC zs c 4).2)
 | f+1,i,out,c=>if(i:Int)<(bC zs c 4).1 then qF zs f (i+1) (out++[(bC zs (bC zs c 4).2 12).1]) (bC zs (bC zs c 4).2 12).2 else(out,(bC zs c 4).2)
def Um(zs:List Int)(c:js):List Int × js:=qF zs 4 0 [] c
def MH(zs:List Int):∀(f i:Nat)(out:List Int)(c:js),(∀x∈out,0<=x)->out.length+f<=4->c.i<=zs.length->(∀x∈(qF zs f i out c).1,0<=x)/\(qF zs f i out c).1.length<=4/\(qF zs f i out c).2.i<=zs.length
 | 0,_,out,c,b,e,d=>⟨b,by show out.length<=4;omega,bY d _⟩
 | f+1,i,out,c,b,e,d=>by
  unfold qF;split
  ·refine MH zs f (i+1) _ _ (λx a=>?_) (by simp only[C4,List.length_singleton];omega) (bY (bY d _) _)
   rcases t4.1 a with a|a
   ·exact b x a
   rw[C2.1 a];exact(bQ zs _ (by decide)).1
  exact⟨b,by show out.length<=4;omega,bY d _⟩
def Dh(zs:List Int)(c:js):Int × js:=bC zs c 7
def HY(zs:List Int)(c:js):Int × js:=bC zs (Dh zs c).2 3
def Kh(zs:List Int)(c:js):Int × js:=bC zs (HY zs c).2 100
def FA(zs:List Int)(c:js):Int × js:=bC zs (Kh zs c).2 4
def UO(zs:List Int)(c:js):List Int × js:=Um zs (FA zs c).2
def sF(zs:List Int)(c:js):cS:=⟨(6+(Dh zs c).1).toNat,(6+(Dh zs c).1 - (FA zs c).1).toNat,(1+(HY zs c).1).toNat,40+(Kh zs c).1,(UO zs c).1⟩
def qS{c:js}(h:c.i<=zs.length):H4 (sF zs c)/\(UO zs c).2.i<=zs.length:=by
 have a:=bQ zs c (n:=7) (by decide);have b:=bQ zs (Dh zs c).2 (n:=3) (by decide);have d:=bQ zs (HY zs c).2 (n:=100) (by decide);have e:=bQ zs (Kh zs c).2 (n:=4) (by decide);change 0<=(Dh zs c).1/\(Dh zs c).1<7 at a;change 0<=(HY zs c).1/\(HY zs c).1<3 at b;change 0<=(Kh zs c).1/\(Kh zs c).1<100 at d;change 0<=(FA zs c).1/\(FA zs c).1<4 at e;obtain⟨f,k,g⟩:=MH zs 4 0 [] (FA zs c).2 (λx j=>by cases j) (by simp) (bY (bY (bY (bY h _) _) _) _);refine⟨⟨?_,?_,?_,?_,?_⟩,g⟩
 ·show 1<=(6+(Dh zs c).1).toNat/\(6+(Dh zs c).1).toNat<=32;omega
 ·show 1<=(6+(Dh zs c).1 - (FA zs c).1).toNat/\(6+(Dh zs c).1 - (FA zs c).1).toNat<=32;omega
 ·show 1<=(1+(HY zs c).1).toNat/\(1+(HY zs c).1).toNat<=4;omega
 ·show 0<=40+(Kh zs c).1/\40+(Kh zs c).1<=1000;omega
 exact⟨by show(qF zs 4 0 [] (FA zs c).2).1.length<=40;omega,f⟩
def DY(zs:List Int)(c:js):Int × js:=bC zs c 3
def JU(zs:List Int)(c:js)(ids:Int):Int × js:=bC zs (DY zs c).2 ids
def mn(zs:List Int)(c:js)(ids:Int):Int × js:=bC zs (JU zs c ids).2 20
def szs:List Int:=[1,1,2,2,3,4,4,5,8,9,20]
def vn(zs:List Int)(c:js)(ids:Int):fj × js:=
 if(mn zs c ids).1<=6 then(⟨1,(DY zs c).1,(mt zs (mn zs c ids).2 szs).1,0,0⟩,(mt zs (mn zs c ids).2 szs).2)
 else if(mn zs c ids).1<=9 then(⟨2,(DY zs c).1,1+(JU zs c ids).1,0,0⟩,(mn zs c ids).2)
 else if(mn zs c ids).1<=12 then(⟨3,(DY zs c).1,1+(JU zs c ids).1,(bC zs (mn zs c ids).2 4).1,1+(bC zs (bC zs (mn zs c ids).2 4).2 999).1⟩,(bC zs (bC zs (mn zs c ids).2 4).2 999).2)
 else if(mn zs c ids).1=13 then(⟨4,(DY zs c).1,1+(JU zs c ids).1,0,9+(bC zs (mn zs c ids).2 10).1⟩,(bC zs (mn zs c ids).2 10).2)
 else if(mn zs c ids).1=14 then(⟨(mt zs (mn zs c ids).2 [5,6]).1,(DY zs c).1,1+(JU zs c ids).1,0,0⟩,(mt zs (mn zs c ids).2 [5,6]).2)
 else if(mn zs c ids).1=15 then(⟨7,(DY zs c).1,1+(JU zs c ids).1,0,0⟩,(mn zs c ids).2)
 else if(mn zs c ids).1=16 then(⟨8,(DY zs c).1,(mt zs (mn zs c ids).2 [1,30,60,120]).1,0,0⟩,(mt zs (mn zs c ids).2 [1,30,60,120]).2)
 else if(mn zs c ids).1=17 then(⟨9,(DY zs c).1,1+(JU zs c ids).1,0,0⟩,(mn zs c ids).2)
 else(⟨10,(DY zs c).1,(mt zs (mn zs c ids).2 [1,2,3,10,30]).1,0,0⟩,(mt zs (mn zs c ids).2 [1,2,3,10,30]).2)
structure Qw(a:fj):Prop where
 k:1<=a.b6/\a.b6<=10
 t:0<=a.a5/\a.a5<=1000000
 n:0<=a.N/\a.N<=1000000
 p:0<=a.At/\a.At<=1000000
 v:0<=a.Value/\a.Value<=1000000
def Ry{c:js}{ids:Int}(h:c.i<=zs.length)(b:1<=ids/\ids<=1000):Qw (vn zs c ids).1/\(vn zs c ids).2.i<=zs.length:=by
 have d:=bQ zs c (n:=3) (by decide);have e:=bQ zs (DY zs c).2 (n:=ids) b.1;change 0<=(DY zs c).1/\(DY zs c).1<3 at d;change 0<=(JU zs c ids).1/\(JU zs c ids).1<ids at e;have a:(mn zs c ids).2.i<=zs.length:=bY (bY (bY h _) _) _;have f:=ro zs (mn zs c ids).2 (l:=szs) (by decide);have g:=ro zs (mn zs c ids).2 (l:=[5,6]) (by decide);have j:=ro zs (mn zs c ids).2 (l:=[1,30,60,120]) (by decide);have k:=ro zs (mn zs c ids).2 (l:=[1,2,3,10,30]) (by decide);have o:=bQ zs (mn zs c ids).2 (n:=4) (by decide);have p:=bQ zs (bC zs (mn zs c ids).2 4).2 (n:=999) (by decide);have q:=bQ zs (mn zs c ids).2 (n:=10) (by decide);simp only[szs,List.mem_cons,List.not_mem_nil,or_false]at f g j k;unfold vn
 repeat' split
 ·exact⟨⟨by simp only;omega,by simp only;omega,by simp only[szs];omega,by simp only;omega,by simp only;omega⟩,bY a _⟩
 ·exact⟨⟨by simp only;omega,by simp only;omega,by simp only;omega,by simp only;omega,by simp only;omega⟩,a⟩
 ·exact⟨⟨by simp only;omega,by simp only;omega,by simp only;omega,by simp only;omega,by simp only;omega⟩,bY (bY a _) _⟩
 ·exact⟨⟨by simp only;omega,by simp only;omega,by simp only;omega,by simp only;omega,by simp only;omega⟩,bY a _⟩
 ·exact⟨⟨by simp only;omega,by simp only;omega,by simp only;omega,by simp only;omega,by simp only;omega⟩,bY a _⟩
 ·exact⟨⟨by simp only;omega,by simp only;omega,by simp only;omega,by simp only;omega,by simp only;omega⟩,a⟩
 ·exact⟨⟨by simp only;omega,by simp only;omega,by simp only;omega,by simp only;omega,by simp only;omega⟩,bY a _⟩
 ·exact⟨⟨by simp only;omega,by simp only;omega,by simp only;omega,by simp only;omega,by simp only;omega⟩,a⟩
 exact⟨⟨by simp only;omega,by simp only;omega,by simp only;omega,by simp only;omega,by simp only;omega⟩,bY a _⟩
def mF(zs:List Int)(c:js):Nat->List fj × js
 | 0=>([],(bC zs c 41).2)
 | i+1=>((mF zs c i).1++[(vn zs (mF zs c i).2 (1+(i:Int) / 2)).1],(vn zs (mF zs c i).2 (1+(i:Int) / 2)).2)
def mh(zs:List Int)(c:js):List fj × js:=mF zs c (bC zs c 41).1.toNat
def q9{zs:List Int}{c:js}(h:c.i<=zs.length):∀{n:Nat},n<=100->(mF zs c n).1.length=n/\(∀a∈(mF zs c n).1,Qw a)/\(mF zs c n).2.i<=zs.length
 | 0,_=>⟨rfl,λa b=>(by cases b),bY h _⟩
 | n+1,k=>by
  obtain⟨d,e,f⟩:=q9 h (n:=n) ω;obtain⟨g,j⟩:=Ry (ids:=1+(n:Int) / 2) f ω;refine⟨by simp only[mF,C4,List.length_singleton,d],λa b=>?_,j⟩;rcases t4.1 b with b|b
  ·exact e a b
  rw[C2.1 b];exact g
def rL(zs:List Int):Nat->Int
 | 0=>w64 (98801+(zs.length:Nat))
 | i+1=>w64 ((BitVec.ofInt IntKind.i64.bits (w64 (w64 (w64 (rL zs i*131)+nth zs i)+7)) &&& BitVec.ofInt IntKind.i64.bits 1073741823).toNat:Nat)
def uK(zs:List Int):js:=⟨0,rL zs (min zs.length 4000)⟩
def eO(zs:List Int):js:=(UO zs (uK zs)).2
def drawn(zs:List Int):br:=(Bi (sF zs (uK zs)) (mh zs (eO zs)).1 (mh zs (eO zs)).1.length).1
def yA(zs:List Int):tM (drawn zs) 40:=by
 have a:(uK zs).i<=zs.length:=Z0 _;obtain⟨b,d⟩:=qS a;have f:=bQ zs (eO zs) (n:=41) (by decide);obtain⟨e,-,-⟩:=q9 (zs:=zs) (c:=eO zs) d (n:=(bC zs (eO zs) 41).1.toNat) ω;refine(vL b _ _).more ?_;show(mF zs (eO zs) _).1.length<=40;rw[e];omega
def rU(z:Int):List C:=[.v (.int .u8 z)]
def jr(zs:List Int)(c:js):List C:=[.s .U (zs.map rU),I (c.i:Nat),I c.h]
def kq(zs:List Int):Prop:=zs.length<=1048576/\∀z∈zs,0<=z/\z<=255
def lG(zs:List Int)(c:js)(e:kq zs)(w:c.i<=zs.length):zzB 180 false [.ptr (jr zs c)] [.ptr (jr zs (ed zs c).2)] .one [I (ed zs c).1]:=by
 have g:IntKind.i64.wrap (c.h*6364136223846793005)=w64 (c.h*6364136223846793005):=rfl;have b:IntKind.i64.wrap (w64 (c.h*6364136223846793005)+1442695040888963407)=VH c.h:=rfl;have o:=e.1;generalize p:VH c.h=H at b;have j:H.fdiv (2 ^ (min (33:Int).toNat IntKind.i64.bits))=Tr H 33:=rfl;have k:H.fdiv (2 ^ (min (45:Int).toNat IntKind.i64.bits))=Tr H 45:=rfl;have l:IntKind.i64.wrap (BitVec.ofInt IntKind.i64.bits (Tr H 33) ^^^ BitVec.ofInt IntKind.i64.bits (Tr H 45)).toNat=Vt (Tr H 33) (Tr H 45):=rfl;have d:IntKind.i64.wrap (BitVec.ofInt IntKind.i64.bits (Vt (Tr H 33) (Tr H 45)) &&& BitVec.ofInt IntKind.i64.bits 255).toNat=Ek H:=rfl;have r:0<=Ek H/\Ek H<=255:=Ec _;unfold ed;rw[p];generalize Ek H=y at d r |-;refine fM 58 [] [(2,10,[13,14,15,16,17,18,19,20,21,22]),(3,9,[25,26,27,28,29,30,31,32,33]),(4,12,[35,36,37,38,39,40,41,42,43,44,45,46])] [(0,0)] Tryz.func180 rfl (λu q=>?_);by_cases a:c.i<zs.length
 ·rw[CE a]
  have n:=ar a;have B:=e.2 _ (au a);have t:IntKind.i64.wrap (BitVec.ofInt IntKind.i64.bits (y+nth zs c.i) &&& BitVec.ofInt IntKind.i64.bits 255).toNat=and255 (y+nth zs c.i):=rfl
  repeat'(first|refine gE ?_|with_reducible (first|refine CP g ?_|refine CP b ?_|refine CP l ?_|refine CP d ?_|refine CP t ?_|refine CQ (by decide) ?_|refine CU j ?_|refine CU k ?_))
  refine CL rfl rfl ?_;exact wB
 rw[CC a]
 repeat'(first|refine gE ?_|with_reducible (first|refine CP g ?_|refine CP b ?_|refine CP l ?_|refine CP d ?_|refine CQ (by decide) ?_|refine CU j ?_|refine CU k ?_))
 refine CL rfl rfl ?_;exact wB
def bX(zs:List Int)(c:js)(n:Int)(b:kq zs)(d:c.i<=zs.length)(p:1<=n):zzB 61 false [.ptr (jr zs c),.val none [I n]] [.ptr (jr zs (bC zs c n).2),.val none [I n]] .one [I (bC zs c n).1]:=by
 have j:=uB zs c;have g:=lG zs c b d;unfold bC;refine fM 37 [(180,[2])] [] [(0,0),(0,0)] Tryz.func61 rfl (λu q=>?_);by_cases h:n<=256
 ·rw[CE h]
  have a:(ed zs c).1.tmod n=(ed zs c).1 % n:=Int.tmod_eq_emod_of_nonneg j.1
  repeat'(first|refine gE ?_|with_reducible (first|refine CU a ?_|refine Bf.D (λe=>?_) (λe=>?_))|refine CQ ω ?_)
  refine CL rfl rfl ?_;exact wB
 rw[CC h];have r:=uB zs (ed zs c).2;have t:=uB zs (ed zs (ed zs c).2).2;have w:=uB zs (ed zs (ed zs (ed zs c).2).2).2;have k:=lG zs (ed zs c).2 b (jQ d);have l:=lG zs (ed zs (ed zs c).2).2 b (jQ (jQ d));have o:=lG zs (ed zs (ed zs (ed zs c).2).2).2 b (jQ (jQ (jQ d)));have a:(Ex zs c).1.tmod n=(Ex zs c).1 % n:=Int.tmod_eq_emod_of_nonneg (by unfold Ex;simp only;omega);unfold Ex at a |-;simp only at a
 repeat'(first|refine gE ?_|with_reducible (first|refine CU a ?_|refine Bf.D (λe=>?_) (λe=>?_))|refine CQ ω ?_)
 refine CL rfl rfl ?_;exact wB
def PC(zs:List Int)(c:js)(l:List Int)(b:kq zs)(d:c.i<=zs.length)(g:1<=l.length/\l.length<=1000):zzB 402 false [.ptr (jr zs c),.val none (aH .U l)] [.ptr (jr zs (mt zs c l).2),.val none (aH .U l)] .one [I (mt zs c l).1]:=by
 have e:=bX zs c (l.length:Nat) b d ω;have h:=bQ zs c (n:=(l.length:Nat)) ω;have a:=ar (xs:=l) (i:=(bC zs c (l.length:Nat)).1.toNat) ω;unfold mt;refine fM 12 [(61,[2,0])] [] [(0,0),(0,0)] Tryz.func402 rfl (λu q=>?_)
 repeat'(first|refine gP ?_|with_reducible refine CO ω (aa a) ?_)
 refine CL rfl rfl ?_;exact wC
def jG(zs:List Int)(c:js)(l:List Int)(b:kq zs)(d:c.i<=zs.length)(g:1<=l.length/\l.length<=1000):zzB 402 false [.ptr (jr zs c),.mut none (aH .own l)] [.ptr (jr zs (mt zs c l).2),.mut none (aH .own l)] .one [I (mt zs c l).1]:=by
 have e:=bX zs c (l.length:Nat) b d ω;have h:=bQ zs c (n:=(l.length:Nat)) ω;have a:=ar (xs:=l) (i:=(bC zs c (l.length:Nat)).1.toNat) ω;unfold mt;refine fM 12 [(61,[2,0])] [] [(0,0),(1,0)] Tryz.func402 rfl (λu q=>?_)
 repeat'(first|refine gP ?_|with_reducible refine CO ω (aa a) ?_)
 refine CL rfl rfl ?_;exact wC
def Px(zs:List Int):∀(f i:Nat)(out:List Int)(c:js),(bC zs c 4).1<=i->qF zs f i out c=(out,(bC zs c 4).2)
 | 0,_,_,_,_=>rfl
 | f+1,i,out,c,h=>by unfold qF;rw[CC ω]
def Uo(zs:List Int)(f i:Nat)(out:List Int)(c:js)(h:(i:Int)<(bC zs c 4).1):qF zs (f+1) i out c=qF zs f (i+1) (out++[(bC zs (bC zs c 4).2 12).1]) (bC zs (bC zs c 4).2 12).2:=by
 show(if _ then _ else _)=_;rw[CE h]
structure Rq where
 i:Nat
 out:List Int
 c:js
def y5(zs:List Int)(c:js)(e:kq zs)(j:c.i<=zs.length):zzB 258 false [.ptr (jr zs c)] [.ptr (jr zs (Um zs c).2)] .one (aH .own (Um zs c).1):=by
 refine fM 18 [(61,[2,0])] [] [(0,0)] Tryz.func258 rfl (λu q=>?_) (.inr (bO _))
 refine ZP ?_
 refine CK (ι:=Rq) (λx=>[(0,.H .box (jr zs x.c)),(3,.H .one (aH .own x.out)),(4,.H .one [I ((x.i:Nat):Int)])]) (λx=>(x.i<=4/\x.out.length<=x.i/\x.c.i<=zs.length)/\qF zs (4 - x.i) x.i x.out x.c=Um zs c) (λx=>4 - x.i) (⟨0,[],c⟩) ?_ (⟨⟨Z0 _,Z0 _,j⟩,rfl⟩) λx k=>?_
 ·exact wC
 obtain⟨i,out,d⟩:=x;obtain⟨⟨l,o,b⟩,a⟩:=k;simp only at l o b a |-;have B:=bQ zs d (n:=4) (by decide);have g:=bX zs d 4 e b (by decide);have h:=bY b 4;have p:=bX zs (bC zs d 4).2 12 e h (by decide);have t:=bY h 12;by_cases w:(i:Int)<(bC zs d 4).1
 ·rw[show 4 - i=(4 - (i+1))+1 by omega,Uo zs _ _ _ _ w]at a
  repeat'(first|refine gE ?_|refine CV cC (λr y=>by rw[C2.1 y];rfl) (by simp[bn,eG]) (by simp;omega) (by simp only[O1];exact zd (by simp;omega) (by decide)) rfl ?_)
  (refine CG ⟨i+1,out++[(bC zs (bC zs d 4).2 12).1],(bC zs (bC zs d 4).2 12).2⟩ ⟨⟨by simp only;omega,by simp only[C4,List.length_singleton];omega,t⟩,a⟩ (by simp only;omega) ?_)
  repeat'(first|exact trivial|rfl| exact dG _ |exact CN rfl (CN (C1 (C.s dX.own) (by simp[rI])) trivial)|refine CN ?_ ?_|(exact Be (by first|omega|(simp only;omega)|(simp;omega))))
 rw[Px zs _ _ _ _ ω]at a;rw[<-a]
 refine ZE ?_
 refine CL rfl rfl ?_;exact wC
def cS.enc(o:dX)(c:cS):List C:=[I (c.a4:Nat),I (c.W:Nat),I (c.c4:Nat),I c.b1,.s o (c.u.map (rI o))]
def cS.enc_fz(c:cS):dM (cS.enc .own c)=cS.enc .U c:=by simp[dM,cS.enc,rI,<-bW,C8]
def cS.enc_fr(c:cS):i6 (cS.enc .own c):=⟨trivial,trivial,trivial,trivial,⟨.inl λh=>(by cases h),bi _ _ λy _=>qj y⟩,trivial⟩
def A4(zs:List Int)(c:js)(a:kq zs)(h:c.i<=zs.length):zzB 113 false [.ptr (jr zs c)] [.ptr (jr zs (UO zs c).2)] .agg (cS.enc .own (sF zs c)):=by
 have j:=bY h 7;have k:=bY j 3;have l:=bY k 100;have y:=bY l 4;have b:=bX zs c 7 a h (by decide);have d:=bX zs (Dh zs c).2 3 a j (by decide);have e:=bX zs (HY zs c).2 100 a k (by decide);have g:=bX zs (Kh zs c).2 4 a l (by decide);have o:=y5 zs (FA zs c).2 a y;have p:=bQ zs c (n:=7) (by decide);have r:=bQ zs (Dh zs c).2 (n:=3) (by decide);have B:=bQ zs (HY zs c).2 (n:=100) (by decide);have t:=bQ zs (Kh zs c).2 (n:=4) (by decide);have w:=cS.enc_fr (sF zs c);have C:cS.enc .own (sF zs c)=[I (6+(Dh zs c).1),I (6+(Dh zs c).1 - (FA zs c).1),I (1+(HY zs c).1),I (40+(Kh zs c).1),.s .own ((UO zs c).1.map (rI .own))]:=by
  have D:0<=(Dh zs c).1/\(Dh zs c).1<7:=p;have E:0<=(HY zs c).1/\(HY zs c).1<3:=r;have F:0<=(FA zs c).1/\(FA zs c).1<4:=t;unfold cS.enc sF;simp only;rw[Int.toNat_of_nonneg ω,Int.toNat_of_nonneg ω,Int.toNat_of_nonneg ω]
 rw[C]at w |-;change aQ _ _ _ _ [.ptr (jr zs (Dh zs c).2),_] _ _ at b;change aQ _ _ _ _ [.ptr (jr zs (HY zs c).2),_] _ _ at d;change aQ _ _ _ _ [.ptr (jr zs (Kh zs c).2),_] _ _ at e;change aQ _ _ _ _ [.ptr (jr zs (FA zs c).2),_] _ _ at g;change aQ _ _ _ _ [.ptr (jr zs (UO zs c).2)] _ (aH .own (UO zs c).1) at o;change aQ _ _ _ _ _ _ [I (Dh zs c).1]at b;change aQ _ _ _ _ _ _ [I (HY zs c).1]at d;change aQ _ _ _ _ _ _ [I (Kh zs c).1]at e;change aQ _ _ _ _ _ _ [I (FA zs c).1]at g;change 0<=(Dh zs c).1/\(Dh zs c).1<7 at p;change 0<=(HY zs c).1/\(HY zs c).1<3 at r;change 0<=(Kh zs c).1/\(Kh zs c).1<100 at B;change 0<=(FA zs c).1/\(FA zs c).1<4 at t;generalize UO zs c=r5 at *;generalize FA zs c=r4 at *;generalize Kh zs c=r3 at *;generalize HY zs c=r2 at *;generalize Dh zs c=r1 at *;refine fM 24 [(61,[2,0]),(258,[2])] [(2,65536,[])] [(0,0)] Tryz.func113 rfl (λu q=>?_) (.inr w)
 repeat'(first|refine gP ?_|refine CN ?_ ?_)
 all_goals
  refine CL rfl rfl ?_;exact wC
def yj(n:Nat)(e:1<=n/\n<=32):zzA 569 false [.val none [I (n:Nat)]] (.tup [some 2,none]) (aU.enc .own (gY n)++[B true]):=by
 have c:=aK ((n:Nat):Int) 1 32;rw[O0 ω]at c;have a:=aJ (b:=[B true]) (aU.enc_fr (gY n)) ⟨trivial,trivial⟩;rw[show aU.enc .own (gY n)=_ from L8 n n]at a |-;refine fO 28 [(7,4,[16,17,18,19])] Tryz.func569 rfl ?_ (.inr a)
 refine ZP ?_
 refine CK (ι:=Nat) (λk=>[(0,.H .one [I ((n:Nat))]),(2,.H .box [.z,.z]),(4,.H .box [.s .own (List.replicate k [.s .own (List.replicate 16 [I 0])]),.s .own (List.replicate k [B false])]),(5,.H .one [I ((k:Nat):Int)])]) (λk=>k<=n) (λk=>n - k) (0) ?_ (Z0 _) λk g=>?_
 ·exact wB
 by_cases h:k<n
 ·repeat'(first|refine gE ?_|refine Mk.mk 16 rfl rfl (by decide) (by decide) rfl ?_|refine Ap.sn (λr d=>by rw[(List.mem_replicate.1 d).2];rfl) rfl (by simp;omega) (by decide) (Hk _ k) ?_)
  (refine CG (k+1) ω ω ?_;(exact wB))
 obtain rfl:k=n:=ω
 refine ZE ?_
 rfl
def BE(n:Nat)(e:1<=n/\n<=32):zzA 570 false [.val none [I (n:Nat)]] (.tup [some 1,none]) (aM.enc .own (gt n)++[B true]):=by
 have c:=aK ((n:Nat):Int) 1 32;rw[O0 ω]at c;have a:=aJ (b:=[B true]) (aM.enc_fr (gt n)) ⟨trivial,trivial⟩;have d:aM.enc .own (gt n)=[.s .own (List.replicate n [I 0,I 0])]:=by simp[aM.enc,gt,bm.enc,List.map_replicate]
 rw[d]at a |-;refine fO 11 [] Tryz.func570 rfl ?_ (.inr a)
 repeat'(first|refine gP ?_|refine Mk.mk n rfl rfl ω (zd ω (by decide)) rfl ?_)
 rfl
def xH(p f:Nat)(a:1<=p/\p<=32)(b:1<=f/\f<=32):zzA 508 false [.val none [I (p:Nat)],.val none [I (f:Nat)]] (.tup [some 3,none]) (aY.enc .own ⟨gY f,gt p⟩++[B true]):=by
 refine fO 30 [] Tryz.func508 rfl ?_ (.inr (aJ (aY.enc_fr _) ⟨trivial,trivial⟩))
 repeat'(first|refine gP ?_|refine CB (yj f b) ?_|refine CB (BE p a) ?_)
 rfl
def yR(p f:Nat)(a:List Int)(b:1<=p/\p<=32)(c:1<=f/\f<=32)(d:a.length<=40/\∀x∈a,0<=x):zzA 412 false [.val none [I (p:Nat)],.val none [I (f:Nat)],.val none (aH .U a)] (.tup [some 5,none]) (ah.enc .own (cr p f a)++[B true]):=by
 have e:=sC b c d;have h:=d.1;have g:=nz (cr p f a) (bk e);rw[e]at g;refine fO 31 [(2,260,[17,18,19,10,0,1,2,5,3,1000,1005,4,1005,6])] Tryz.func412 rfl ?_ (.inr (aJ (Cc _) ⟨trivial,trivial⟩))
 repeat'(first|refine gP ?_|refine CB (xH p f b c) ?_|refine CH (g) ⟨⟨rfl,CS (cr p f a)⟩,trivial⟩ ?_|refine CT (λ_=>rfl) (λ_=>rfl) ω (by decide) ?_|refine CZ (λ_=>rfl) (λ_=>rfl) ω (by decide) ?_)
 rfl
def Wo(p f t:Nat)(lim:Int)(a:List Int)(k:Nat):ac:={caps (newHeap p f t lim a) k with a7:=⟨0,[]⟩}
def FV(p f t:Nat)(lim:Int)(a:List Int)(c:1<=p/\p<=32)(d:1<=f/\f<=32)(e:1<=t/\t<=4)(g:0<=lim/\lim<=1000)(h:a.length<=40/\∀x∈a,0<=x):zzA 271 false [.val none [I (p:Nat)],.val none [I (f:Nat)],.val none [I (t:Nat)],.val none [I lim],.val none (aH .U a)] (.tup [some 24,none]) (ac.enc .own (newHeap p f t lim a)++[B true]):=by
 have b:=aK lim 0 1000;rw[O0 g]at b;refine fO 66 [(9,4,[54,55,56,57])] Tryz.func271 rfl ?_ (.inr (aJ (ac.enc_fr _) ⟨trivial,trivial⟩))
 repeat'(first|refine gP ?_|refine CB (yR p f a c d h) ?_|refine CB (FO t e) ?_|refine CB (uO) ?_)
 refine CK (ι:=Nat) (λk=>[(2,.H .one [I ((t:Nat))]),(10,.H .box [.z,.z,.z,I 0,.z,.z,.z,.z,.z,.z,.z,.z,I 0,.z,I 0,I 0,I 0,I 0,B false,I 0,I 0,.z,I 0,I 0]),(16,.H .box (ac.enc .own (Wo p f t lim a k))),(17,.H .one [I ((k:Nat):Int)])]) (λk=>k<=t) (λk=>t - k) (0) ?_ (Z0 _) λk i=>?_
 ·exact wB
 by_cases j:k<t
 ·repeat'(first|refine gE ?_|refine CB (BI) ?_|refine Ap.sn Qq rfl (by rw[O1];show(List.replicate _ gx).length+1<=_;rw[Y4];omega) (by decide) (N8 k) ?_)
  (refine CG (k+1) ω ω ?_;(exact wB))
 obtain rfl:k=t:=ω
 repeat'(first|refine gE ?_|refine CB (uO) ?_)
 rfl
def GC:zzA 272 false [] .agg (aG.enc .own ⟨1,[]⟩):=by
 refine fO 2 [] Tryz.func272 rfl ?_ (.inr (aG.enc_fr _))
 repeat'((conv=>whnf);first|with_reducible (first|refine Lm ?_|refine Wm ω ?_|refine Bn ?_|refine jV.wk rfl ?_)|refine Bt ?_|refine Bu ?_|refine CD ?_)
 exact⟨rfl,rfl,trivial⟩
def B2(c:cS)(h:H4 c):zzA 120 false [.val (some 5) (cS.enc .U c)] (.tup [some 26,none]) (br.enc .own (world0 c)++[B true]):=by
 have a:=FV c.a4 c.W c.c4 c.b1 c.u h.p h.f h.t h.l h.r;refine fO 26 [(4,2,[23,24])] Tryz.func120 rfl ?_ (.inr (aJ (br.enc_fr _) ⟨trivial,trivial⟩))
 repeat'(first|refine gP ?_|refine CB (GC) ?_)
 rfl
def qo(o:dX)(l:List fj):List C:=[.s o (l.map (fj.enc o))]
def fj.enc_fr(x:fj):i6 (fj.enc .own x):=⟨trivial,trivial,trivial,trivial,trivial,trivial⟩
def N3(l:List fj):i6 (qo .own l):=⟨⟨.inl λh=>(by cases h),bi _ _ λy _=>fj.enc_fr y⟩,trivial⟩
def NY(l:List fj):dM (qo .own l)=qo .U l:=by simp[dM,qo,fj.enc,<-bW,C8]
def J2(zs:List Int)(c:js)(ids:Int)(b:kq zs)(p:c.i<=zs.length)(r:1<=ids/\ids<=1000):zzB 259 false [.ptr (jr zs c),.val none [I ids]] [.ptr (jr zs (vn zs c ids).2),.val none [I ids]] .agg (fj.enc .own (vn zs c ids).1):=by
 have w:=bY p 3;have y:=bY w ids;have d:(mn zs c ids).2.i<=zs.length:=bY y 20;have B:=bX zs c 3 b p (by decide);have C:=bX zs (DY zs c).2 ids b w r.1;have j:=bX zs (JU zs c ids).2 20 b y (by decide);have H:=bQ zs c (n:=3) (by decide);have J:=bQ zs (DY zs c).2 (n:=ids) r.1;have D:=bQ zs (JU zs c ids).2 (n:=20) (by decide);have e:=jG zs (mn zs c ids).2 szs b d (by decide);have E:=jG zs (mn zs c ids).2 [5,6] b d (by decide);have F:=jG zs (mn zs c ids).2 [1,30,60,120] b d (by decide);have l:=jG zs (mn zs c ids).2 [1,2,3,10,30] b d (by decide);have g:=bX zs (mn zs c ids).2 4 b d (by decide);have h:=bX zs (bC zs (mn zs c ids).2 4).2 999 b (bY d _) (by decide);have G:=bX zs (mn zs c ids).2 10 b d (by decide);have K:=bQ zs (bC zs (mn zs c ids).2 4).2 (n:=999) (by decide);have L:=bQ zs (mn zs c ids).2 (n:=10) (by decide);change aQ _ _ _ _ [.ptr (jr zs (DY zs c).2),_] _ [I (DY zs c).1]at B;change aQ _ _ _ _ [.ptr (jr zs (JU zs c ids).2),_] _ [I (JU zs c ids).1]at C;change aQ _ _ _ _ [.ptr (jr zs (mn zs c ids).2),_] _ [I (mn zs c ids).1]at j;change 0<=(DY zs c).1/\(DY zs c).1<3 at H;change 0<=(JU zs c ids).1/\(JU zs c ids).1<ids at J;change 0<=(mn zs c ids).1/\(mn zs c ids).1<20 at D;have o:=fj.enc_fr (vn zs c ids).1;unfold vn at o |-;generalize mn zs c ids=k at *;generalize JU zs c ids=n at *;generalize DY zs c=t at *;obtain⟨a,M⟩:=k;dsimp only at d e E F l g h G K L D j o |-;refine fM 77 [(61,[2,0]),(402,[2,1])] [] [(0,0),(0,0)] Tryz.func259 rfl (λu q=>?_) (.inr o)
 refine ZP ?_
 obtain rfl|rfl|rfl|rfl|rfl|rfl|rfl|rfl|rfl|rfl|rfl|rfl|rfl|rfl|rfl|rfl|rfl|rfl|rfl|rfl:=(show a=0\/a=1\/a=2\/a=3\/a=4\/a=5\/a=6\/a=7\/a=8\/a=9\/a=10\/a=11\/a=12\/a=13\/a=14\/a=15\/a=16\/a=17\/a=18\/a=19 by omega)
 ·rw[CE (show((0:Int))<=6 by decide)]
  refine ZP ?_
  refine CL rfl rfl ?_;exact wC
 ·rw[CE (show((1:Int))<=6 by decide)]
  refine ZP ?_
  refine CL rfl rfl ?_;exact wC
 ·rw[CE (show((2:Int))<=6 by decide)]
  refine ZP ?_
  refine CL rfl rfl ?_;exact wC
 ·rw[CE (show((3:Int))<=6 by decide)]
  refine ZP ?_
  refine CL rfl rfl ?_;exact wC
 ·rw[CE (show((4:Int))<=6 by decide)]
  refine ZP ?_
  refine CL rfl rfl ?_;exact wC
 ·rw[CE (show((5:Int))<=6 by decide)]
  refine ZP ?_
  refine CL rfl rfl ?_;exact wC
 ·rw[CE (show((6:Int))<=6 by decide)]
  refine ZP ?_
  refine CL rfl rfl ?_;exact wC
 ·rw[CC (show ¬((7:Int)<=6) by decide),CE (show((7:Int))<=9 by decide)]
  refine ZP ?_
  refine CL rfl rfl ?_;exact wC
 ·rw[CC (show ¬((8:Int)<=6) by decide),CE (show((8:Int))<=9 by decide)]
  refine ZP ?_
  refine CL rfl rfl ?_;exact wC
 ·rw[CC (show ¬((9:Int)<=6) by decide),CE (show((9:Int))<=9 by decide)]
  refine ZP ?_
  refine CL rfl rfl ?_;exact wC
 ·rw[CC (show ¬((10:Int)<=6) by decide),CC (show ¬((10:Int)<=9) by decide),CE (show((10:Int))<=12 by decide)]
  refine ZP ?_
  refine CL rfl rfl ?_;exact wC
 ·rw[CC (show ¬((11:Int)<=6) by decide),CC (show ¬((11:Int)<=9) by decide),CE (show((11:Int))<=12 by decide)]
  refine ZP ?_
  refine CL rfl rfl ?_;exact wC
 ·rw[CC (show ¬((12:Int)<=6) by decide),CC (show ¬((12:Int)<=9) by decide),CE (show((12:Int))<=12 by decide)]
  refine ZP ?_
  refine CL rfl rfl ?_;exact wC
 ·rw[CC (show ¬((13:Int)<=6) by decide),CC (show ¬((13:Int)<=9) by decide),CC (show ¬((13:Int)<=12) by decide),CE (show((13:Int))=13 by decide)]
  refine ZP ?_
  refine CL rfl rfl ?_;exact wC
 ·rw[CC (show ¬((14:Int)<=6) by decide),CC (show ¬((14:Int)<=9) by decide),CC (show ¬((14:Int)<=12) by decide),CC (show ¬((14:Int)=13) by decide),CE (show((14:Int))=14 by decide)]
  refine ZP ?_
  refine CL rfl rfl ?_;exact wC
 ·rw[CC (show ¬((15:Int)<=6) by decide),CC (show ¬((15:Int)<=9) by decide),CC (show ¬((15:Int)<=12) by decide),CC (show ¬((15:Int)=13) by decide),CC (show ¬((15:Int)=14) by decide),CE (show((15:Int))=15 by decide)]
  refine ZP ?_
  refine CL rfl rfl ?_;exact wC
 ·rw[CC (show ¬((16:Int)<=6) by decide),CC (show ¬((16:Int)<=9) by decide),CC (show ¬((16:Int)<=12) by decide),CC (show ¬((16:Int)=13) by decide),CC (show ¬((16:Int)=14) by decide),CC (show ¬((16:Int)=15) by decide),CE (show((16:Int))=16 by decide)]
  refine ZP ?_
  refine CL rfl rfl ?_;exact wC
 ·rw[CC (show ¬((17:Int)<=6) by decide),CC (show ¬((17:Int)<=9) by decide),CC (show ¬((17:Int)<=12) by decide),CC (show ¬((17:Int)=13) by decide),CC (show ¬((17:Int)=14) by decide),CC (show ¬((17:Int)=15) by decide),CC (show ¬((17:Int)=16) by decide),CE (show((17:Int))=17 by decide)]
  refine ZP ?_
  refine CL rfl rfl ?_;exact wC
 ·rw[CC (show ¬((18:Int)<=6) by decide),CC (show ¬((18:Int)<=9) by decide),CC (show ¬((18:Int)<=12) by decide),CC (show ¬((18:Int)=13) by decide),CC (show ¬((18:Int)=14) by decide),CC (show ¬((18:Int)=15) by decide),CC (show ¬((18:Int)=16) by decide),CC (show ¬((18:Int)=17) by decide)]
  refine ZP ?_
  refine CL rfl rfl ?_;exact wC
 rw[CC (show ¬((19:Int)<=6) by decide),CC (show ¬((19:Int)<=9) by decide),CC (show ¬((19:Int)<=12) by decide),CC (show ¬((19:Int)=13) by decide),CC (show ¬((19:Int)=14) by decide),CC (show ¬((19:Int)=15) by decide),CC (show ¬((19:Int)=16) by decide),CC (show ¬((19:Int)=17) by decide)]
 refine ZP ?_
 refine CL rfl rfl ?_;exact wC
def Gg(zs:List Int)(c:js)(b:kq zs)(d:c.i<=zs.length):zzB 114 false [.ptr (jr zs c),.val none [I 40]] [.ptr (jr zs (mh zs c).2),.val none [I 40]] .one (qo .own (mh zs c).1):=by
 have e:=bX zs c 41 b d (by decide);have g:=bQ zs c (n:=41) (by decide);obtain⟨n,h⟩:=Z3 g.1;have a:(bC zs c 41).1.toNat=n:=by rw[h];rfl
 unfold mh;rw[a];rw[h]at e g;refine fM 27 [(61,[2,0]),(259,[2,0])] [] [(0,0),(0,0)] Tryz.func114 rfl (λu q=>?_) (.inr (N3 _))
 refine ZP ?_
 refine CK (ι:=Nat) (λi=>[(0,.H .box (jr zs (mF zs c i).2)),(5,.H .one (qo .own (mF zs c i).1)),(6,.H .one [I ((n:Nat):Int)]),(7,.H .one [I ((i:Nat):Int)])]) (λi=>i<=n) (λi=>n - i) (0) ?_ (Z0 _) λi p=>?_
 ·exact wC
 obtain⟨t,-,j⟩:=q9 (zs:=zs) (c:=c) d (n:=i) ω;by_cases w:i<n
 ·have k:=J2 zs (mF zs c i).2 (1+(i:Int) / 2) b j ω
  have l:((i:Nat):Int).tdiv 2=(i:Int) / 2:=Int.tdiv_eq_ediv_of_nonneg ω
  repeat'(first|refine gE ?_|with_reducible (first|refine CU l ?_|refine CQ ω ?_)|refine CV (aO λ_=>rfl) (λr o=>by rw[C2.1 o];rfl) (by simp[bn,eG,fj.enc]) (by simp;omega) (by simp only[O1];exact zd (by simp;omega) (by decide)) rfl ?_)
  (refine CG (i+1) ω ω ?_)
  repeat'(first|exact trivial|rfl| exact dG _ |exact CN rfl (CN (C1 (C.s dX.own) (by simp[mF];rfl)) trivial)|refine CN ?_ ?_|(exact Be (by first|omega|(simp only;omega)|(simp;omega))))
 obtain rfl:i=n:=ω
 refine ZE ?_
 refine CL rfl rfl ?_;exact wC
def rfs(h:ac):List Int:=h.F.u
def Ff(k:ah)(p:Int):(newK k p).1.u=k.u:=by unfold newK;split<;>rfl
def uZ(k:ah)(p:Int):∀n,(newsK k p n).1.u=k.u
 | 0=>rfl
 | n+1=>by
  unfold newsK;split
  ·exact(Ff _ _).trans (uZ k p n)
  exact uZ k p n
def RN(h:ac)(i:Nat):rfs (jw h i).1=rfs h:=by unfold jw;split<;>rfl
def D7(h:ac)(t c:Nat):rfs (smallA h t c).1=rfs h:=by
 unfold smallA;split
 ·rfl
 split
 ·rfl
 split
 ·rfl
 split
 ·exact Ff _ _
 exact(RN _ _).trans (Ff _ _)
def rF(h:ac)(t n:Int):rfs (allocH h t n).1=rfs h:=by
 unfold allocH;split
 ·rfl
 split
 ·rfl
 split
 ·rfl
 split
 ·rfl
 split
 ·split
  ·exact D7 _ _ _
  exact D7 _ _ _
 unfold largeA;split
 ·rfl
 split
 ·exact uZ _ _ _
 exact((kn _ _ _).2).trans (uZ _ _ _)
def Ti(h:ac)(t i:Nat):rfs (freeT h t i).1=rfs h:=by
 unfold freeT;split
 ·exact(kn _ _ _).2
 split
 ·rfl
 split
 ·exact(fW t _ _).2.2.2.2.2.2.2
 split<;>rfl
def Do(t:Nat)(h:ac):∀k,rfs (flushN t h k).1=rfs h
 | 0=>rfl
 | k+1=>((fy _ (spilt (flushN t h k).1 t k)).2.2.2.2.2.2.2).trans (Do t h k)
def Lb{h:ac}(a:bc h [])(b:JI h):∀n,rfs (stN h n).1=rfs h
 | 0=>rfl
 | n+1=>by
  obtain⟨c,d⟩:=wh a b n;unfold stN;split
  ·rename_i e
   unfold uy at e;rw[I0]at e;exact((oY c e.1).2.2.1).trans (Lb a b n)
  exact Lb a b n
def QP{w:br}{m:Nat}(h:tM w m)(a:fj):rfs (mN w a).1.a=rfs w.a:=by
 unfold mN;split
 ·exact rF _ _ _
 split
 ·split
  ·rfl
  unfold nK;split
  ·unfold re
   split
   ·rfl
   split
   ·exact Ti _ _ _
   rfl
  split
  ·unfold ow
   split
   ·rfl
   split
   ·rfl
   split<;>rfl
  unfold qY;split
  ·exact((kn _ _ _).2).trans (oQ _ _ _).2.2
  rfl
 split
 ·unfold g9
  split
  ·split<;>rfl
  split
  ·rfl
  split
  ·exact(fW _ _ _).2.2.2.2.2.2.2
  exact Do _ _ _
 split
 ·unfold pw
  split
  ·exact(fy _ _).2.2.2.2.2.2.2
  rfl
 split
 ·unfold pk
  split
  ·rfl
  show rfs (started w.a).1=_;unfold rfs;rw[(qU h.inv).2.1]
 split
 ·exact Lb h.inv h.ji _
 rfl
def K5{c:cS}(h:H4 c)(acts:List fj):∀n,rfs (Bi c acts n).1.a=c.u
 | 0=>rfl
 | n+1=>(QP (vL h acts n) _).trans (K5 h acts n)
def sP(w:br):List C:=bL w.a++aG.enc .U w.b5
def U2(w:br):dM (sP w)=br.enc .U w:=by
 unfold sP;rw[gd,bP,<-Cj,tY,Cj]
 rfl
def H7(w:br)(id:Int)(g:w.a.O.length<=1048576):zzB 274 false [.ptr (sP w),.val none [I id]] [.ptr (sP w),.val none [I id]] .one [I (rO w.a id)]:=by
 refine fM 28 [] [] [(0,0),(0,0)] Tryz.func274 rfl (λu q=>?_)
 refine ZP ?_
 refine CK (ι:=Nat) (λi=>[(0,.H .box (sP w)),(1,.H .one [I (id)]),(5,.H .one [I ((i:Nat):Int)])]) (λi=>i<=w.a.O.length/\∀(j:Nat)(z:bu),j<i->w.a.O[j]? = some z->QI id z=false) (λi=>w.a.O.length - i) (0) ?_ (⟨Z0 _,λj z h=>ω⟩) λi c=>?_
 ·exact wC
 obtain⟨c,b⟩:=c;by_cases d:i<w.a.O.length
 ·have a:=ar d
  by_cases e:(nth w.a.O i).Id=id
  ·refine ZB ?_
   refine CL rfl (C1 (λz=>[I z]) (dE a (O0 e) b).symm) ?_;exact wC
  refine ZB ?_
  (refine CG (i+1) ⟨ω,eA a (X0 e) b⟩ ω ?_;(exact wC))
 refine ZE ?_
 refine CL rfl (C1 (λz=>[I z]) (gv ω b).symm) ?_;exact wC
def dr(y:ac):(bL y).length=24:=rfl
def BC(w:br)(m n:Nat)(h:tM w m)(B:n<=50):zzB 280 false [.ptr (sP w),.val none [I (n:Nat)]] [.ptr (sP ⟨(stN w.a n).1,w.b5⟩),.val none [I (n:Nat)]] .one [I ((stN w.a n).2:Nat)]:=by
 refine fM 35 [(431,[2])] [] [(0,0),(0,0)] Tryz.func280 rfl (λu q=>?_)
 refine ZP ?_
 refine CK (ι:=Nat) (λi=>[(0,.H .box (sP ⟨(stN w.a i).1,w.b5⟩)),(1,.H .one [I ((n:Nat):Int)]),(5,.H .one [I (((stN w.a i).2:Nat):Int)]),(6,.H .one [I ((i:Nat):Int)])]) (λi=>i<=n/\(stN w.a i).2=i) (λi=>n - i) (0) ?_ (⟨Z0 _,rfl⟩) λi l=>?_
 ·exact wC
 obtain⟨l,C⟩:=l;obtain⟨o,D⟩:=wh h.inv h.ji i;have b:stN w.a (i+1)=if uy (stN w.a i).1=true then(mStep (stN w.a i).1,(stN w.a i).2+1) else stN w.a i:=rfl
 have p:=(aC.1 o.ker).2.2.2.2;by_cases E:i<n
 ·cases c:(stN w.a i).1.q with
  | true=>
   have y:=(FB _ o c).frame (r:=aG.enc .U w.b5) ((dr _).trans (dr _).symm);by_cases g:(stN w.a i).1.F.Calls<=99000
   ·have d:uy (stN w.a i).1=true:=by unfold uy;rw[c,O0 g];rfl
    rw[CE d]at b;generalize stN w.a i=s at *
    repeat'(first|refine gE ?_|refine Bf.t (O0 g) ?_|refine Bf.t c ?_)
    (refine CG (i+1) ⟨ω,by rw[b];simp only;omega⟩ ω ?_)
    rw[b];exact wC
   have d:uy (stN w.a i).1=false:=by unfold uy;rw[c,X0 g];rfl
   have a:∀k,stN w.a (i+k)=stN w.a i:=λk=>by
    induction k with
    | zero=>rfl
    | succ k j=>show(if uy (stN w.a (i+k)).1=true then _ else stN w.a (i+k))=_;rw[j,d,CC (by simp)]
   have e:=a (n - i);rw[show i+(n - i)=n by omega]at e;rw[e];generalize stN w.a i=s at *
   repeat'(first|refine gE ?_|refine Bf.f (X0 g) ?_|refine Bf.t c ?_)
   refine CL rfl rfl ?_;exact wC
  | false=>
   have d:uy (stN w.a i).1=false:=by unfold uy;rw[c];rfl
   have a:∀k,stN w.a (i+k)=stN w.a i:=λk=>by
    induction k with
    | zero=>rfl
    | succ k j=>show(if uy (stN w.a (i+k)).1=true then _ else stN w.a (i+k))=_;rw[j,d,CC (by simp)]
   have e:=a (n - i);rw[show i+(n - i)=n by omega]at e;rw[e];generalize stN w.a i=s at *
   repeat'(first|refine gE ?_|refine Bf.f c ?_)
   refine CL rfl rfl ?_;exact wC
 obtain rfl:i=n:=ω
 refine ZE ?_
 refine CL rfl rfl ?_;exact wC
def Kv{k:ah}(a:aD k=true):(aD k&&decide (k.Calls<100000))=decide (k.Calls≠100000):=by
 have:=(aC.1 a).2.2.2.2;rw[a,Bool.true_and,I6,C0,C0];omega
def Ax(w:br)(a:fj)(m:Nat)(h:tM w m)(B:a.b6=5\/a.b6=6\/a.b6=7):zzB 276 false [.ptr (sP w),.val (some 5) (fj.enc .U a)] [.ptr (sP ⟨(g9 w.a a).1,w.b5⟩),.val (some 5) (fj.enc .U a)] .one [I (g9 w.a a).2]:=by
 have d:=h.inv;have o:=d.nc;have p:w.a.S.length<=4:=by have:=(dS.1 d.mail).1.2.1;omega
 have C:=lf.of d.mail;have i:=nk w.a.F (bk d.ker);rw[Kv d.ker]at i;have j:=aK a.a5 0 (w.a.S.length - 1:Int);unfold g9;refine fM 59 [(423,[2,0]),(424,[2,0])] [(3,267,[15,16,17,18,19,20,21,14,22,23,6,0,1,2,3,4,5,6,7,8,9,10,11,1009,12]),(8,15,[30,31,32,33,34,35,36,37,38,39,40,41,42,43,44])] [(0,0),(0,0)] Tryz.func276 rfl (λu q=>?_);by_cases l:a.b6=5
 ·rw[CE l]
  by_cases e:0<=a.a5/\a.a5<=w.a.S.length - 1
  ·have y:pD w.a a:=e
   obtain⟨t,g⟩:=Z3 e.1;have b:=J6 w.a.w t d.mail ω;rw[<-g]at b;rw[g]at e |-;simp only[Y3];rw[g]at b;by_cases c:0<(nth w.a.w.V t).length
   ·rw[CE (show pD w.a a/\0<(nth w.a.w.V t).length from⟨y,c⟩)]
    rw[CE c,O0 c]at b;rw[<-g]at b
    repeat'(first|refine gB ?_|with_reducible refine Bf.E (λk=>?_) (λk=>?_)|refine CH (b) ⟨⟨rfl,aP.enc_fz w.a.w⟩,⟨rfl,rfl⟩,trivial⟩ ?_)
    refine CL rfl rfl ?_;exact wC
   rw[CC (show ¬(pD w.a a/\0<(nth w.a.w.V t).length) from λx=>c x.2)];rw[CC c,X0 c]at b;rw[<-g]at b
   repeat'(first|refine gB ?_|with_reducible refine Bf.E (λk=>?_) (λk=>?_)|refine CH (b) ⟨⟨rfl,aP.enc_fz w.a.w⟩,⟨rfl,rfl⟩,trivial⟩ ?_)
   refine CL rfl rfl ?_;exact wC
  rw[CC (show ¬(pD w.a a/\0<(nth w.a.w.V a.a5.toNat).length) from λx=>e x.1)];have b:=KN w.a.w a.a5 d.mail ω
  repeat'(first|refine gB ?_|with_reducible refine Bf.E (λk=>?_) (λk=>?_)|refine CH (b) ⟨⟨rfl,aP.enc_fz w.a.w⟩,⟨rfl,rfl⟩,trivial⟩ ?_)
  refine CL rfl rfl ?_;exact wC
 rw[CC l];by_cases e:w.a.F.Calls≠100000;rotate_left
 ·rw[CE (show ¬(w.a.F.Calls≠100000/\pD w.a a) from λx=>e x.1)]
  rw[X0 e]at i
  repeat'(first|refine gB ?_|refine CH (i) ⟨⟨rfl,CS _⟩,trivial⟩ ?_)
  refine CL rfl rfl ?_;exact wC
 rw[O0 e]at i;by_cases c:0<=a.a5/\a.a5<=w.a.S.length - 1;rotate_left
 ·rw[CE (show ¬(w.a.F.Calls≠100000/\pD w.a a) from λx=>c x.2)]
  rw[X0 c]at j
  repeat'(first|refine gB ?_|refine CH (i) ⟨⟨rfl,CS _⟩,trivial⟩ ?_)
  refine CL rfl rfl ?_;exact wC
 rw[CC (show ¬¬(w.a.F.Calls≠100000/\pD w.a a) from z5 ⟨e,c⟩)];rw[O0 c]at j;obtain⟨t,g⟩:=Z3 c.1;by_cases n:a.b6=6
 ·rw[CE n]
  have b:=(x5 w.a t d ω).frame (r:=aG.enc .U w.b5) ((dr _).trans (dr _).symm);rw[show a.a5.toNat=t by omega];rw[<-g]at b
  repeat'(first|refine gB ?_|refine CH (i) ⟨⟨rfl,CS _⟩,trivial⟩ ?_)
  refine CL rfl rfl ?_;exact wC
 rw[CC n];have b:=(By w.a t d ω).frame (r:=aG.enc .U w.b5) ((dr _).trans (dr _).symm);rw[show a.a5.toNat=t by omega];rw[<-g]at b
 repeat'(first|refine gB ?_|refine CH (i) ⟨⟨rfl,CS _⟩,trivial⟩ ?_)
 refine CL rfl rfl ?_;exact wC
def zH(w:br)(a:fj)(i m:Nat)(h:tM w m)(X:m<=900)(G:Qw a)(t:i<w.a.O.length):zzB 275 false [.ptr (sP w),.val (some 5) (fj.enc .U a),.val none [I (i:Nat)]] [.ptr (sP (nK w a i).1),.val (some 5) (fj.enc .U a),.val none [I (i:Nat)]] .one [I (nK w a i).2]:=by
 have e:=h.inv;have b:=ar t;have M:=vW e (au t);have N:=db e (au t) (k:=0);have O:1<=(nth w.a.O i).y/\(nth w.a.O i).y<=1000:=by
  rcases e.oow _ (au t) with⟨s,P,Y,Z⟩|⟨l,H,d,c⟩
  ·have hc:=aI (e.L.sok s P)
   have:=jq (n:=(nth w.a.O i).y) ω;omega
  have h8:=de (e.L.lok l H);omega
 have g:=nk w.a.F (bk e.ker);rw[Kv e.ker]at g;have Q:=G.k;have R:=G.p;have S:=G.v;unfold nK;refine fM 126 [(416,[2,0,0]),(418,[2,0,0]),(420,[2,0,0])] [(6,7,[29,30,31,32,33,34,35]),(8,269,[40,41,42,43,44,45,46,47,39,48,49,50,51,0,1,2,3,4,5,6,7,8,9,10,11,12,13,1010]),(13,10,[62,63,64,65,66,67,68,69,70,71]),(15,273,[76,77,78,79,80,81,82,83,84,85,86,87,75,88,89,90,91,0,1,2,3,4,5,6,7,8,9,10,11,12,13,14,15,16,17,1014]),(17,15,[93,94,95,96,97,98,99,100,101,102,103,104,105,106,107]),(19,271,[112,113,114,115,116,117,118,119,120,121,111,122,123,124,125,0,1,2,3,4,5,6,7,8,9,10,11,12,13,14,15,1012])] [(0,0),(0,0),(0,0)] Tryz.func275 rfl (λu q=>?_);by_cases J:a.b6=2
 ·rw[CE J]
  unfold re;by_cases d:w.a.F.Calls=100000
  ·rw[CE d]
   rw[X0 (z5 d)]at g
   repeat'(first|refine gB ?_|refine CH (g) ⟨⟨rfl,CS _⟩,trivial⟩ ?_)
   refine CL rfl rfl ?_;exact wC
  rw[CC d];rw[O0 d]at g;have C:=(T8 w.a i a.a5 e t).frame (r:=aG.enc .U w.b5) ((dr _).trans (dr _).symm);by_cases c:0<=a.a5/\a.a5<=w.a.S.length - 1
  ·rw[CE (show pD w.a a from c)]
   rw[CE c,CE c]at C;have T:=FW w.b5 (nth w.a.O i).Id m h.ref ω;generalize freeT w.a a.a5.toNat i=f at C |-;by_cases o:f.2=0
   ·rw[CE o]
    repeat'(first|refine gB ?_|with_reducible refine Bf.E (λj=>?_) (λj=>?_)|refine CH (g) ⟨⟨rfl,CS _⟩,trivial⟩ ?_|refine Cl.sh T rfl ?_)
    refine CL rfl rfl ?_;exact wC
   rw[CC o]
   repeat'(first|refine gB ?_|with_reducible refine Bf.E (λj=>?_) (λj=>?_)|refine CH (g) ⟨⟨rfl,CS _⟩,trivial⟩ ?_)
   refine CL rfl rfl ?_;exact wC
  rw[CC (show ¬pD w.a a from c)];rw[CC c,CC c]at C
  repeat'(first|refine gB ?_|with_reducible refine Bf.E (λj=>?_) (λj=>?_)|refine CH (g) ⟨⟨rfl,CS _⟩,trivial⟩ ?_)
  refine CL rfl rfl ?_;exact wC
 rw[CC J];by_cases K:a.b6=3
 ·rw[CE K]
  unfold ow;have D:=aK a.At 0 ((nth w.a.O i).y - 1);by_cases d:0<=a.At/\a.At<=(nth w.a.O i).y - 1;rotate_left
  ·rw[CE d]
   rw[X0 d]at D
   repeat'(first|refine gB ?_|with_reducible refine Bf.E (λj=>?_) (λj=>?_))
   refine CL rfl rfl ?_;exact wC
  rw[CC (z5 d)];rw[O0 d]at D;have F:=(BG w.a i a.At a.Value e t d).frame (r:=aG.enc .U w.b5) (by split<;>rfl);have U:=db e (au t) d;by_cases c:(af w.a.F.G.Q (((nth w.a.O i).Addr+a.At) / 16)).j=1
  ·rw[CE c]
   rw[CE (.inl c),CE c]at F
   repeat'(first|refine gB ?_|with_reducible refine Bf.E (λj=>?_) (λj=>?_))
   refine CL rfl rfl ?_;exact wC
  rw[CC c];by_cases o:0<=a.Value/\a.Value<=999;rotate_left
  ·rw[CE o]
   rw[CE (.inr o),CC c,CE o]at F
   repeat'(first|refine gB ?_|with_reducible refine Bf.E (λj=>?_) (λj=>?_))
   refine CL rfl rfl ?_;exact wC
  rw[CC (z5 o)];rw[CC (λx=>x.elim c λy=>y o),CC c,CC (z5 o)]at F;obtain⟨b5,V⟩:=EP w.b5 (nth w.a.O i).Id a.At a.Value m h.ref ω o
  repeat'(first|refine gB ?_|with_reducible refine Bf.E (λj=>?_) (λj=>?_))
  refine CL rfl rfl ?_;exact wC
 rw[CC K];unfold qY;by_cases d:w.a.F.Calls=100000
 ·rw[CC (λx=>x.1 d)]
  rw[X0 (z5 d)]at g
  repeat'(first|refine gB ?_|refine CH (g) ⟨⟨rfl,CS _⟩,trivial⟩ ?_)
  refine CL rfl rfl ?_;exact wC
 rw[O0 d]at g;by_cases c:mX w.a i a.Value
 ·rw[CE ⟨d,c⟩]
  have B:=(uk w.a i a.Value e t c.1).frame (r:=aG.enc .U w.b5) (by split<;>rfl);rw[CE c,O0 c]at B;obtain⟨b7,W⟩:=GQ w.b5 (nth w.a.O i).Id a.Value m h.ref ω
  repeat'(first|refine gB ?_|refine CH (g) ⟨⟨rfl,CS _⟩,trivial⟩ ?_)
  refine CL rfl rfl ?_;exact wC
 rw[CC (λx=>c x.2)];by_cases o:Da w.a (nth w.a.O i).Addr<0
 ·have B:=(Lr w.a (nth w.a.O i).Addr a.Value (by have:=e.lens.larges;omega) e.L.lok o).frame (r:=aG.enc .U w.b5) ((dr _).trans (dr _).symm)
  repeat'(first|refine gB ?_|refine CH (g) ⟨⟨rfl,CS _⟩,trivial⟩ ?_)
  refine CL rfl rfl ?_;exact wC
 have B:=(uk w.a i a.Value e t ω).frame (r:=aG.enc .U w.b5) (by split<;>rfl);rw[CC c,X0 c]at B
 repeat'(first|refine gB ?_|refine CH (g) ⟨⟨rfl,CS _⟩,trivial⟩ ?_)
 refine CL rfl rfl ?_;exact wC
def tM.fit{w:br}{m:Nat}(h:tM w m)(a:fm w.a.F.u):ac.sml w.a/\ac.wf w.a:=
 ⟨(h.inv.fit a (lf.of h.inv.mail).sml).sml,h.inv.wf a⟩
def Le(w:br)(a:fj)(m:Nat)(h:tM w m)(K:m<=900)(L:fm w.a.F.u)(p:Qw a):zzB 121 false [.ptr (sP w),.val (some 5) (fj.enc .U a)] [.ptr (sP (mN w a).1),.val (some 5) (fj.enc .U a)] .one [I (mN w a).2]:=by
 have i:=h.inv;have M:=p.k;have O:=p.n;have j:=i.nums;unfold cx at j;rw[C0]at j;unfold mN;refine fM 123 [(74,[2,0,0]),(274,[2,0]),(275,[2,0,0]),(276,[2,0]),(278,[2,0]),(279,[2]),(280,[2,0])] [(3,265,[13,14,15,16,17,18,19,21,22,0,1,2,3,4,5,6,7,8,9,10,11,1010,12]),(5,269,[26,27,28,29,30,31,32,33,25,34,35,36,37,0,1,2,3,4,5,6,7,8,9,10,11,12,13,1010]),(19,21,[62,63,64,65,66,67,68,69,70,71,72,73,74,75,76,77,78,79,80,81,82]),(21,5,[86,87,88,89,90])] [(0,0),(0,0)] Tryz.func121 rfl (λu q=>?_);by_cases F:a.b6=1
 ·rw[CE F]
  have c:=(B8 w.a a.a5 a.N i).frame (r:=aG.enc .U w.b5) ((dr _).trans (dr _).symm);by_cases e:(allocH w.a a.a5 a.N).2.2=0
  ·rw[CE e]
   have y:1<=a.N/\a.N<=1000:=by
    refine Classical.byContradiction λB=>?_
    unfold allocH at e;rw[CE B]at e;split at e
    ·exact absurd (show(5:Int)=0 from e) (by decide)
    split at e
    ·exact absurd (show(1:Int)=0 from e) (by decide)
    exact absurd (show(2:Int)=0 from e) (by decide)
   have o:=Di w.b5 a.N m h.ref ω y;generalize allocH w.a a.a5 a.N=f at c e |-
   repeat'(first|refine gB ?_|with_reducible refine Bf.E (λb=>?_) (λb=>?_))
   refine CL rfl rfl ?_;exact wC
  rw[CC e];generalize allocH w.a a.a5 a.N=f at c e |-
  repeat'(first|refine gB ?_|with_reducible refine Bf.E (λb=>?_) (λb=>?_))
  refine CL rfl rfl ?_;exact wC
 rw[CC F];by_cases G:a.b6=2\/a.b6=3\/a.b6=4
 ·rw[CE G]
  have c:=H7 w a.N (by have:=i.lens.objs;omega);by_cases e:rO w.a a.N<0
  ·rw[CE e]
   repeat'(first|refine gB ?_|with_reducible refine Bf.E (λb=>?_) (λb=>?_))
   all_goals first|omega|skip
   all_goals
    refine CL rfl rfl ?_;exact wC
  rw[CC e];obtain⟨P,S,T⟩:=gq (QI a.N) w.a.O (by unfold rO at e;omega);have o:=zH w a (rO w.a a.N).toNat m h K p P;rw[show(((rO w.a a.N).toNat:Nat):Int)=rO w.a a.N by omega]at o
  repeat'(first|refine gB ?_|with_reducible refine Bf.E (λb=>?_) (λb=>?_))
  all_goals first|omega|skip
  all_goals
   refine CL rfl rfl ?_;exact wC
 rw[CC G];by_cases C:a.b6=5\/a.b6=6\/a.b6=7
 ·rw[CE C]
  have c:=Ax w a m h C
  repeat'(first|refine gB ?_|with_reducible refine Bf.E (λb=>?_) (λb=>?_))
  all_goals first|omega|skip
  all_goals
   refine CL rfl rfl ?_;exact wC
 rw[CC C];by_cases H:a.b6=8
 ·rw[CE H]
  unfold pw;have d:=nk w.a.F (bk i.ker);rw[Kv i.ker]at d;have c:=aK a.N 0 1000;by_cases g:w.a.F.Calls≠100000;rotate_left
  ·rw[CC (λx=>g x.1)]
   rw[X0 g]at d
   repeat'(first|refine gB ?_|with_reducible refine Bf.E (λb=>?_) (λb=>?_)|refine CH (d) ⟨⟨rfl,CS _⟩,trivial⟩ ?_)
   refine CL rfl rfl ?_;exact wC
  rw[O0 g]at d;by_cases l:0<=a.N/\a.N<=1000;rotate_left
  ·rw[CC (λx=>l x.2.1)]
   rw[X0 l]at c
   repeat'(first|refine gB ?_|with_reducible refine Bf.E (λb=>?_) (λb=>?_)|refine CH (d) ⟨⟨rfl,CS _⟩,trivial⟩ ?_)
   refine CL rfl rfl ?_;exact wC
  rw[O0 l]at c;by_cases D:w.a.b2+a.N<=1000000
  ·rw[CE ⟨g,l,D⟩]
   have o:=(EA w.a a.N i l D).frame (r:=aG.enc .U w.b5) ((dr _).trans (dr _).symm)
   repeat'(first|refine gB ?_|with_reducible refine Bf.E (λb=>?_) (λb=>?_)|refine CH (d) ⟨⟨rfl,CS _⟩,trivial⟩ ?_)
   refine CL rfl rfl ?_;exact wC
  rw[CC (λx=>D x.2.2)]
  repeat'(first|refine gB ?_|with_reducible refine Bf.E (λb=>?_) (λb=>?_)|refine CH (d) ⟨⟨rfl,CS _⟩,trivial⟩ ?_)
  refine CL rfl rfl ?_;exact wC
 rw[CC H];by_cases J:a.b6=9
 ·rw[CE J]
  unfold pk;obtain⟨Q,R⟩:=h.fit L;have d:=Hw w.a Q R;rw[show dh w.a=true from i.to]at d;cases g:w.a.q with
  | true=>
   rw[CE rfl]
   repeat'(first|refine gB ?_|with_reducible refine Bf.E (λb=>?_) (λb=>?_)|refine Bf.t g ?_)
   refine CL rfl rfl ?_;exact wC
  | false=>
   rw[CC (by simp)];have c:=(Bo w.a i).frame (r:=aG.enc .U w.b5) ((dr _).trans (dr _).symm);cases l:(started w.a).2<;>rw[l]at c
   ·rw[CC (by simp)]
    repeat'(first|refine gB ?_|with_reducible refine Bf.E (λb=>?_) (λb=>?_)|refine Bf.f g ?_|refine CH (d) ⟨⟨rfl,bP w.a⟩,trivial⟩ ?_)
    refine CL rfl rfl ?_;exact wC
   rw[CE rfl]
   repeat'(first|refine gB ?_|with_reducible refine Bf.E (λb=>?_) (λb=>?_)|refine Bf.f g ?_|refine CH (d) ⟨⟨rfl,bP w.a⟩,trivial⟩ ?_)
   refine CL rfl rfl ?_;exact wC
 rw[CC J];have k10:a.b6=10:=ω
 have d:=aK a.N 0 50;by_cases g:0<=a.N/\a.N<=50
 ·rw[CE ⟨k10,g⟩]
  rw[O0 g]at d;obtain⟨n,B⟩:=Z3 g.1;have c:=BC w m n h ω;rw[show a.N.toNat=n by omega];rw[<-B]at c
  repeat'(first|refine gB ?_|with_reducible refine Bf.E (λb=>?_) (λb=>?_))
  refine CL rfl rfl ?_;exact wC
 rw[CC (λx=>g x.2)];rw[X0 g]at d
 repeat'(first|refine gB ?_|with_reducible refine Bf.E (λb=>?_) (λb=>?_))
 refine CL rfl rfl ?_;exact wC
def FD(w:br)(h1:ac.sml w.a)(a:aG.sml w.b5):zzA 122 false [.val (some 26) (br.enc .U w)] .agg (br.enc .own w):=by
 have b:=Gb w.a h1;have c:=fh w.b5 a;refine fO 10 [(1,5,[3,4,5,6,7])] Tryz.func122 rfl ?_ (.inr (br.enc_fr _))
 refine ZP ?_
 rfl
def FZ(c:cS)(acts:List fj)(h:H4 c)(d:fm c.u)(n:∀a∈acts,Qw a)(D:acts.length<=80):zzA 44 false [.val (some 5) (cS.enc .U c),.val none (qo .U acts)] (.tup [some 26,none]) (br.enc .own (Bi c acts acts.length).1++aH .own (Bi c acts acts.length).2):=by
 have o:=B2 c h;refine fP 42 [(121,[2,0]),(2000005,[6,21,25])] [] Tryz.func44 rfl ?_ (.inr (aJ (br.enc_fr _) (bO _)))
 repeat'(first|refine gE ?_|refine JT.mk rfl rfl rfl ?_)
 refine CK (ι:=Nat) (λi=>[(1,.H .one (qo .U acts)),(4,.H .box [.z,.z,.z,I 0,.z,.z,.z,.z,.z,.z,.z,.z,I 0,.z,I 0,I 0,I 0,I 0,B false,I 0,I 0,.z,I 0,I 0,I 0,.z]),(6,.H .box (sP (Bi c acts i).1)),(8,.H .one (aH .own (Bi c acts i).2)),(9,.H .one [I ((i:Nat):Int)])]) (λi=>i<=acts.length) (λi=>acts.length - i) (0) ?_ (Z0 _) λi p=>?_
 ·repeat'(first|exact trivial|rfl |exact nL q|exact dG _|refine CN ?_ ?_|(exact Be (by first|omega|(simp only;omega)|(simp;omega))))
 have e:=vL h acts i;have b:=K5 h acts i;have g:(Bi c acts i).2.length=i:=by
  clear e b p
  induction i with
  | zero=>rfl
  | succ k t=>show((Bi c acts k).2++[_]).length=_;rw[C4,t];rfl
 by_cases j:i<acts.length
 ·have l:=ar j
  have u:=Le (Bi c acts i).1 (nth acts i) i e ω (by unfold rfs at b;rw[b];exact d) (n _ (au j))
  repeat'(first|refine gE ?_|refine CV cC (λr d=>by rw[C2.1 d];rfl) (by simp[bn,eG]) (by simp;omega) (by simp only[O1];exact zd (by simp;omega) (by decide)) rfl ?_)
  (refine CG (i+1) ω ω ?_)
  repeat'(first|exact trivial|rfl| exact dG _ |exact CN rfl (CN (C1 (C.s dX.own) (by simp[Bi,rI])) trivial)|refine CN ?_ ?_|(exact Be (by first|omega|(simp only;omega)|(simp;omega))))
 obtain rfl:i=acts.length:=ω
 have w:=e.fit (by unfold rfs at b;rw[b];exact d);have y:=FD (Bi c acts acts.length).1 w.1 (e.ref.sml ω)
 repeat'(first|refine gE ?_|refine CH (y) ⟨⟨rfl,U2 _⟩,trivial⟩ ?_)
 rfl
def JE(zs:List Int)(c:js):fm (sF zs c).u:=by
 show fm (qF zs 4 0 [] (FA zs c).2).1;have key:∀(f i:Nat)(out:List Int)(c:js),(∀x∈out,oy x)->∀x∈(qF zs f i out c).1,oy x:=by
  intro f
  induction f with
  | zero=>intro i out c h;exact h
  | succ f b=>
   intro i out c h;unfold qF;split
   ·refine b _ _ _ λx a=>?_
    rcases t4.1 a with a|a
    ·exact h x a
    rw[C2.1 a];have:=bQ zs (bC zs c 4).2 (n:=12) (by decide);exact⟨ω,ω⟩
   exact h
 exact⟨by
   have d:∀(f i:Nat)(out:List Int)(c:js),out.length+f<=4->(qF zs f i out c).1.length<=4:=by
     intro f
     induction f with
     | zero=>intro i out c h;exact h
     | succ f b=>
       intro i out c h;unfold qF;split
       · exact b _ _ _ (by simp only[C4,List.length_singleton];omega)
       show out.length<=4;omega
   have:=d 4 0 [] (FA zs c).2 (v4 _);omega,key 4 0 [] _ (λx a=>by cases a)⟩
def BV(zs:List Int)(a:kq zs):zzB 59 false [.ptr (jr zs (uK zs))] [.ptr (jr zs (mh zs (eO zs)).2)] .agg (br.enc .own (drawn zs)):=by
 have b:(uK zs).i<=zs.length:=Z0 _;obtain⟨g,d⟩:=qS b;have o:=bQ zs (eO zs) (n:=41) (by decide);obtain⟨p,h,-⟩:=q9 (zs:=zs) (c:=eO zs) d (n:=(bC zs (eO zs) 41).1.toNat) ω;have e:=A4 zs (uK zs) a b;have j:=Gg zs (eO zs) a d;have k:=FZ (sF zs (uK zs)) (mh zs (eO zs)).1 g (JE zs _) h (by show(mF zs (eO zs) _).1.length<=80;omega);have l:drawn zs=(Bi (sF zs (uK zs)) (mh zs (eO zs)).1 (mh zs (eO zs)).1.length).1:=rfl;rw[l];change aQ _ _ _ _ [.ptr (jr zs (eO zs))] _ _ at e;generalize sF zs (uK zs)=cf at *;generalize r:mh zs (eO zs)=A at *;generalize t:Bi cf A.1 A.1.length=R at *;refine fM 14 [(113,[2]),(114,[2,0])] [] [(0,0)] Tryz.func59 rfl (λu q=>?_) (.inr (br.enc_fr _))
 repeat'(first|refine gP ?_|refine CH (k) ⟨⟨rfl,cS.enc_fz _⟩,⟨rfl,NY _⟩,trivial⟩ ?_)
 refine CL rfl rfl ?_;exact wC
def Vy(z:List Int):List C:=[.s .U (z.map rU)]
def xd(zs:List Int)(b:kq zs):sM Tryz.prog 60 true [.val none (Vy zs)] .box (jr zs (uK zs)):=by
 have r:=b.1;have e:IntKind.i64.wrap (98801+(zs.length:Nat))=w64 (98801+(zs.length:Nat)):=rfl;have g:rL zs 0=98801+(zs.length:Nat):=by show w64 _=_;rw[<-e];exact fJ ω ω
 have a:=C1 I g;refine Wn (n:=32) (t:=2) (mo:=[]) (tb:=[]) Tryz.func60 (by kernel_rfl) rfl (by kernel_rfl) (by rfl) rfl ?_
 refine ZP ?_
 refine CK (ι:=Nat) (λi=>[(0,.H .one (Vy zs)),(3,.H .one [I (rL zs i)]),(4,.H .one [I ((i:Nat):Int)])]) (λi=>i<=min zs.length 4000) (λi=>min zs.length 4000 - i) (0) ?_ (Z0 _) λi u=>?_
 ·repeat'(first|exact trivial|rfl |exact nL a|exact dG _|refine CN ?_ ?_|(exact Be (by first|omega|(simp only;omega)|(simp;omega))))
 have h:IntKind.i64.wrap (rL zs i*131)=w64 (rL zs i*131):=rfl;have j:IntKind.i64.wrap (w64 (rL zs i*131)+nth zs i)=w64 (w64 (rL zs i*131)+nth zs i):=rfl;have k:IntKind.i64.wrap (w64 (w64 (rL zs i*131)+nth zs i)+7)=w64 (w64 (w64 (rL zs i*131)+nth zs i)+7):=rfl;have l:IntKind.i64.wrap (BitVec.ofInt IntKind.i64.bits (w64 (w64 (w64 (rL zs i*131)+nth zs i)+7)) &&& BitVec.ofInt IntKind.i64.bits 1073741823).toNat=rL zs (i+1):=rfl;by_cases c:i<zs.length/\i<4000
 ·have d:=ar c.1
  have w:=b.2 _ (au c.1);generalize rL zs i=H at *;generalize o:rL zs (i+1)=H2 at *
  repeat'(first|refine gE ?_|with_reducible (first|refine CP h ?_|refine CP j ?_|refine CP k ?_|refine CP l ?_))
  (refine CG (i+1) ω ω ?_)
  rw[o];exact wC
 obtain rfl:i=min zs.length 4000:=ω
 have p:uK zs = ⟨0,rL zs (min zs.length 4000)⟩:=rfl;rw[p];generalize rL zs (min zs.length 4000)=H at *
 repeat'(first|refine gE ?_|with_reducible refine Bf.D (λq=>?_) (λq=>?_))
 all_goals rfl
def zM(zs:List Int)(a:kq zs):zzA 15 false [.val none (Vy zs)] .agg (br.enc .own (drawn zs)):=by
 have b:=xd zs a;have c:=BV zs a;refine fP 6 [(59,[2])] [] Tryz.func15 rfl ?_ (.inr (br.enc_fr _))
 repeat'(first|refine gP ?_|refine Cl.g b (.inr rfl) ?_)
 rfl
def cls(h:ac):Int:=h.F.Calls
def EM(k:ah)(p:Int):(newK k p).1.Calls=k.Calls+1:=by unfold newK;split<;>rfl
def HF(k:ah)(p:Int):∀n:Nat,(newsK k p n).1.Calls<=k.Calls+n
 | 0=>by show k.Calls<=k.Calls+0;omega
 | n+1=>by
  have a:=HF k p n;unfold newsK;split
  ·refine X6 (Z6 (EM (newsK k p n).1 (p+(n:Nat)))) ?_
   omega
  omega
def Qt(h:ac)(i:Nat):cls (jw h i).1=cls h:=by unfold jw;split<;>rfl
def P8(h:ac)(t c:Nat):cls (smallA h t c).1<=cls h+1:=by
 unfold smallA;split
 ·show cls h<=_;omega
 split
 ·show cls h<=_;omega
 split
 ·show cls h<=_;omega
 split
 ·exact Z6 (EM _ _)
 exact Z6 ((Qt _ _).trans (EM _ _))
def Q6(h:ac)(t i:Nat):cls (freeT h t i).1=cls h:=by
 unfold freeT;split
 ·exact(kn _ _ _).1
 split
 ·rfl
 split
 ·exact(fW t _ _).2.2.1
 split<;>rfl
def DS(t:Nat)(h:ac):∀k,cls (flushN t h k).1=cls h
 | 0=>rfl
 | k+1=>((fy _ (spilt (flushN t h k).1 t k)).2.2.1).trans (DS t h k)
set_option maxHeartbeats 2000000
set_option maxHeartbeats 2000000
set_option maxHeartbeats 2000000
set_option maxHeartbeats 2000000
set_option maxHeartbeats 2000000
set_option maxHeartbeats 2000000
def HW(zs:List Int):fm (drawn zs).a.F.u:=by
 have a:(uK zs).i<=zs.length:=Z0 _;have:=K5 (qS a).1 (mh zs (eO zs)).1 (mh zs (eO zs)).1.length;unfold rfs at this;show fm (Bi _ _ _).1.a.F.u;rw[this];exact JE zs _
def P2(zs:List Int):ac.sml (drawn zs).a/\ac.wf (drawn zs).a:=(yA zs).fit (HW zs)
def Vu(zs:List Int)(a:zs.length<=9223372036854775807):zzA 14 false [.val none (Vy zs)] .one [B (decide ((zs.length:Int) > 1048576))]:=by
 refine fO 6 [] Tryz.func14 rfl ?_
 refine ZP ?_
 rfl
def kh(sp:List aA)(ps:List Int)(b:Int):Nat->Int
 | 0=>b
 | j+1=>if(nth sp j).R∈ps then bor (kh sp ps b j) (nth sp j).a9 else kh sp ps b j
def Aq{sp:List aA}(h:∀s∈sp,bh s=true){ps:List Int}{b:Int}(a:0<=b/\b<=65535):∀j,j<=sp.length->0<=kh sp ps b j/\kh sp ps b j<=65535
 | 0,_=>a
 | j+1,d=>by
  have c:=Aq h (ps:=ps) a j ω;simp only[kh];split
  ·exact Ko c (nj h ω)
  exact c
def sg(h:ac)(i:Nat)(n:dY h.J)(c:xG h)(a:∀s∈h.J,bh s=true)(t:i<h.J.length):zzA 336 false [.val (some 24) (ac.enc .U h),.val none [I (i:Nat)]] .one [I (kh h.J (aX h (nth h.J i).R) (nth h.J i).a9 h.J.length)]:=by
 have C:=n.1;have u:=ar t;have d:=nj a t;have w:=aN ((i:Nat):Int) 0 ((h.J.length:Int) - 1);rw[O0 (show(0:Int)<=(i:Nat)/\((i:Nat):Int)<=(h.J.length:Int) - 1 by omega)]at w;have y:=l7 h (nth h.J i).R c;have o:=gh h (nth h.J i).R;have D:fo h<=1048576:=c.1;obtain⟨ps,p⟩ : ∃ps,aX h (nth h.J i).R=ps:=⟨_,rfl⟩
 obtain⟨b,q⟩ : ∃b,(nth h.J i).a9=b:=⟨_,rfl⟩
 rw[p]at y o |-;rw[q]at d |-;have E:kh h.J ps b 0=b:=rfl;refine fO 47 [(4,7,[22,23,24,25,26,27,28])] Tryz.func336 rfl ?_
 refine ZP ?_
 refine CK (ι:=Nat) (λj=>[(5,.H .one [I (kh h.J ps b j)]),(6,.H .one (aH .own ps)),(31,.H .one (ce .U h.J)),(32,.H .one [I ((h.J.length:Nat))]),(33,.H .one [I ((j:Nat):Int)])]) (λj=>j<=h.J.length) (λj=>h.J.length - j) (0) ?_ (Z0 _) λj F=>?_
 ·exact wC
 by_cases B:j<h.J.length
 ·have k:=ar B
  have r:=Aq a (ps:=ps) d j F;have l:=rR ps (nth h.J j).R ω;by_cases e:(nth h.J j).R∈ps
  ·have g:kh h.J ps b (j+1)=bor (kh h.J ps b j) (nth h.J j).a9:=CE e
   rw[O0 e]at l
   repeat'(first|refine gE ?_|refine CP (or64 r (nj a B)) ?_|refine CH (l) ⟨⟨rfl,dH _⟩,⟨rfl,rfl⟩,trivial⟩ ?_)
   (refine CG (j+1) ω ω ?_;(exact wC))
  have g:kh h.J ps b (j+1)=kh h.J ps b j:=CC e;rw[X0 e]at l
  repeat'(first|refine gE ?_|refine CH (l) ⟨⟨rfl,dH _⟩,⟨rfl,rfl⟩,trivial⟩ ?_)
  (refine CG (j+1) ω ω ?_;(exact wC))
 obtain rfl:j=h.J.length:=ω
 refine ZE ?_
 rfl
def Qc(a b:Int)(k:Nat):(bor a b).toNat.testBit k=true↔a.toNat.testBit k=true\/b.toNat.testBit k=true:=by
 unfold bor;rw[Y3,Nat.testBit_or,X8]
def MB(sp:List aA)(p b:Int)(k:Nat):∀j,(qE sp p b j).toNat.testBit k=true↔b.toNat.testBit k=true\/∃i,i<j/\(nth sp i).R=p/\(nth sp i).a9.toNat.testBit k=true
 | 0=>by simp[qE]
 | j+1=>by
  have g:=MB sp p b k j;simp only[qE];split
  ·rename_i e
   rw[Qc,g];constructor
   ·rintro((h|⟨i,d,a,c⟩)|h)
    ·exact .inl h
    ·exact .inr ⟨i,ω,a,c⟩
    exact .inr ⟨j,ω,e,h⟩
   rintro(h|⟨i,d,a,c⟩)
   ·exact .inl (.inl h)
   by_cases f:i=j
   ·subst f;exact .inr c
   exact .inl (.inr ⟨i,ω,a,c⟩)
  rename_i e;rw[g];constructor
  ·rintro(h|⟨i,d,a,c⟩)
   ·exact .inl h
   exact .inr ⟨i,ω,a,c⟩
  rintro(h|⟨i,d,a,c⟩)
  ·exact .inl h
  by_cases f:i=j
  ·subst f;exact absurd a e
  exact .inr ⟨i,ω,a,c⟩
def Jd(sp:List aA)(ps:List Int)(b:Int)(k:Nat):∀m,(iV sp ps b m).toNat.testBit k=true↔b.toNat.testBit k=true\/∃u,u<m/\∃i,i<sp.length/\(nth sp i).R=nth ps u/\(nth sp i).a9.toNat.testBit k=true
 | 0=>by simp[iV]
 | m+1=>by
  have c:=Jd sp ps b k m;simp only[iV];rw[MB,c];constructor
  ·rintro((h|⟨u,d,a⟩)|h)
   ·exact .inl h
   ·exact .inr ⟨u,ω,a⟩
   exact .inr ⟨m,ω,h⟩
  rintro(h|⟨u,d,a⟩)
  ·exact .inl (.inl h)
  by_cases e:u=m
  ·subst e;exact .inr a
  exact .inl (.inr ⟨u,ω,a⟩)
def Jo(sp:List aA)(ps:List Int)(b:Int)(k:Nat):∀j,(kh sp ps b j).toNat.testBit k=true↔b.toNat.testBit k=true\/∃i,i<j/\(nth sp i).R∈ps/\(nth sp i).a9.toNat.testBit k=true
 | 0=>by simp[kh]
 | j+1=>by
  have g:=Jo sp ps b k j;simp only[kh];split
  ·rename_i e
   rw[Qc,g];constructor
   ·rintro((h|⟨i,d,a,c⟩)|h)
    ·exact .inl h
    ·exact .inr ⟨i,ω,a,c⟩
    exact .inr ⟨j,ω,e,h⟩
   rintro(h|⟨i,d,a,c⟩)
   ·exact .inl (.inl h)
   by_cases f:i=j
   ·subst f;exact .inr c
   exact .inl (.inr ⟨i,ω,a,c⟩)
  rename_i e;rw[g];constructor
  ·rintro(h|⟨i,d,a,c⟩)
   ·exact .inl h
   exact .inr ⟨i,ω,a,c⟩
  rintro(h|⟨i,d,a,c⟩)
  ·exact .inl h
  by_cases f:i=j
  ·subst f;exact absurd a e
  exact .inr ⟨i,ω,a,c⟩
def Q7{sp:List aA}(h:∀s∈sp,bh s=true){ps:List Int}{b:Int}(f:0<=b/\b<=65535):kh sp ps b sp.length=iV sp ps b ps.length:=by
 have a:=Aq h (ps:=ps) f sp.length (v4 _);have c:=mE h (ps:=ps) f ps.length;have e:(kh sp ps b sp.length).toNat=(iV sp ps b ps.length).toNat:=by
  apply Nat.eq_of_testBit_eq;intro k;rw[I6,Jo,Jd];constructor
  ·rintro(h|⟨i,a,c,d⟩)
   ·exact .inl h
   obtain⟨u,g⟩:=List.getElem?_of_mem c;exact .inr ⟨u,(I3.1 g).1,i,a,(bq g).symm,d⟩
  rintro(h|⟨u,a,i,c,d,j⟩)
  ·exact .inl h
  exact .inr ⟨i,c,by rw[d];exact au a,j⟩
 omega
def wL(a:∀s∈h.J,bh s=true)(b:i<h.J.length):kh h.J (aX h (nth h.J i).R) (nth h.J i).a9 h.J.length=eB h i:=Q7 a (nj a b)
def AE(h:ac)(a:∀o∈h.O,0<=o.y/\o.y<=1000)(e:h.O.length<=1048576):zzA 18 false [.val (some 24) (ac.enc .U h)] .one [I (iw h)]:=by
 refine fO 19 [] Tryz.func18 rfl ?_
 refine ZP ?_
 refine CK (ι:=Nat) (λk=>[(3,.H .one [I (tJ h.O k)]),(7,.H .one (oG .U h.O)),(8,.H .one [I (h.O.length)]),(9,.H .one [I ((k:Nat):Int)])]) (λk=>k<=h.O.length) (λk=>h.O.length - k) (0) ?_ (Z0 _) λk d=>?_
 ·exact wC
 have g:=om a k d;by_cases b:k<h.O.length
 ·have c:=ar b
  have i:=a _ (au b)
  refine ZE ?_
  (refine CG (k+1) ω ω ?_;(exact wC))
 obtain rfl:k=h.O.length:=ω
 refine ZE ?_
 rfl
def qt(k b:Int)(e:b<=9223372036854775807):zzA 334 false [.val none [I (slots k)],.val none [I b]] .one (aH .own (pc k b)):=by
 have c:=sG k b;have n:0<=slots k/\slots k<=16:=by unfold slots;repeat' split<;>omega
 unfold pc;cases g:P6 k b<;>rw[g]at c
 ·rw[CC (by simp)]
  refine fO 26 [] Tryz.func334 rfl ?_ (.inr (bO _))
  repeat'((conv=>whnf);first|with_reducible (first|refine Lm ?_|refine Wm ω ?_|refine Bn ?_|refine jV.wk rfl ?_)|refine Bt ?_|refine Bu ?_|refine CB (c) ?_)
  all_goals exact⟨rfl,trivial⟩
 rw[CE rfl];refine fO 26 [] Tryz.func334 rfl ?_ (.inr (bO _))
 refine ZP ?_
 refine CK (ι:=Nat) (λj=>[(0,.H .one [I (slots k)]),(1,.H .one [I (b)]),(5,.H .one (aH .own (m7 b j))),(6,.H .one [I ((j:Nat):Int)])]) (λj=>j<=(slots k).toNat) (λj=>(slots k).toNat - j) (0) ?_ (Z0 _) λj o=>?_
 ·exact wC
 have h:=rg b j;by_cases p:j<(slots k).toNat
 ·have d:=iJ b (j:Nat) e
  have a:m7 b (j+1)=if bf b (j:Nat)=true then m7 b j else m7 b j++[((j:Nat):Int)]:=rfl
  cases i:bf b (j:Nat)<;>rw[i]at d a
  ·rw[CC (by simp)]at a
   repeat'(first|refine gE ?_|refine CV cC (λr l=>by rw[C2.1 l];rfl) (by simp[bn,eG]) (by simp;omega) (by simp only[O1];exact zd (by simp;omega) (by decide)) rfl ?_)
   (refine CG (j+1) ω ω ?_)
   rw[a]
   repeat'(first|exact trivial|rfl| exact dG _ |exact CN rfl (CN (C1 (C.s dX.own) (by simp[rI])) trivial)|refine CN ?_ ?_|(exact Be (by first|omega|(simp only;omega)|(simp;omega))))
  rw[CE rfl]at a
  refine ZE ?_
  (refine CG (j+1) ω ω ?_)
  rw[a];exact wC
 obtain rfl:j=(slots k).toNat:=ω
 refine ZE ?_
 rfl
def BF(b i:Int)(d:0<=b/\b<=65535)(a:0<=i/\i<=15):zzA 338 false [.val none [I b],.val none [I i]] .one [I (ib b i)]:=by
 have c:=rj b i;rw[O0 ω]at c;have e:=(or64 (z1:=b) (z2:=2 ^ i.toNat) d (by have:=shl64 a;omega)).trans (Dw b i);refine fO 14 [] Tryz.func338 rfl ?_
 repeat'(first|refine gP ?_|refine CQ ω ?_|refine CP (shl64 a).1 ?_|refine CP e ?_)
 rfl
def DU(f:aU)(i:Nat):aU.enc .own ⟨f.T,f.a1.set i true⟩ = [.s .own (f.T.map (aH .own)),.s .own ((f.a1.map (rB .own)).set i (rB .own true))]:=by
 simp[aU.enc,S8]
def wQ(f:aU):aU × Int × Bool:=
 if cV (λu=>!u) f.a1<0 then(f,-1,false) else(⟨f.T,f.a1.set (cV (λu=>!u) f.a1).toNat true⟩,cV (λu=>!u) f.a1,true)
def Ah(f:aU)(l:cY f=true)(b:aU.sml f):zzA 460 false [.val (some 2) (aU.enc .U f)] (.tup [some 2,none,none]) (aU.enc .own (wQ f).1++[I (wQ f).2.1,B (wQ f).2.2]):=by
 have n:=pK f b;have h:=nM f b;rw[l]at h;have p:f.a1.length<=1048576:=b.2;refine fO 30 [] Tryz.func460 rfl ?_ (.inr (aJ (aU.enc_fr _) ⟨trivial,trivial,trivial⟩))
 refine ZP ?_
 refine CK (ι:=Nat) (λi=>[(2,.H .box [.z,.z]),(5,.H .box (aU.enc .own f)),(13,.H .one (vw .U f.a1)),(14,.H .one [I (f.a1.length)]),(15,.H .one [I ((i:Nat):Int)])]) (λi=>i<=f.a1.length/\∀(j:Nat)(z:Bool),j<i->f.a1[j]? = some z->(!z)=false) (λi=>f.a1.length - i) (0) ?_ (⟨Z0 _,λj z q=>ω⟩) λi k=>?_
 ·exact wC
 obtain⟨k,c⟩:=k;by_cases o:i<f.a1.length
 ·have a:=ar o
  cases e:nth f.a1 i<;>rw[e]at a
  ·have d:cV (λu=>!u) f.a1=(i:Nat):=dE a rfl c
   have g:wQ f=((⟨f.T,f.a1.set i true⟩ : aU),((i:Nat):Int),true):=by unfold wQ;rw[d,CC ω];rfl
   rw[g];simp only;rw[DU]
   repeat'(first|refine gE ?_|refine CR rfl rfl (aa a) rfl (Z1 rfl) rfl ?_)
   rfl
  refine ZE ?_
  (refine CG (i+1) ⟨ω,eA a rfl c⟩ ω ?_;(exact wC))
 have d:cV (λu=>!u) f.a1 = -1:=gv ω c;have g:wQ f=(f,-1,false):=by unfold wQ;rw[d];rfl
 rw[g]
 refine ZE ?_
 rfl
variable{r:List C}{rows:List (List C)}
def dZ.fzAt{w:World}{S F:am}{o:dX}{v:Value}(h:dZ w S F (.s o rows) v)(ho:o≠.U)(D:rows[k]? = some r) :
  ∃V:am,(∀b q,V b q->F b q)/\dZ w (λb q=>S b q\/V b q) (λb q=>F b q/\¬V b q) (.s o (rows.set k (dM r))) v:=by
 cases h with
 | nil=>simp at D
 | U=>exact absurd rfl ho
 | own _ _ g K n O _ u f P Q M E G X hu N Y Z=>
  have A:k<n:=by have:=(I3.1 D).1;omega
  have hq:∀j,j<K->(k*K+j) / K=k:=λj a=>by
   rw[Nat.mul_comm,Nat.mul_add_div ω,Nat.div_eq_of_lt a,Nat.add_zero]
  refine⟨λb q=>∃j,j<K/\f (k*K+j) b q,λb q ⟨j,a,l⟩=>(N _ (eg A a) b q l).1,?_⟩;refine .own _ o g K n O _ u (λq=>if q / K=k then NO else f q) P (by simpa using Q) (λr' R=>?_) E G (λq d=>⟨⟨(X q d).1,λ⟨j,a,l⟩=>(N _ (eg A a) _ _ l).2 ⟨rfl,d⟩⟩,(X q d).2⟩) hu (λq d b y l=>?_) (λq T h1 h2 h3 b y H J=>?_) (λi j r' c L a=>?_)
  ·rcases Z8 R with h|rfl
   ·exact M _ h
   rw[bW,O1];exact M _ (Z2 D)
  ·replace l:(if q / K=k then NO else f q) b y:=l
   split at l
   ·exact l.elim
   rename_i B;refine⟨⟨(N q d b y l).1,λ⟨j,a,U'⟩=>Y q (k*K+j) d (eg A a) (λe=>B (by rw[e];exact hq j a)) b y l U'⟩,(N q d b y l).2⟩
  ·replace H:(if q / K=k then NO else f q) b y:=H
   replace J:(if T / K=k then NO else f T) b y:=J;split at H
   ·exact H.elim
   split at J
   ·exact J.elim
   exact Y q T h1 h2 h3 b y H J
  by_cases e:i=k
  ·subst e
   have W:(rows.set i (dM r))[i]? = some (dM r):=by
    rw[X4 ω]
   rw[W]at L;obtain rfl:=Option.some.inj L;rw[bW,z4]at a;cases p:r[j]? with
   | none=>rw[p]at a;cases a
   | some c'=>
    rw[p]at a;simp only[I7,I1]at a;subst a;have t:=(tG Q M D p).2;show dZ w _ (if(i*K+j) / K=i then NO else f (i*K+j)) _ _;rw[CE (hq j t)];exact(Z i j r c' D p).freeze.mono (λb o h=>h.elim .inl λh=>.inr ⟨j,t,h⟩) (λ_ _ h=>h)
  rw[List.getElem?_set_ne ω]at L;have t:=(tG Q M L a).2;have B:¬(i*K+j) / K=k:=by
   rw[Nat.mul_comm,Nat.mul_add_div ω,Nat.div_eq_of_lt t,Nat.add_zero];exact e
  show dZ w _ (if(i*K+j) / K=k then NO else f (i*K+j)) _ _;rw[CC B];exact(Z i j r' c L a).mono (λ_ _ h=>.inl h) (λ_ _ h=>h)
def cN.fzAt{w:World}{S F:am}{cs:List C}{u:Nat->Value}(h:cN w S F cs u){off:Nat}{o:dX}(B:cs[off]? = some (.s o rows))(G:o≠.U)(H:rows[k]? = some r) :
  ∃V:am,(∀b q,V b q->F b q)/\cN w (λb q=>S b q\/V b q) (λb q=>F b q/\¬V b q) (cs.set off (.s o (rows.set k (dM r)))) u:=by
 obtain⟨f,D,y,t⟩:=h;have i:=(I3.1 B).1;obtain⟨V,E,J⟩:=(D off _ B).fzAt G H;refine⟨V,λb q A=>y off i b q (E b q A),λj=>if j=off then(λb q=>f off b q/\¬V b q) else f j,λj c g=>?_,λj g b q d=>?_,λj p g l n b q d a=>?_⟩
 ·by_cases e:j=off
  ·subst e
   rw[X4 i]at g;obtain rfl:=Option.some.inj g;simpa using J
  rw[List.getElem?_set_ne ω]at g;show dZ w _ (if j=off then _ else f j) _ _;rw[CC e];exact(D j c g).mono (λ_ _ h=>.inl h) (λ_ _ h=>h)
 ·rw[I2]at g
  replace d:(if j=off then(λb q=>f off b q/\¬V b q) else f j) b q:=d;split at d
  ·exact⟨y off i b q d.1,d.2⟩
  rename_i e;exact⟨y j g b q d,λA=>t j off g i e b q d (E b q A)⟩
 rw[I2]at g l;replace d:(if j=off then(λb q=>f off b q/\¬V b q) else f j) b q:=d;replace a:(if p=off then(λb q=>f off b q/\¬V b q) else f p) b q:=a;split at d
 ·rename_i e
  rw[CC ω]at a;exact t j p g l n b q (e ▸ d.1) a
 split at a
 ·rename_i e
  exact t j p g l n b q d (e ▸ a.1)
 exact t j p g l n b q d a
variable{rcs:List C}
def ax.fzAt{P:Program}{f:Nat}{sh:Bool}{A:List RA}{k:Kd}(h:ax P f sh A k rcs){off:Nat}{o:dX}(g:rcs[off]? = some (.s o rows))(i:o≠.U){j:Nat}(l:rows[j]? = some r) :
  ax P f sh A k (rcs.set off (.s o (rows.set j (dM r)))):=by
 obtain⟨n,p⟩:=h;refine⟨n,λw S t u y=>(p w S t u y).mono λe w1 B=>?_⟩;obtain⟨v,D,E,X,M,d,F,G,H,J⟩:=B;obtain⟨V,K,L⟩:=J.fzAt g i l;refine⟨v,D,E,_,_,λb q c=>d b q c.1,λb q c=>?_,λb q c a=>?_,by rw[I2];exact H,L⟩
 ·rcases c with c|c
  ·exact F b q c
  exact .inr (d b q (K b q c))
 rcases a with a|a
 ·exact G b q c.1 a
 exact c.2 a
def aQ.noS{P:Program}{f:Nat}{A B:List MA}{k:Kd}(h:aQ P f true A B k rcs)(d:∀(w:World)(S:am)(V:Nat->am)(vs:List Value),MO w S V A vs->MO w NO V A vs):aQ P f false A B k rcs:=by
 obtain⟨g,j⟩:=h;refine⟨g,λw S V vs M l c n=>(j w NO V vs (λ_ _ h=>h.elim) (λi b o a=>⟨(l i b o a).1,λh=>h.elim⟩) c (d w S V vs n)).mono λe w1 p=>?_⟩;obtain⟨v,q,r,X,t,u,y,D,E,F,G,H,J,K,L,a10⟩:=p;exact⟨v,q,r,X,t,u,y,D,λb o a=>(E b o a).elim (λh=>h.2.elim) .inr,F,G,H,J,K,L,a10.mono λb o a=>a.elim (λh=>h.elim) .inr⟩
def WI(c:aF)(k:Nat):List C:=if 0<(nth c.Z k).length then [.s .own ((c.Z.map (aH .own)).set k (aH .U ((nth c.Z k).take ((nth c.Z k).length - 1)))),I (nth (nth c.Z k) ((nth c.Z k).length - 1)),B true] else aF.enc .own c++[I (-1),B false]
def zA(c:aF)(k:Nat)(r:bD c=true)(P:k<=3):zzB 186 false [.mut (some 1) (aF.enc .own c),.val none [I (k:Nat)]] [.mut (some 1) (aF.enc .own c),.val none [I (k:Nat)]] (.tup [some 1,none,none]) (WI c k):=by
 obtain⟨Q,t⟩:=eJ r;have d:aF.sml c:=⟨ω,λl C=>by have:=t l C;show l.length<=1048576;omega⟩
 have e:=zg c k d;rw[r,O0 ω]at e;have a:=nN (c:=c) (k:=k) ω;have D:=t _ (au (xs:=c.Z) (i:=k) ω);refine aQ.noS ?_ λw S V E F=>?_
 case refine_2=>
  match E,F with
  | [v,R],⟨⟨G,u,H,J⟩,⟨K,L,M,N⟩,_⟩=>
   exact⟨⟨G,u,H,J.fresh (aF.enc_fr c)⟩,⟨K,L,M,N.fresh ⟨trivial,trivial⟩⟩,trivial⟩
 unfold WI;by_cases y:0<(nth c.Z k).length
 ·rw[CE y]
  have g:zzA 182 false [.val (some 1) (aF.enc .U c)] .agg [.s .own ((c.Z.map (aH .own)).set k (aH .U (nth c.Z k)))]:=by
   have h:=(jA c d).fzAt (off:=0) (o:=.own) (rows:=c.Z.map (aH .own)) rfl (by simp) (j:=k) (aa a);rw[dH]at h;exact h
  have n:((c.Z.map (aH .own)).set k (aH .U (nth c.Z k)))[k]? = some (aH .U (nth c.Z k)):=X4 (by rw[O1];omega);have B:=ar (xs:=nth c.Z k) (i:=(nth c.Z k).length - 1) ω;have b:(nth c.Z k)[(((nth c.Z k).length:Int) - 1).toNat]? = some (nth (nth c.Z k) ((nth c.Z k).length - 1)):=by rw[show(((nth c.Z k).length:Int) - 1).toNat=(nth c.Z k).length - 1 by omega];exact B
  have p:((((nth c.Z k).length:Nat):Int) - 1)=(((nth c.Z k).length - 1:Nat):Int):=ω
  have O:((c.Z.map (aH .own)).set k (aH .U (nth c.Z k))).set k (aH .U ((nth c.Z k).take ((nth c.Z k).length - 1)))=(c.Z.map (aH .own)).set k (aH .U ((nth c.Z k).take ((nth c.Z k).length - 1))):=List.set_set ..;rw[<-O];refine fM 54 [] [(6,10,[41,42,43,44,45,46,47,48,49,50])] [(2,0),(0,0)] Tryz.func186 rfl (λu q=>?_) (.inl rfl)
  repeat'(first|refine gB ?_|refine CJ rfl n rfl ?_|refine CH (e) ⟨⟨rfl,Cg c⟩,⟨rfl,rfl⟩,trivial⟩ ?_|refine CH (g) ⟨⟨rfl,Cg c⟩,trivial⟩ ?_|refine CO ω (aa b) ?_|refine CF n ?_|refine Rw.two rfl (aa a) rfl rfl (aa b) rfl ?_|refine CY ((nth c.Z k).length - 1) p (by rw[O1];omega) (aO λ_=>rfl) (QL _ _) ?_|refine CR rfl rfl n rfl (Z1 rfl) rfl ?_)
  refine CL rfl rfl ?_;exact wC
 rw[CC y];have g:=jA c d;refine fM 54 [] [(6,10,[41,42,43,44,45,46,47,48,49,50])] [(2,0),(0,0)] Tryz.func186 rfl (λu q=>?_) (.inl rfl)
 repeat'(first|refine gB ?_|refine CH (e) ⟨⟨rfl,Cg c⟩,⟨rfl,rfl⟩,trivial⟩ ?_|refine CH (g) ⟨⟨rfl,Cg c⟩,trivial⟩ ?_)
 refine CL rfl rfl ?_;exact wC
set_option maxRecDepth 100000
def KI:∀w,(zeroValue 180).run Tryz.prog w=.ok (.agg #[.int .i64 0,.int .i64 0]) w:=λ_=>by kernel_rfl
def EQ:yU Tryz.prog 458 2:=by
 refine⟨⟨_,Tryz.func458,by kernel_rfl,by kernel_rfl⟩,λw g n c i news r y o B C b=>?_⟩;obtain⟨A,X,a⟩:=yd o y r B;have a:Hid (∀t u,news[t]? = some u->w.drew.cell? (A.add t)=some u):=a;have T:Hid (news.length=(n - (i+1))*2):=o;have Y:Hid (∀u∈news,u.oneCell'=true):=C;have Z:Hid (∀t,t<news.length->(w.drew.cell? ⟨g,0+i*2+t,none⟩).isSome=true/\w.drew.frozen? ⟨g,0+i*2+t,none⟩ = false):=λt ht=>by
  rw[C9];exact b (i*2+t) ω
 obtain⟨p,d⟩ : ∃p,p=w.drew.setCells g (0+i*2) news:=⟨_,rfl⟩
 have K:∀q,q<n*2->(p.cell? ⟨g,q,none⟩).isSome=true/\p.frozen? ⟨g,q,none⟩ = false:=λq U=>by
  have D:∀j,j<news.length->∃z,cel w.drew g (0+i*2+j)=some z:=λj L=>by
   have:=(b (0+i*2+j) ω).1;exact Option.isSome_iff_exists.1 this
  refine⟨?_,by rw[d];exact(C1 Prod.fst (bV g _ news w.drew g q)).trans (b q U).2⟩;rw[d];by_cases h:0+i*2<=q/\q<0+i*2+news.length
  ·have:=bw D (C3 (show q - (0+i*2)<news.length by omega))
   rw[show 0+i*2+(q - (0+i*2))=q by omega]at this;show(cel _ g q).isSome=true;rw[this];rfl
  show(cel _ g q).isSome=true;rw[bg (λx=>h x.2)];exact(b q U).1
 obtain⟨M,E,F,G⟩:=xO (P:=Tryz.prog) p 36 180 2 (.agg #[.int .i64 0,.int .i64 0]) Tryz.underlying36 KI rfl (by intro v V;simp[Value.cells]at V;subst V;rfl) g ((i+(n - (i+1)))*2) (n - (i+(n - (i+1)))) ω (by decide) (λj L=>(K _ ω).1) (λj L=>(K _ ω).2);have k:Hid (M.length=(n - (i+(n - (i+1))))*2):=E;have H:Hid (∀v∈M,v.oneCell'=true):=F;have W:Hid (p=w.drew.setCells g (0+i*2) news):=d;have hic:i<=c:=ω
 have N:i+1<=c:=ω
 have O:¬i=i+1:=ω
 have Q:i+1<=n:=r;have l:n - 1=i+(n - (i+1)):=ω
 clear d K b B C o E F;rw[l];generalize L:i+1=j at X a T G k N O Q l |-;obtain⟨J,R,S⟩ : ∃J,Tryz.prog.info? 180=some J/\J.size=2:=by
  have h:=(mg 180 _ rfl).1;cases e : Tryz.prog.info? 180 with
  | none=>rw[e]at h;cases h
  | some x=>rw[e]at h;simp only[I7,I1,Prod.mk.injEq]at h;exact⟨x,rfl,h.2.1⟩
 have mixed : Tryz.prog.follows .mixedOrders=true:=by kernel_rfl
 go_enter Tryz.func458,Tryz.ntmps458
 go_wp2_with fail
 go_region_law_o (refine step_append_room rfl (.tmp 22) (.tmp 25) 36 rfl 180 J 2 Tryz.underlying36 R S g 0 i c (by simp[Act.eval,Act.put]) A (n - j) (c - j) news (by simp[Act.eval,Act.put]) T.out a.out Y.out ω Z.out ?_;rw[<-W.out])
 go_wp2
 go_ret
 refine⟨rfl,M,by have:=k.out;omega,H.out,?_⟩;rw[W.out,C9]
def Gw(xs:List aB)(i:Nat)(a:i<xs.length):zzB 458 false [.mut none [.s .own (xs.map (aB.enc .own))],.val none [I (i:Nat)],.val none [I ((i+1:Nat):Int)]] [.mut none [.x],.val none [I (i:Nat)],.val none [I ((i+1:Nat):Int)]] .one [oE ((dele xs i).map (aB.enc .own))]:=by
 have h:=QD EQ (rows:=xs.map (aB.enc .own)) (i:=i) (by rw[O1];exact a) (aO λ_=>rfl) (bi _ _ λx _=>aB.enc_fr x)
 rwa [show dele (xs.map (aB.enc .own)) i=(dele xs i).map (aB.enc .own) by simp[dele,C5,I5]]at h
def RR{α:Type}(xs:List α)(b:Nat)(y:α):dele (xs.set b y) b=dele xs b:=by
 unfold dele;rw[List.take_set_of_le (v4 b),List.drop_set_of_lt (Nat.lt_succ_self b)]
def uA(k:ah)(p:Int)(c:aD k=true)(w:k.Calls≠100000)(n:0<=p/\p<k.G.Q.K.length)(y:(nth k.G.Q.K p.toNat).j=0):zzA 341 false [.val (some 5) (ah.enc .U k),.val none [I p]] (.tup [some 5,none]) (ah.enc .own (newK k p).1++[B (newK k p).2]):=by
 have h:=bk c;have C:=(aC.1 c).2.2.2;have D:=(bo.1 (aC.1 c).2.2.1).2.2;have d:=iG k h;rw[c,O0 w]at d;have g:=p9 k h ⟨ω,ω⟩;have a:=Ah k.G.W (aC.1 c).2.1 h.1.1;have j:af k.G.Q p=nth k.G.Q.K p.toNat:=by unfold af;exact CE n
 have o:=aN p 0 ((k.G.Q.K.length:Int) - 1);rw[O0 ω]at o;have q:=fx k p h.1.2;rw[j,y,X0 (by decide)]at q;have r:=ar (xs:=k.G.Q.K) (i:=p.toNat) ω;unfold wQ at a;unfold newK;cases e:refd k<;>rw[e]at g
 ·by_cases b:pO k<0
  ·rw[CE (.inr b)]
   rw[CE (show cV (λu=>!u) k.G.W.a1<0 from b)]at a;simp only at a;refine fO 64 [] Tryz.func341 rfl ?_ (.inr (aJ (Cc _) ⟨trivial,trivial⟩))
   refine ZP ?_
   rfl
  rw[CC (by simp[b])];rw[CC (show ¬cV (λu=>!u) k.G.W.a1<0 from b)]at a;simp only at a;obtain⟨f,t⟩:=Z3 (show 0<=pO k by omega);have l:cV (λu=>!u) k.G.W.a1=(f:Nat):=t;rw[l]at a;rw[t];simp only[Y3]at a |-;rw[DU]at a;rw[yo];refine fO 64 [] Tryz.func341 rfl ?_ (.inr (aJ (by rw[<-yo];exact Cc _) ⟨trivial,trivial⟩))
  repeat'(first|refine gP ?_|refine CO n.1 (aa r) ?_|refine CR rfl rfl (aa r) rfl (Z1 rfl) rfl ?_)
  rfl
 rw[CE (.inl rfl)];by_cases b:pO k<0
 ·rw[CE (show cV (λu=>!u) k.G.W.a1<0 from b)]at a
  simp only at a;refine fO 64 [] Tryz.func341 rfl ?_ (.inr (aJ (Cc _) ⟨trivial,trivial⟩))
  refine ZP ?_
  rfl
 rw[CC (show ¬cV (λu=>!u) k.G.W.a1<0 from b)]at a;simp only at a;refine fO 64 [] Tryz.func341 rfl ?_ (.inr (aJ (Cc _) ⟨trivial,trivial⟩))
 refine ZP ?_
 rfl
def Wz(xs:List aB)(n:Int):List C:=(if(ay xs n).2.2=true then [oE ((ay xs n).1.map (aB.enc .own))] else bt .own xs)++[I (ay xs n).2.1,B (ay xs n).2.2]
def Vc(xs:List aB)(n:Int):i6 (Wz xs n):=by
 unfold Wz;split
 ·exact aJ ⟨E9 (jz _).1.2,trivial⟩ ⟨trivial,trivial,trivial⟩
 exact aJ (jz _) ⟨trivial,trivial,trivial⟩
def DW(xs:List aB)(b:Nat)(y:aB):(xs.set b y).map (aB.enc .own)=(xs.map (aB.enc .own)).set b [I y.At,I y.a8]:=by rw[S8];rfl
def yQ(pages:Int)(xs:List aB)(n:Int)(K:0<=pages/\pages<=1048576)(u:bG pages xs=true)(R:1<=n/\n<=1000)(S:xs.length<=4096):zzA 340 false [.val none [I pages],.val none (bt .U xs),.val none [I n]] (.tup [none,none,none]) (Wz xs n):=by
 have p:gI xs:=⟨ω,λ_ _=>trivial⟩
 have w:=nl pages xs K p;rw[u]at w;have L:=lz xs p;have B:=(tQ u).2;refine fP 91 [(458,[1,0,0])] [(8,15,[32,33,34,35,36,37,38,39,40,41,42,43,44,45,46])] Tryz.func340 rfl ?_ (.inr (Vc xs n))
 refine ZE ?_
 refine CK (ι:=Nat) (λi=>[(1,.H .one (bt .U xs)),(2,.H .one [I (n)]),(9,.H .one (bt .own xs)),(10,.H .one [I (gu xs n i)]),(25,.H .one (bt .U xs)),(26,.H .one [I (xs.length)]),(27,.H .one [I ((i:Nat):Int)])]) (λi=>i<=xs.length) (λi=>xs.length - i) (0) ?_ (Z0 _) λi M=>?_
 ·exact wC
 have l:=ue xs n i M;by_cases E:i<xs.length
 ·have k:=ar E
  have N:=B _ (au E);have d:gu xs n (i+1)=if n<=(nth xs i).a8/\(gu xs n i<0\/(nth xs i).a8<(nth xs (gu xs n i).toNat).a8) then((i:Nat):Int) else gu xs n i:=rfl
  by_cases F:n<=(nth xs i).a8
  ·by_cases O:gu xs n i<0
   ·rw[CE ⟨F,.inl O⟩]at d
    repeat'(first|refine gE ?_|with_reducible refine Bf.D (λh=>?_) (λh=>?_))
    (refine CG (i+1) ω ω ?_)
    rw[d];exact wC
   have a:=ar (xs:=xs) (i:=(gu xs n i).toNat) ω;by_cases P:(nth xs i).a8<(nth xs (gu xs n i).toNat).a8
   ·rw[CE ⟨F,.inr P⟩]at d
    repeat'(first|refine gE ?_|with_reducible (first|refine CO ω (aa a) ?_|refine Bf.D (λh=>?_) (λh=>?_)))
    (refine CG (i+1) ω ω ?_)
    rw[d];exact wC
   rw[CC ω]at d
   repeat'(first|refine gE ?_|with_reducible (first|refine CO ω (aa a) ?_|refine Bf.D (λh=>?_) (λh=>?_)))
   (refine CG (i+1) ω ω ?_)
   rw[d];exact wC
  rw[CC ω]at d
  repeat'(first|refine gE ?_|with_reducible refine Bf.D (λh=>?_) (λh=>?_))
  (refine CG (i+1) ω ω ?_)
  rw[d];exact wC
 obtain rfl:i=xs.length:=ω
 change fZ xs n = -1\/_ at l;unfold Wz ay;rw[show gu xs n xs.length=fZ xs n from rfl];by_cases e:fZ xs n<0
 ·rw[CE e]
  rw[show fZ xs n = -1 from l.resolve_right λg=>by have T:0<=fZ xs n:=g.1;omega]
  repeat'(first|refine gE ?_|with_reducible refine Bf.D (λh=>?_) (λh=>?_))
  rfl
 rw[CC e];obtain⟨Q,G,U⟩:=l.resolve_left ω;change 0<=fZ xs n at Q;change fZ xs n<xs.length at G;obtain⟨b,r⟩:=Z3 (show 0<=fZ xs n by omega);rw[r]at G |-;simp only[Y3];have a:=ar (xs:=xs) (i:=b) ω;have N:=B _ (au (xs:=xs) (i:=b) ω);have c:((xs.map (aB.enc .own)).set b [I ((nth xs b).At+n),I (nth xs b).a8])[b]? = some [I ((nth xs b).At+n),I (nth xs b).a8]:=jC ω;have j:((xs.set b ⟨(nth xs b).At+n,(nth xs b).a8 - n⟩).map (aB.enc .own))[b]? = some [I ((nth xs b).At+n),I ((nth xs b).a8 - n)]:=by rw[DW];exact jC ω
 have o:∀t:List C,t.set 0 (.s .own (((xs.map (aB.enc .own)).set b [I ((nth xs b).At+n),I (nth xs b).a8]).set b [I ((nth xs b).At+n),I ((nth xs b).a8 - n)]))=t.set 0 (.s .own ((xs.set b ⟨(nth xs b).At+n,(nth xs b).a8 - n⟩).map (aB.enc .own))):=λt=>by rw[DW,List.set_set]
 have q:=Gw (xs.set b ⟨(nth xs b).At+n,(nth xs b).a8 - n⟩) b (by rw[I2];omega);rw[RR]at q;by_cases H:(nth xs b).a8=n
 ·rw[CE H]
  generalize dele xs b=J at q |-;cases J with
  | nil=>
   repeat'(first|refine gB ?_|with_reducible refine Bf.D (λh=>?_) (λh=>?_)|refine CF c ?_|refine CF j ?_|refine CJ rfl c rfl ?_|refine CJ rfl j rfl ?_|refine CR rfl rfl (aa a) rfl (Z1 rfl) rfl ?_|refine CR rfl rfl c rfl (Z1 rfl) (o _).symm ?_)
   rfl
  | cons y J=>
   repeat'(first|refine gB ?_|with_reducible refine Bf.D (λh=>?_) (λh=>?_)|refine CF c ?_|refine CF j ?_|refine CJ rfl c rfl ?_|refine CJ rfl j rfl ?_|refine CR rfl rfl (aa a) rfl (Z1 rfl) rfl ?_|refine CR rfl rfl c rfl (Z1 rfl) (o _).symm ?_)
   rfl
 rw[CC H]
 repeat'(first|refine gB ?_|with_reducible refine Bf.D (λh=>?_) (λh=>?_)|refine CF c ?_|refine CF j ?_|refine CJ rfl c rfl ?_|refine CJ rfl j rfl ?_|refine CR rfl rfl (aa a) rfl (Z1 rfl) rfl ?_|refine CR rfl rfl c rfl (Z1 rfl) (o _).symm ?_)
 rw[CE rfl,PL (by rw[Ne,List.map_eq_nil_iff,<-List.length_eq_zero_iff,I2];omega)]
 rfl
end Go.Proofs.YtiopgblagimpmaaGreat.Ab
