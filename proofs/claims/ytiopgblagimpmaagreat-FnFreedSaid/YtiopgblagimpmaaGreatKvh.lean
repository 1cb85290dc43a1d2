/- A small object's slot: the reference's. No condition. -/
import Derived.Test.YtiopgblagimpmaaGreatKvd
import Derived.Test.YtiopgblagimpmaaGreatKvg
import Derived.Test.YtiopgblagimpmaaGreatKvf
import Derived.Test.YtiopgblagimpmaaGreatKve
set_option linter.unusedVariables false
set_option linter.defProp false
set_option linter.unusedSimpArgs false
set_option linter.constructorNameAsVariable false
namespace Go.Proofs.YtiopgblagimpmaaGreat.Ab
open Go.RowKit
set_option maxRecDepth 20000
set_option maxHeartbeats 4000000
variable{i:Nat}{h:ab}
def F4{c:Int}(a:i<h.K.length)(b:tg h c i=true)(d:∀j,j<i->tg h c j=false):tt h c=some i:=
 List.find?_range_eq_some.2 ⟨b,List.mem_range.2 a,λj e=>by rw[d j e];rfl⟩
def Ec{c:Int}(a:∀j,j<h.K.length->tg h c j=false):tt h c=none:=
 List.find?_range_eq_none.2 λj b=>by rw[a j b];rfl
def ug{c:Int}(a:tg h c i=false)(b:∀j,j<i->tg h c j=false):∀j,j<i+1->tg h c j=false:=λj d=>by
 by_cases e:j=i
 ·rw[e];exact a
 exact b j ω
def KJ(h:ab)(t:Nat)(c:aB):bA {h with S:=h.S.set t c} = (bA h).set 9 (.s .own ((h.S.map (aB.enc .own)).set t (aB.enc .own c))):=by
 simp[bA,I6]
variable{c:Nat}
def Mq(b:aT h [])(l:c<=3)(e:h.G.Calls<=90000)(h1:¬(au h.q 1).2.2=false)(f:¬(newK h.G (au h.q 1).2.1).2=false):aT (rr h c) []/\qL h<(rr h c).K.length:=by
 have a:(au h.q 1).2.2=true:=by simpa using h1
 obtain⟨g,i,j,n⟩:=jA b (v5 1) a;have s:=vA.of (p:=(au h.q 1).2.1) b.ker ω ⟨g,by have:(au h.q 1).2.1+1<=(h.G.F.R.O.length:Nat):=i;omega⟩ (j _ ω ω);have d:(newK h.G (au h.q 1).2.1).2=true:=by simpa using f
 have k:vA h.G (au h.q 1).2.1 ((newK h.G (au h.q 1).2.1).1,true):=by rw[<-d];exact s
 exact⟨b.addS (c:=c) ⟨ω,ω⟩ a k,(Dk (H5 (au h.q 1).2.1) h.K ⟨(au h.q 1).2.1,c,0⟩).1⟩
def zg(h:ab)(t c:Nat)(o:aT h [])(M:t<h.S.length)(N:c<=3)(p:h.G.Calls<=90000):zzB 221 false [.ptr (bA h),.val none [I (t:Nat)],.val none [I (c:Nat)]] [.ptr (bA (smallA h t c).1),.val none [I (t:Nat)],.val none [I (c:Nat)]] .one [I (smallA h t c).2]:=by
 have E:=o.cach _ (am M);have e:=ao M;have r:=yb (nth h.S t) c E N;have Q:=o.lens.spans;have B:=o;unfold Tv at r;by_cases F:0<(nth (nth h.S t).a c).length
 ·unfold smallA
  rw[CC F]at r |-;simp only;rw[KJ];refine fM 80 [(368,[2,0]),(369,[2,0])] [(3,6,[27,28,29,30,31,32])] [(0,0),(0,0),(0,0)] Tryz.func221 rfl (λu q=>?_)
  repeat'(first|refine gP ?_|(conv=>whnf);first|with_reducible refine CD (aa e) ?_|refine CH rfl (aa e) rfl ?_|refine CF (r) ⟨⟨rfl,Cg _⟩,⟨rfl,rfl⟩,trivial⟩ ?_|refine CB ?_|refine CP rfl rfl (aa e) rfl (I1 rfl) rfl ?_)
  refine CJ rfl rfl ?_;exact wC
 rw[C9 F]at r;have d:smallA h t c=match tt h c with
  | some i=>(slotT h i,uT h i)
  | none=>if(au h.q 1).2.2=false then(h,-1)
   else if(newK h.G (au h.q 1).2.1).2=false then({h with G:=(newK h.G (au h.q 1).2.1).1},-1)
   else lR (rr h c) (qL h):=by unfold smallA;exact C9 F
 refine fM 80 [(368,[2,0]),(369,[2,0])] [(3,6,[27,28,29,30,31,32])] [(0,0),(0,0),(0,0)] Tryz.func221 rfl (λu q=>?_)
 repeat'(first|refine gP ?_|(conv=>whnf);first|with_reducible refine CD (aa e) ?_|refine CH rfl (aa e) rfl ?_|refine CF (r) ⟨⟨rfl,Cg _⟩,⟨rfl,rfl⟩,trivial⟩ ?_|refine CB ?_)
 (conv=>whnf)
 refine CG (ι:=Nat) (λi=>[(0,.H .box (bA h)),(1,.H .one [I ((t:Nat):Int)]),(2,.H .one [I ((c:Nat):Int)]),(10,.H .one [I ((i:Nat):Int)])]) (λi=>i<=h.K.length/\∀j,j<i->tg h c j=false) (λi=>h.K.length - i) (0) ?_ (⟨W0 _,λj W=>ω⟩) λi o=>?_
 ·exact wC
 obtain⟨R,w⟩:=o;by_cases C:i<h.K.length
 ·have l:=ao C
  by_cases O:(nth h.K i).d=c
  ·have y:=uM h (nth h.K i).Q
   cases D:fg h (nth h.K i).Q with
   | true=>
    rw[D]at y
    repeat'(first|refine gB ?_|(conv=>whnf);first|with_reducible refine CD (aa l) ?_|refine CH rfl (aa l) rfl ?_|refine CF (y) ⟨bJ h,⟨rfl,rfl⟩,trivial⟩ ?_)
    ((conv=>whnf);refine CE (i+1) ⟨ω,ug (by unfold tg;rw[D];simp) w⟩ ω ?_;(exact wC))
   | false=>
    rw[D]at y;have n:=rD h [] i B C;unfold lR at n;by_cases P:(nD h i).length=0
    ·rw[CC P]at n
     repeat'(first|refine gB ?_|(conv=>whnf);first|with_reducible refine CD (aa l) ?_|refine CH rfl (aa l) rfl ?_|refine CF (y) ⟨bJ h,⟨rfl,rfl⟩,trivial⟩ ?_|refine CK (n) (.inl rfl) ?_)
     ((conv=>whnf);refine CE (i+1) ⟨ω,ug (by unfold tg;rw[U0 (by omega:¬0<(nD h i).length)];simp) w⟩ ω ?_;(exact wC))
    rw[C9 P]at n;have G:tt h c=some i:=F4 C (by unfold tg;rw[O0 O,D,O0 ω];rfl) w;rw[G]at d;simp only at d;obtain⟨S,T⟩:=B.slotT C (by omega:0<(nD h i).length);have H:=jF.nn S T;rw[d];generalize slotT h i=g at n |-;generalize uT h i=a at n H |-
    repeat'(first|refine gB ?_|(conv=>whnf);first|with_reducible refine CD (aa l) ?_|refine CH rfl (aa l) rfl ?_|refine CF (y) ⟨bJ h,⟨rfl,rfl⟩,trivial⟩ ?_|refine CK (n) (.inl rfl) ?_)
    refine CJ rfl rfl ?_;exact wC
  repeat'(first|refine gB ?_|(conv=>whnf);first|with_reducible refine CD (aa l) ?_|refine CH rfl (aa l) rfl ?_)
  ((conv=>whnf);refine CE (i+1) ⟨ω,ug (by unfold tg;rw[U0 O];rfl) w⟩ ω ?_;(exact wC))
 obtain rfl:i=h.K.length:=ω
 have G:tt h c=none:=Ec w;rw[G]at d;simp only at d;have k:=BJ h [] c B p;rw[d];unfold Jf at k;by_cases J:(au h.q 1).2.2=false
 ·rw[CC J]at k |-
  repeat'(first|refine gE ?_|(conv=>whnf);first|refine CK (k) (.inl rfl) ?_)
  refine CJ rfl rfl ?_;exact wC
 rw[C9 J]at k |-;by_cases K:(newK h.G (au h.q 1).2.1).2=false
 ·rw[CC K]at k |-
  repeat'(first|refine gE ?_|(conv=>whnf);first|refine CK (k) (.inl rfl) ?_)
  refine CJ rfl rfl ?_;exact wC
 rw[C9 K]at k |-;obtain⟨U,V⟩:=Mq B N p J K;have L:=rD (rr h c) [] (qL h) U V;generalize rr h c=g at k L |-;generalize qL h=b at k L |-
 repeat'(first|refine gE ?_|(conv=>whnf);first|refine CK (k) (.inl rfl) ?_|refine CK (L) (.inl rfl) ?_)
 refine CJ rfl rfl ?_;exact wC
def Lr(h:ab)(size:Int):ab × Int:=
 if(au h.q (gG size:Nat)).2.2=false then(h,-1)
 else if(dO h size).2=gG size then({h with G:=(dO h size).1,q:=(au h.q (gG size:Nat)).1,J:=jt (QL (au h.q (gG size:Nat)).2.1) h.J ⟨(au h.q (gG size:Nat)).2.1,(gG size:Nat),size⟩},16*(au h.q (gG size:Nat)).2.1)
 else({h with G:=unmN (dO h size).1 (au h.q (gG size:Nat)).2.1 (dO h size).2},-1)
def xS(k:ah)(p:Int)(i:Nat):newsK k p (i+1)=if(newsK k p i).2=i then((newK (newsK k p i).1 (p+(i:Nat))).1,if(newK (newsK k p i).1 (p+(i:Nat))).2=true then i+1 else i) else newsK k p i:=rfl
def FT(k:ah)(p:Int):∀i,(newsK k p i).2<=i
 | 0=>I3 _
 | i+1=>by
  have b:=FT k p i;rw[xS];by_cases e:(newsK k p i).2=i
  ·rw[CC e]
   show(if _ then i+1 else i)<=i+1;by_cases a:(newK (newsK k p i).1 (p+(i:Nat))).2=true
   ·rw[CC a];exact I3 _
   rw[C9 a];exact Nat.le_succ _
  rw[C9 e];omega
def oc{k:ah}{p:Int}{i:Nat}(h:(newsK k p i).2≠i):∀j,newsK k p (i+j)=newsK k p i/\(newsK k p (i+j)).2<i+j
 | 0=>⟨rfl,by show(newsK k p i).2<i;have:=FT k p i;omega⟩
 | j+1=>by
  have a:=oc h j;have e:newsK k p (i+(j+1))=newsK k p (i+j):=by
   show newsK k p (i+j+1)=_;rw[xS,C9 ω]
  exact⟨e.trans a.1,by rw[e];omega⟩
def zD(h:ab)(size:Int)(l:aT h [])(C:9<=size/\size<=1000)(V:h.G.Calls<=90000):zzB 222 false [.ptr (bA h),.val none [I size]] [.ptr (bA (Lr h size).1),.val none [I size]] .one [I (Lr h size).2]:=by
 have E:=l.lens;have W:=E.larges;have Q:=l;have F:fe h<=32:=E.ents;have G:fG size=((gG size:Nat):Int):=by unfold fG gG;split<;>omega
 have hN:1<=gG size/\gG size<=63:=by unfold gG;omega
 have H:=m8 size;rw[G]at H;have R:=gY h;have t:=pc (fe h:Nat) h.q (gG size:Nat) ⟨ω,ω⟩ l.rng ⟨ω,ω⟩ (by have:=E.free;omega);unfold Td at t;have b:=jA l (show(1:Int)<=(gG size:Nat) by omega);unfold Lr dO;generalize gG size=N at *;generalize au h.q (N:Nat)=r at t b |-;obtain⟨J,p,ok⟩:=r;simp only at t b |-;refine fM 105 [(373,[2,0]),(374,[2,0]),(2000018,[0,7])] [(2,268,[16,17,18,19,20,21,22,23,15,24,25,26,0,1,2,3,4,5,6,7,8,9,10,11,12,1010,1011,13,1011,14])] [(0,0),(0,0)] Tryz.func222 rfl (λu q=>?_);cases ok with
 | false=>
  rw[CC rfl]
  repeat'(first|refine gP ?_|(conv=>whnf);first|refine CB ?_|refine C8 (H) ?_|refine CF (R) ⟨bJ h,trivial⟩ ?_|refine CF (t) ⟨⟨rfl,rfl⟩,⟨rfl,dR h.q⟩,⟨rfl,rfl⟩,trivial⟩ ?_|refine CB ?_)
  refine CJ rfl rfl ?_;exact wC
 | true=>
  rw[C9 (by simp)];obtain⟨S,K,B,u4⟩:=b rfl;change p+(N:Nat)<=(h.G.F.R.O.length:Nat) at K;change ∀q:Nat,p<=q->(q:Int)<p+(N:Nat)->(nth h.G.F.R.O q).j=0 at B
  have X:h.G.F.R.O.length<=32:=F
  repeat'(first|refine gP ?_|(conv=>whnf);first|refine CB ?_|refine C8 (H) ?_|refine CF (R) ⟨bJ h,trivial⟩ ?_|refine CF (t) ⟨⟨rfl,rfl⟩,⟨rfl,dR h.q⟩,⟨rfl,rfl⟩,trivial⟩ ?_|refine CB ?_)
  (conv=>whnf)
  refine CG (ι:=Nat) (λi=>[(0,.H .box (bA {h with G:=(newsK h.G p i).1})),(1,.H .one [I (size)]),(5,.H .one [I ((N:Nat):Int)]),(6,.H .one (bB .own J)),(7,.H .one [I (p)]),(9,.H .one [I ((i:Nat):Int)])]) (λi=>i<=N/\(newsK h.G p i).2=i) (λi=>N - i) (0) ?_ (⟨W0 _,rfl⟩) λi l=>?_
  ·exact wC
  obtain⟨L,M⟩:=l;have s:=mc.of (p:=p) (n:=N) Q.ker ω ⟨S,K⟩ B i L;have Y:=s.calls;have Z:=s.len;by_cases li:i<N
  ·have O:(nth (newsK h.G p i).1.F.R.O (p+(i:Nat)).toNat).j=0:=by
    rw[s.out _ (by rw[M];omega)];exact B _ ω ω
   have c:=Gl {h with G:=(newsK h.G p i).1} (p+(i:Nat)) s.ker (by show(newsK h.G p i).1.Calls≠100000;omega) ⟨ω,by show p+(i:Nat)<((newsK h.G p i).1.F.R.O.length:Nat);omega⟩ O;have a:newsK h.G p (i+1)=((newK (newsK h.G p i).1 (p+(i:Nat))).1,if(newK (newsK h.G p i).1 (p+(i:Nat))).2=true then i+1 else i):=by
    show(if(newsK h.G p i).2=i then _ else _)=_;rw[CC M]
   simp only at c;cases e:(newK (newsK h.G p i).1 (p+(i:Nat))).2 with
   | true=>
    rw[e]at c a;rw[CC rfl]at a;have P:(newK (newsK h.G p i).1 (p+(i:Nat))).1=(newsK h.G p (i+1)).1:=by rw[a]
    rw[P]at c
    repeat'(first|refine gE ?_|(conv=>whnf);first|refine CB ?_|refine CK (c) (.inl rfl) ?_)
    ((conv=>whnf);refine CE (i+1) ⟨ω,by rw[a]⟩ ω ?_;(exact wC))
   | false=>
    rw[e]at c a;rw[C9 (by simp)]at a;have d:=oc (k:=h.G) (p:=p) (i:=i+1) (by rw[a];simp only;omega) (N - (i+1));rw[show i+1+(N - (i+1))=N by omega]at d;rw[d.1]at d;have T:=mc.of (p:=p) (n:=N) Q.ker ω ⟨S,K⟩ B (i+1) ω;rw[C9 (by have:=oc (k:=h.G) (p:=p) (i:=i+1) (by rw[a];simp only;omega) (N - (i+1));rw[show i+1+(N - (i+1))=N by omega]at this;omega)];rw[show newsK h.G p N=newsK h.G p (i+1) by have:=oc (k:=h.G) (p:=p) (i:=i+1) (by rw[a];simp only;omega) (N - (i+1));rw[show i+1+(N - (i+1))=N by omega]at this;exact this.1];rw[a]at T |-;have g:=T.ker;simp only at g |-;generalize (newK (newsK h.G p i).1 (p+(i:Nat))).1=k at c g |-
    repeat'(first|refine gE ?_|(conv=>whnf);first|refine CB ?_|refine CK (c) (.inl rfl) ?_)
    (conv=>whnf)
    refine CG (ι:=Nat) (λj=>[(0,.H .box (bA {h with G:=unmN k p j})),(1,.H .one [I (size)]),(5,.H .one [I ((N:Nat):Int)]),(7,.H .one [I (p)]),(9,.H .one [I ((i:Nat):Int)]),(10,.H .one [I ((j:Nat):Int)])]) (λj=>j<=i) (λj=>i - j) (0) ?_ (W0 _) λj hj=>?_
    ·exact wC
    have c4:=nH {h with G:=unmN k p j} (p+(j:Nat)) (ik g p j);by_cases lj:j<i
    ·repeat'(first|refine gE ?_|(conv=>whnf);first|refine CB ?_|refine CK (c4) (.inl rfl) ?_)
     ((conv=>whnf);refine CE (j+1) ω ω ?_;(exact wC))
    obtain rfl:j=i:=ω
    repeat'(first|refine gE ?_|(conv=>whnf);first|refine CB ?_)
    refine CJ rfl rfl ?_;exact wC
  obtain rfl:i=N:=ω
  rw[CC M];generalize (newsK h.G p i).1=k
  repeat'(first|refine gE ?_|(conv=>whnf);first|refine CB ?_)
  (conv=>whnf)
  refine CG (ι:=Nat) (λm=>[(0,.H .box (bA {h with G:=k,q:=J})),(1,.H .one [I (size)]),(5,.H .one [I ((i:Nat):Int)]),(7,.H .one [I (p)]),(11,.H .one [I ((m:Nat):Int)])]) (λm=>m<=h.J.length/\∀(j:Nat)(z:ay),j<m->h.J[j]? = some z->QL p z=false) (λm=>h.J.length - m) (0) ?_ (⟨W0 _,λj z hj=>ω⟩) λm hm=>?_
  ·exact wC
  obtain⟨hm',U⟩:=hm;have hl2:({h with G:=k,q:=J} : ab).J.length=h.J.length:=rfl;by_cases go:m<h.J.length/\(nth h.J m).Q<p
  ·have o:=ao go.1
   repeat'(first|refine gE ?_|(conv=>whnf);first|with_reducible refine CD (aa o) ?_|refine CB ?_|refine CH rfl (aa o) rfl ?_)
   ((conv=>whnf);refine CE (m+1) ⟨ω,gw o (U0 ω) U⟩ ω ?_;(exact wC))
  have w:kM (QL p) h.J=m:=vS ω U λz C=>by
   have hlt:=(U2.1 C).1;have:z=nth h.J m:=(bg C).symm;subst this;exact O0 ω
  have o:m<h.J.length->h.J[m]? = some (nth h.J m):=λhh=>ao hh
  rw[vW w]
  repeat'(first|refine gE ?_|(conv=>whnf);first|with_reducible (first|refine CD (aa (o ω)) ?_|refine Bf.D (λhq=>?_) (λhq=>?_))|refine CB ?_|refine CH rfl (aa (o ω)) rfl ?_|refine GD.mk rfl (uB h.J) rfl ?_|refine CX m rfl (by rw[C1];omega) (aL λ_=>rfl) C4 ?_|refine Ca m rfl (by rw[C1];omega) (aL λ_=>rfl) I4 ?_|refine CQ (λ_=>rfl) (λ_=>rfl) (by rw[V1];omega) (by decide) ?_|refine Ap.sn (aL λ_=>rfl) rfl (by rw[C1,V1];omega) (by decide) rfl ?_|refine Ap.ins (e:=ay.enc .V) (y:=⟨p,(i:Nat),size⟩) rfl (λ_=>rfl) (λ_=>rfl) ω (by decide) ?_)
  all_goals
   refine CJ rfl ?_ ?_
   ·exact X0 (λz=>[I z]) ω
   exact wC
variable{k:ah}
def EV(h:aA k=true)(b:jw k.a0):ah.wf k:=by
 obtain⟨p,f,g,q,t⟩:=aD.1 h;obtain⟨u,w,y,A⟩:=aX.1 f;obtain⟨i,B,C⟩:=bx.1 g;refine⟨⟨⟨⟨ω,λr b=>?_⟩,⟨ω,λ_ _=>trivial⟩⟩,⟨ω,λe l=>?_⟩⟩,⟨ω,ω⟩,b⟩
 ·obtain⟨j,c,rfl⟩:=aM b
  obtain⟨D,n⟩:=tV h c;exact⟨ω,λv o=>by have:=n v o;exact⟨ω,ω⟩⟩
 obtain⟨j,c,rfl⟩:=aM l;have a:=i j c;unfold kF at a;rw[C0]at a;by_cases d:(nth k.F.R.O j).j=0
 ·have:=a.2.2.1 d;exact⟨⟨ω,ω⟩,⟨ω,ω⟩⟩
 have:=a.2.2.2 d;exact⟨⟨ω,ω⟩,⟨ω,ω⟩⟩
def JE{p:cC}(h:eR p=true):cC.wf p:=by
 have a:=λi b=>fZ h (i:=i) b
 have e:p.U.length<=16:=mW h;unfold eR at h;simp only[I0,C0]at h;exact⟨⟨ω,ω⟩,⟨ω,ω⟩,⟨ω,λv c=>by
   obtain⟨j,d,rfl⟩:=aM c;have:=a j d;exact⟨ω,ω⟩⟩⟩
variable{E:List Int}
def aT.jobWf(a:aT h E):cL.wf h.Z/\cL.sml h.Z:=by
 cases b:h.u with
 | true=>
  obtain⟨c,f,g,i,j⟩:=d4.1 (a.job b).1;have k:=mW c;exact⟨⟨JE c,⟨ω,ω⟩,⟨ω,ω⟩⟩,by show h.Z.Y.U.length<=1048576;omega⟩
 | false=>
  have:=a.noj b;unfold sL at this;rw[C0]at this;obtain⟨l,n,e,o,p⟩:=this;refine⟨⟨⟨⟨ω,ω⟩,⟨ω,ω⟩,⟨ω,λv d=>?_⟩⟩,⟨ω,ω⟩,⟨ω,ω⟩⟩,by show h.Z.Y.U.length<=1048576;omega⟩;rw[S7 e]at d;cases d
variable{n:Int}
def xA(h:0<=aG n):1<=n/\n<=8:=by
 unfold aG at h
 repeat' split at h
 all_goals omega
variable{a:Int}
def jF.wf(b:aT h E){c:Int}(d:jF h.K a c):ni a:=by
 have:=d.bd b;exact⟨ω,ω⟩
def aT.wf(d:aT h E)(M:jw h.G.a0):ab.wf h:=by
 have q:=d.lens;have r:=d.L;have D:=d.nums;unfold cr at D;rw[C0]at D;obtain⟨X,N,Y⟩:=fV.1 d.rng;obtain⟨O,-,-,Z,q5,-⟩:=iW.1 d.quar;have w:=d.mail;have k:=d.hfl;unfold aN at k;rw[CC w]at k;unfold bu at w;simp only[I0,C0,cF,gL,v4,nI,QI]at w;obtain⟨⟨⟨m1,m2,m3⟩,P⟩,m5⟩:=w;have A:=q.free;have Q:=q.spans;have h3:=q.larges;have h4:=q.objs;have h5:=q.caches;have h6:=q.quar;have t:∀n:Nat,br h.w n<=br h.w (n+1):=λn=>by simp only[br];omega
 have g:∀a b:Nat,a<=b->br h.w a<=br h.w b:=λa b u=>by
  induction u with
  | refl=>exact v5 _
  | step _ R=>exact t5 R (t _)
 have B:∀n:Nat,0<=br h.w n:=λn=>g 0 n (W0 _)
 have o:∀i,i<h.w.T.length->(nth h.w.T i).length<=30/\(nth h.w.y i).length<=30:=λi f=>by
  have F:=g (i+1) h.w.T.length ω;have S:=B i;simp only[br]at F;omega
 refine⟨EV d.ker M,⟨ω,λx e=>?_⟩,⟨ω,λx e=>?_⟩,⟨ω,λx e=>?_⟩,⟨ω,λx e=>?_⟩,⟨ω,λx e=>?_⟩,⟨⟨ω,λl c=>?_⟩,⟨ω,λl c=>?_⟩⟩,⟨⟨ω,ω⟩,⟨ω,λx e=>?_⟩⟩,⟨ω,ω⟩,⟨ω,ω⟩,⟨ω,ω⟩,⟨ω,ω⟩,trivial,d.jobWf.1⟩
 ·have:=N x e;exact⟨⟨ω,ω⟩,⟨ω,ω⟩⟩
 ·have y:=r.sok x e
  have G:=eB y;have T:=aE y;exact⟨⟨ω,ω⟩,⟨ω,ω⟩,⟨ω,ω⟩⟩
 ·have H:=aK (r.lok x e)
  have J:=cX (r.lok x e);exact⟨⟨ω,ω⟩,⟨ω,ω⟩,⟨ω,ω⟩⟩
 ·obtain⟨o1,o2,o3,o4⟩:=d.onu x e
  have u:0<=x.Addr/\x.Addr<512/\-1000<=x.o/\x.o<=1000:=by
   rcases d.oow x e with⟨s,y,A,Q⟩|⟨l,c,F,S⟩
   ·have T:=aE (r.sok s y)
    have:=xA (n:=x.o) ω;exact⟨by have:=A.1;omega,by have:=A.2.1;omega,ω,ω⟩
   have H:=aK (r.lok l c);have J:=cX (r.lok l c);omega
  exact⟨⟨ω,ω⟩,⟨ω,ω⟩,⟨ω,ω⟩,⟨ω,ω⟩⟩
 ·obtain⟨c1,U⟩:=q.lists x e
  refine⟨ω,λl c=>⟨by have:=U l c;omega,λa C=>?_⟩⟩;obtain⟨j,V,rfl⟩:=aM c;exact jF.wf d (d.hca x e j V a C)
 ·obtain⟨i,f,rfl⟩:=aM c
  have G:=o i f;refine⟨ω,λp K=>?_⟩;have W:=(P i f).1 p K;exact⟨⟨ω,ω⟩,jF.wf d (k p.Addr (C3.2 (.inl (List.mem_flatMap.2 ⟨_,am f,O4.2 ⟨p,K,rfl⟩⟩))))⟩
 ·obtain⟨i,f,rfl⟩:=aM c
  have G:=o i ω;exact⟨ω,λa C=>jF.wf d (k a (C3.2 (.inr (List.mem_flatten.2 ⟨_,am f,C⟩))))⟩
 have H:=O x e;have J:=d.snc x e;exact⟨jF.wf d (d.hqu x e),⟨ω,ω⟩,⟨ω,ω⟩⟩
structure TS(h:ab):Prop where
 ker:aA h.G=true
 wf:ab.wf h
 sml:ab.sml h
 lens:tZ h
def aT.fit(a:aT h E)(b:jw h.G.a0)(c:aJ.sml h.w):TS h:=⟨a.ker,a.wf b,a.lens.sml a.ker c a.jobWf.2,a.lens⟩
def wN(b:aT h [])(c:h.u=true):aA (mStep h).G=true/\(mStep h).G.Calls<=h.G.Calls+1/\(mStep h).G.a0=h.G.a0/\(mStep h).w=h.w/\(Eo h=true->(mStep h).u=false)/\cL.wf (mStep h).Z/\cL.sml (mStep h).Z:=by
 have s:=JS.of b c;refine⟨s.ker,s.calls.2.1,s.calls.2.2,rfl,λa=>?_,?_⟩
 ·unfold Eo at a
  rw[C0]at a;show(if over _=true then false else h.u)=false;rw[CC (show over (gR h.G h.Z).2=true from O0 (.inl a))]
 show cL.wf (if over _=true then _ else _)/\cL.sml (if over _=true then _ else _);split
 ·exact⟨⟨⟨⟨by decide,by decide⟩,⟨by decide,by decide⟩,⟨by decide,λv f=>by cases f⟩⟩,⟨by decide,by decide⟩,⟨by decide,by decide⟩⟩,by show(0:Nat)<=1048576;omega⟩
 have d:=(d4.1 (b.job c).1).1;have g:=mW d;obtain⟨j,k⟩:=s.ph;obtain⟨l,i⟩:=s.nxt;have e:=s.plan;refine⟨⟨by rw[e];exact JE d,⟨ω,ω⟩,⟨ω,by rw[e]at i;omega⟩⟩,by show((gR h.G h.Z).2.Y.U).length<=1048576;rw[e];omega⟩
def zB(h:ab):Nat->ab × Bool
 | 0=>(h,false)
 | i+1=>if(zB h i).1.u=true then(mStep (zB h i).1,Eo (zB h i).1) else zB h i
def fin(h:ab):ab × Bool:=zB h 100
def p7(hi:aT h []):aT (started h).1 []/\(started h).1.G=h.G/\(started h).1.w=h.w:=by
 have r:=hi.nums;unfold cr at r;rw[C0]at r;have t:=(mT (bE h).length (show 0<=h.c1/\h.c1<=1073741823 by omega) ((bE h).length - 1)).2;have g:=nr (bE h) (show 0<=h.c1/\h.c1<=1073741823 by omega);have c:cr {h with c1:=(shuf (bE h).length h.c1).2} = true:=by
  unfold cr;rw[C0];unfold shuf;simp only;omega
 cases j:lX (bE h) h.c1 with
 | nil=>
  have f:Ab.started h=({h with c1:=(shuf (bE h).length h.c1).2},false):=by unfold Ab.started;rw[j]
  rw[f];exact⟨{hi with nums:=c},rfl,rfl⟩
 | cons q y=>
  obtain⟨C,D,k⟩:=g q (by rw[j];exact Z1 ..);have f:Ab.started h=({h with c1:=(shuf (bE h).length h.c1).2,u:=true,Z:=tH (dr (nth (bE h) q.A.toNat) (nth (bE h) q.B.toNat))},true):=by unfold Ab.started;rw[j]
  rw[f];have d:∀s∈bE h,s∈h.K:=λs u=>mV h (I3 _) s (List.mem_of_mem_take u)
  have l:=d _ (am (xs:=bE h) (i:=q.A.toNat) ω);have n:=d _ (am (xs:=bE h) (i:=q.B.toNat) ω);generalize nth (bE h) q.A.toNat=a at k l |-;generalize nth (bE h) q.B.toNat=b at k n |-;obtain⟨w,E,F⟩:=tl k;have o:jN (tH (dr a b))=true:=d4.2 ⟨w,by show(0:Int)<=0;omega,by show(0:Int)<=5;omega,by show(0:Int)<=0;omega,by show(0:Int)<=(((dr a b).U.length:Nat):Int);omega⟩;have p:(∃s∈h.K,s.Q=(dr a b).a5)/\∃s∈h.K,s.Q=(dr a b).a4:=by
   unfold dr;split
   ·exact⟨⟨b,n,rfl⟩,⟨a,l,rfl⟩⟩
   exact⟨⟨a,l,rfl⟩,⟨b,n,rfl⟩⟩
  exact⟨{hi with nums:=c,job:=λ_=>⟨o,p⟩,noj:=λe=>by cases e},rfl,rfl⟩
def aT.objSz(a:aT h E):∀o∈h.M,0<=o.o/\o.o<=1000:=λx c=>by
 rcases a.oow x c with⟨s,d,e,f⟩|⟨l,b,g,i⟩
 ·have j:=aE (a.L.sok s d)
  have:=xA (n:=x.o) ω;omega
 have k:=cX (a.L.lok l b);omega
variable{size:Int}
def KN(t:Int)(c:aT h [])(d:9<=size/\size<=1000):largeA h t size=if(Lr h size).2<0 then((Lr h size).1,-1,4) else(addO (Lr h size).1 (Lr h size).2 size t,(Lr h size).2,0):=by
 unfold largeA Lr;by_cases a:(au h.q (gG size:Nat)).2.2=false
 ·rw[CC a,CC a]
  exact(CC (show(-1:Int)<0 by decide)).symm
 rw[C9 a,C9 a];obtain⟨e,-⟩:=jA c (show(1:Int)<=(gG size:Nat) by unfold gG;omega) (by simpa using a);by_cases b:(dO h size).2=gG size
 ·rw[CC b,CC b]
  exact(C9 (show ¬16*(au h.q (gG size:Nat)).2.1<0 by omega)).symm
 rw[C9 b,C9 b];exact(CC (show(-1:Int)<0 by decide)).symm
def zm(h:ab)(t size:Int)(k:aT h []):zzB 74 false [.ptr (bA h),.val none [I t],.val none [I size]] [.ptr (bA (allocH h t size).1),.val none [I t],.val none [I size]] (.tup [none,none]) [I (allocH h t size).2.1,I (allocH h t size).2.2]:=by
 have X:=k.lens;have hlc:=X.caches;have P:=X.objs;have p:=k.nums;unfold cr at p;rw[C0]at p;have Q:=tw k.objSz h.M.length (I3 _);change 0<=tP h/\tP h<=_ at Q;have n:=aH t 0 ((h.S.length:Int) - 1);have r:=aH size 1 1000;have E:=xl h k.objSz ω;have F:=kL size;refine fM 119 [(221,[2,0,0]),(222,[2,0])] [(7,10,[36,37,38,39,40,41,42,43,44,45]),(18,272,[81,82,83,84,85,86,87,89,90,91,92,93,94,95,96,97,0,1,2,3,4,5,6,8,9,10,11,12,13,14,15,16,1016,7,1008,1009,1010,1011,1012,1013,1014,1015,1016,17,18]),(1048594,0,[8])] [(0,0),(0,0),(0,0)] Tryz.func74 rfl (λu q=>?_) (.inr ⟨trivial,trivial,trivial⟩);unfold allocH;by_cases h1:1000000<=h.b
 ·rw[CC (.inl h1)]
  repeat'(first|refine gE ?_|(conv=>whnf);first|refine CB ?_)
  refine CJ rfl rfl ?_;exact wC
 by_cases h2:90000<h.G.Calls
 ·rw[CC (.inr h2)]
  repeat'(first|refine gE ?_|(conv=>whnf);first|with_reducible refine Bf.D (λb=>?_) (λb=>?_)|refine CB ?_)
  refine CJ rfl rfl ?_;exact wC
 rw[C9 ω];by_cases C:¬(0<=t/\t<=h.S.length - 1)
 ·rw[CC C]
  rw[U0 C]at n
  repeat'(first|refine gE ?_|(conv=>whnf);first|with_reducible refine Bf.D (λb=>?_) (λb=>?_)|refine CB ?_|refine C8 (n) ?_)
  refine CJ rfl rfl ?_;exact wC
 rw[C9 C];replace C:=Decidable.not_not.1 C;rw[O0 C]at n;by_cases B:¬(1<=size/\size<=1000)
 ·rw[CC B]
  rw[U0 B]at r
  repeat'(first|refine gE ?_|(conv=>whnf);first|with_reducible refine Bf.D (λb=>?_) (λb=>?_)|refine CB ?_|refine C8 (n) ?_|refine C8 (r) ?_)
  refine CJ rfl rfl ?_;exact wC
 rw[C9 B];replace B:=Decidable.not_not.1 B;rw[O0 B]at r;by_cases Y:h.c4<tP h+size
 ·rw[CC Y]
  repeat'(first|refine gE ?_|(conv=>whnf);first|with_reducible refine Bf.D (λb=>?_) (λb=>?_)|refine CB ?_|refine C8 (n) ?_|refine C8 (r) ?_|refine CF (E) ⟨⟨rfl,bJ h⟩,trivial⟩ ?_|refine CB ?_)
  refine CJ rfl rfl ?_;exact wC
 rw[C9 Y];by_cases G:0<=aG size
 ·rw[CC G]
  have hc3:aG size<=3:=by unfold aG;repeat' split<;>omega
  obtain⟨T,rfl⟩:=z3 C.1;obtain⟨K,hK⟩:=z3 G;have o:=zg h T K k ω ω ω;have s:=ux (t:=T) (c:=K) k ω ω ω;rw[hK]at F |-;simp only[Z2];generalize smallA h T K=w at o s |-;obtain⟨g,a⟩:=w;have H:g.b=h.b:=s.nx;simp only at o |-;by_cases J:a<0
  ·rw[CC J]
   repeat'(first|refine gE ?_|(conv=>whnf);first|with_reducible refine Bf.D (λb=>?_) (λb=>?_)|refine CB ?_|refine C8 (n) ?_|refine C8 (r) ?_|refine CF (E) ⟨⟨rfl,bJ h⟩,trivial⟩ ?_|refine CB ?_|refine C8 (F) ?_|refine CK (o) (.inl rfl) ?_)
   refine CJ rfl rfl ?_;exact wC
  rw[C9 J];obtain⟨k1,k2⟩:=s.yes (show(0:Int)<=a by omega);have R:g.M.length<=512:=k1.lens.objs
  repeat'(first|refine gE ?_|(conv=>whnf);first|with_reducible refine Bf.D (λb=>?_) (λb=>?_)|refine CB ?_|refine C8 (n) ?_|refine C8 (r) ?_|refine CF (E) ⟨⟨rfl,bJ h⟩,trivial⟩ ?_|refine CB ?_|refine C8 (F) ?_|refine CK (o) (.inl rfl) ?_)
  (conv=>whnf)
  refine CG (ι:=Nat) (λi=>[(0,.H .box (bA g)),(1,.H .one [I ((T:Nat):Int)]),(2,.H .one [I (size)]),(8,.H .one [I (a)]),(9,.H .one [I ((i:Nat):Int)])]) (λi=>i<=g.M.length/\∀(j:Nat)(z:aY),j<i->g.M[j]? = some z->Pv a z=false) (λi=>g.M.length - i) (0) ?_ (⟨W0 _,λj z hj=>ω⟩) λi k=>?_
  ·exact wC
  obtain⟨S,L⟩:=k;by_cases U:i<g.M.length/\(nth g.M i).Addr<a
  ·have d:=ao U.1
   repeat'(first|refine gE ?_|(conv=>whnf);first|with_reducible refine CD (aa d) ?_|refine CB ?_|refine CH rfl (aa d) rfl ?_)
   ((conv=>whnf);refine CE (i+1) ⟨ω,gw d (U0 ω) L⟩ ω ?_;(exact wC))
  have l:kM (Pv a) g.M=i:=vS ω L λz M=>by
   have V:=(U2.1 M).1;have:z=nth g.M i:=(bg M).symm;subst this;exact O0 ω
  have d:i<g.M.length->g.M[i]? = some (nth g.M i):=λW=>ao W
  rw[show addO g a size (T:Nat) = {g with M:=g.M.take i++⟨g.b,a,size,(T:Nat)⟩::g.M.drop i,b:=g.b+1} by unfold addO;rw[vW l]]
  repeat'(first|refine gE ?_|(conv=>whnf);first|with_reducible (first|refine CD (aa (d ω)) ?_|refine Bf.D (λb=>?_) (λb=>?_))|refine CB ?_|refine CH rfl (aa (d ω)) rfl ?_|refine GD.mk rfl (vU g.M) rfl ?_|refine CX i rfl (by rw[C1];omega) (aL λ_=>rfl) C4 ?_|refine Ca i rfl (by rw[C1];omega) (aL λ_=>rfl) I4 ?_|refine CQ (λ_=>rfl) (λ_=>rfl) (by rw[V1];omega) (by decide) ?_|refine Ap.sn (aL λ_=>rfl) rfl (by rw[C1,V1];omega) (by decide) rfl ?_|refine Ap.ins (e:=aY.enc .V) (y:=⟨g.b,a,size,(T:Nat)⟩) rfl (λ_=>rfl) (λ_=>rfl) ω (by decide) ?_|refine CB ?_)
  all_goals
   refine CJ rfl rfl ?_;exact wC
 rw[C9 G];have N:9<=size:=by unfold aG at G;repeat' split at G<;>omega
 have o:=zD h size k ⟨N,B.2⟩ ω;rw[KN t k ⟨N,B.2⟩];have Z:(Lr h size).1.b=h.b/\(Lr h size).1.M=h.M:=by
  unfold Lr;split
  ·exact⟨rfl,rfl⟩
  split<;>exact⟨rfl,rfl⟩
 generalize Lr h size=w at o Z |-;obtain⟨g,a⟩:=w;obtain⟨H,O⟩:=Z;simp only at o H O |-;have R:g.M.length<=512:=by rw[O];exact P
 by_cases J:a<0
 ·rw[CC J]
  repeat'(first|refine gE ?_|(conv=>whnf);first|with_reducible refine Bf.D (λb=>?_) (λb=>?_)|refine CB ?_|refine C8 (n) ?_|refine C8 (r) ?_|refine CF (E) ⟨⟨rfl,bJ h⟩,trivial⟩ ?_|refine CB ?_|refine C8 (F) ?_|refine CK (o) (.inl rfl) ?_)
  refine CJ rfl rfl ?_;exact wC
 rw[C9 J]
 repeat'(first|refine gE ?_|(conv=>whnf);first|with_reducible refine Bf.D (λb=>?_) (λb=>?_)|refine CB ?_|refine C8 (n) ?_|refine C8 (r) ?_|refine CF (E) ⟨⟨rfl,bJ h⟩,trivial⟩ ?_|refine CB ?_|refine C8 (F) ?_|refine CK (o) (.inl rfl) ?_)
 (conv=>whnf)
 refine CG (ι:=Nat) (λi=>[(0,.H .box (bA g)),(1,.H .one [I (t)]),(2,.H .one [I (size)]),(8,.H .one [I (a)]),(9,.H .one [I ((i:Nat):Int)])]) (λi=>i<=g.M.length/\∀(j:Nat)(z:aY),j<i->g.M[j]? = some z->Pv a z=false) (λi=>g.M.length - i) (0) ?_ (⟨W0 _,λj z hj=>ω⟩) λi k=>?_
 ·exact wC
 obtain⟨S,L⟩:=k;by_cases U:i<g.M.length/\(nth g.M i).Addr<a
 ·have d:=ao U.1
  repeat'(first|refine gE ?_|(conv=>whnf);first|with_reducible refine CD (aa d) ?_|refine CB ?_|refine CH rfl (aa d) rfl ?_)
  ((conv=>whnf);refine CE (i+1) ⟨ω,gw d (U0 ω) L⟩ ω ?_;(exact wC))
 have l:kM (Pv a) g.M=i:=vS ω L λz M=>by
  have V:=(U2.1 M).1;have:z=nth g.M i:=(bg M).symm;subst this;exact O0 ω
 have d:i<g.M.length->g.M[i]? = some (nth g.M i):=λW=>ao W
 rw[show addO g a size t = {g with M:=g.M.take i++⟨g.b,a,size,t⟩::g.M.drop i,b:=g.b+1} by unfold addO;rw[vW l]]
 repeat'(first|refine gE ?_|(conv=>whnf);first|with_reducible (first|refine CD (aa (d ω)) ?_|refine Bf.D (λb=>?_) (λb=>?_))|refine CB ?_|refine CH rfl (aa (d ω)) rfl ?_|refine GD.mk rfl (vU g.M) rfl ?_|refine CX i rfl (by rw[C1];omega) (aL λ_=>rfl) C4 ?_|refine Ca i rfl (by rw[C1];omega) (aL λ_=>rfl) I4 ?_|refine CQ (λ_=>rfl) (λ_=>rfl) (by rw[V1];omega) (by decide) ?_|refine Ap.sn (aL λ_=>rfl) rfl (by rw[C1,V1];omega) (by decide) rfl ?_|refine Ap.ins (e:=aY.enc .V) (y:=⟨g.b,a,size,t⟩) rfl (λ_=>rfl) (λ_=>rfl) ω (by decide) ?_|refine CB ?_)
 all_goals
  refine CJ rfl rfl ?_;exact wC
def HF(h:ab)(a n:Int)(t:h.J.length<=4096)(j:∀l∈h.J,bH l=true)(o:zi h a<0):zzB 420 false [.ptr (bA h),.val none [I a],.val none [I n]] [.ptr (bA h),.val none [I a],.val none [I n]] .one [B false]:=by
 have b:∀l∈h.J,l.Q*16≠a:=λl c e=>by
  have:=EQ (p:=Jr a) c (O0 e);unfold zi at o;omega
 refine fM 136 [(374,[2,0])] [(8,6,[49,50,51,52,53,54]),(9,10,[56,57,58,59,60,61,62,63,64,65]),(20,270,[123,124,125,126,127,128,129,130,131,122,132,133,134,135,0,1,2,3,4,5,6,7,8,9,10,11,12,13,14,1011])] [(0,0),(0,0),(0,0)] Tryz.func420 rfl (λu q=>?_)
 repeat'(first|refine gP ?_|(conv=>whnf);first|refine CB ?_)
 (conv=>whnf)
 refine CG (ι:=Nat) (λk=>[(0,.H .box (bA h)),(1,.H .one [I (a)]),(2,.H .one [I (n)]),(7,.H .one [I ((k:Nat):Int)])]) (λk=>k<=h.J.length) (λk=>h.J.length - k) (0) ?_ (W0 _) λk w=>?_
 ·repeat'(first|exact trivial|rfl |exact mL r|exact mL g|exact dL _|refine CL ?_ ?_|(exact A7 (by first|omega|(simp only;omega)|(simp;omega))))
 by_cases d:k<h.J.length
 ·have i:=ao d
  have y:=b _ (am d);have C:=aK (j _ (am d))
  repeat'(first|refine gB ?_|(conv=>whnf);first|with_reducible refine CD (aa i) ?_|refine CB ?_|refine CH rfl (aa i) rfl ?_)
  ((conv=>whnf);refine CE (k+1) ω ω ?_;(exact wC))
 repeat'(first|refine gE ?_|(conv=>whnf);first|refine CB ?_)
 refine CJ rfl rfl ?_;exact wC
def R9(h:ab)(a:Int)(m:Nat):bA {h with G:=zK h.G a (m+1)} = (bA {h with G:=zK h.G a m}).set 0 (.s .own (((zK h.G a m).F.W.U.map (aF .own)).set (ac (zK h.G a m).F.R ((a+m) / 16)).e.toNat ((aF .own (nth (zK h.G a m).F.W.U (co (zK h.G a m) (a+m)))).set 0 (.s .own (((nth (zK h.G a m).F.W.U (co (zK h.G a m) (a+m))).map (rI .own)).set ((a+m) % 16).toNat (splice (rI .own (nth (nth (zK h.G a m).F.W.U (co (zK h.G a m) (a+m))) ((a+m) % 16).toNat)) 0 [I 0])))))):=
 J2 {h with G:=zK h.G a m} (a+m) 0
def mi(h:ab)(i k:Nat)(n:Int)(K:ah):ab:={h with G:=K,J:=h.J.set k (trimL (nth h.J k) n),M:=h.M.set i {nth h.M i with o:=n}}
def Kk(h:ab)(i k:Nat)(n:Int)(K:ah):(mi h i k n K).M.map (aY.enc .own)=(h.M.map (aY.enc .own)).set i (splice (aY.enc .own (nth h.M i)) 2 [I n]):=by
 simp[mi,I6,aY.enc,splice]
def sX(h:ab)(i:Nat)(n:Int)(j:aT h [])(H:i<h.M.length)(hg:0<=zi h (nth h.M i).Addr):zzB 420 false [.ptr (bA h),.val none [I (nth h.M i).Addr],.val none [I n]] [.ptr (bA (if mj h i n then trimH h i (zi h (nth h.M i).Addr).toNat n else h)),.val none [I (nth h.M i).Addr],.val none [I n]] .one [B (decide (mj h i n))]:=by
 have c:=j.lens;have hnl:=c.larges;have hno:=c.objs;have hpg:fe h<=32:=c.ents;obtain⟨f1,f2,f3⟩:=fD (Jr (nth h.M i).Addr) h.J hg;obtain⟨g,o⟩:=z3 hg;have b:g<h.J.length:=by unfold zi at o;omega
 have Y:(nth h.J g).Q*16=(nth h.M i).Addr:=by
  have:=of_decide_eq_true f2;rw[show(dd (Jr (nth h.M i).Addr) h.J).toNat=g by unfold zi at o;omega]at this;exact this
 have J:∀k,k<g->(nth h.J k).Q*16≠(nth h.M i).Addr:=λk hk e=>by
  have N:k<h.J.length:=ω
  have hok1:=aK (j.L.lok _ (am N));have hok2:=aK (j.L.lok _ (am b));have:=j.L.one k g N b 0 0 ω ω ω;omega
 have p:mj h i n↔9<=n/\n<=(nth h.J g).o:=by
  unfold mj;rw[o,Z2];exact⟨λx=>x.2,λx=>⟨ω,x⟩⟩
 rw[o,Z2];have hbd:=mG j (am H);obtain⟨-,Z,w⟩:=j.objAt (am H);have hii:jS h (nth h.M i).Addr=i:=by
  have h2:=(j.objAt (am H)).1;exact ce (f:=(·.Addr)) (cQ j.osr) h2 H (by rw[Z])
 rw[hii]at w;have E:=ao H;have hxg:=ao b;have V:=yp (nth h.J g) n (j.L.lok _ (am b));have h8:=j.L.lok _ (am b);unfold bH at h8;rw[C0]at h8;refine fM 136 [(374,[2,0])] [(8,6,[49,50,51,52,53,54]),(9,10,[56,57,58,59,60,61,62,63,64,65]),(20,270,[123,124,125,126,127,128,129,130,131,122,132,133,134,135,0,1,2,3,4,5,6,7,8,9,10,11,12,13,14,1011])] [(0,0),(0,0),(0,0)] Tryz.func420 rfl (λu q=>?_)
 repeat'(first|refine gP ?_|(conv=>whnf);first|refine CB ?_)
 (conv=>whnf)
 refine CG (ι:=Nat) (λk=>[(0,.H .box (bA h)),(1,.H .one [I ((nth h.M i).Addr)]),(2,.H .one [I (n)]),(7,.H .one [I ((k:Nat):Int)])]) (λk=>k<=g) (λk=>g - k) (0) ?_ (W0 _) λk hk=>?_
 ·repeat'(first|exact trivial|rfl |exact mL r|exact mL d|exact dL _|refine CL ?_ ?_|(exact A7 (by first|omega|(simp only;omega)|(simp;omega))))
 have l:=ao (xs:=h.J) (i:=k) ω;have hfk:=aK (j.L.lok _ (am (xs:=h.J) (i:=k) ω));by_cases e:k=g;rotate_left
 ·have hne:=J k ω
  repeat'(first|refine gB ?_|(conv=>whnf);first|with_reducible refine CD (aa l) ?_|refine CB ?_|refine CH rfl (aa l) rfl ?_)
  ((conv=>whnf);refine CE (k+1) ω ω ?_;(exact wC))
 subst e;by_cases F:9<=n/\n<=(nth h.J k).o;rotate_left
 ·rw[C9 (by rw[p];exact F),U0 (by rw[p];exact F)]
  rw[C9 F]at V
  repeat'(first|refine gB ?_|(conv=>whnf);first|with_reducible refine CD (aa l) ?_|refine CB ?_|refine CH rfl (aa l) rfl ?_|refine C8 (V) ?_)
  refine CJ rfl rfl ?_;exact wC
 rw[CC (by rw[p];exact F),O0 (by rw[p];exact F)];rw[CC F]at V;have y:=λm hm=>x9 j b F (m:=m) hm
 have D:=λm=>(my h.G (16*(nth h.J k).Q+n) m).1
 have O:=λa W=>jM j b (a:=a) W
 have hsz:n<=16*(nth h.J k).a2:=ω
 generalize hM:(16*((n+15) / 16) - n).toNat=M at *;have hfl:∀m,(zK h.G (16*(nth h.J k).Q+n) m).F.W.U.length=h.G.F.W.U.length:=λm=>by
  induction m with
  | zero=>rfl
  | succ m ih=>show(List.set _ _ _).length=_;rw[U1];exact ih
 have cO:=qW {h with J:=h.J.set k (trimL (nth h.J k) n)} (nth h.M i).Addr (by show h.M.length<=_;omega);change ar _ _ _ [.val (some 24) (ab.enc .V {h with J:=h.J.set k (trimL (nth h.J k) n)}),_] _ [I (dd (gf (nth h.M i).Addr) h.M)]at cO;rw[w]at cO;have Q:=bJ {h with J:=h.J.set k (trimL (nth h.J k) n)};have heL:bA {h with J:=h.J.set k (trimL (nth h.J k) n)} = (bA h).set 7 (.s .own ((h.J.map (ay.enc .own)).set k (ay.enc .own (trimL (nth h.J k) n)))):=by simp[bA,I6]
 rw[heL]at Q
 repeat'(first|refine gB ?_|(conv=>whnf);first|with_reducible (first|refine CD (aa l) ?_|refine CD (aa E) ?_)|refine CB ?_|refine CH rfl (aa l) rfl ?_|refine C8 (V) ?_|refine CP rfl rfl (aa l) rfl (I1 rfl) rfl ?_|refine CF (cO) ⟨⟨rfl,Q⟩,⟨rfl,rfl⟩,trivial⟩ ?_|refine CP rfl rfl (aa E) rfl (I1 rfl) rfl ?_|refine CH rfl (aa E) rfl ?_|refine CB ?_)
 rw[<-Y];have e0:mi h i k n h.G=mi h i k n (zK h.G (16*(nth h.J k).Q+n) 0):=rfl;have r:C.s .own ((mi h i k n (zK h.G (16*(nth h.J k).Q+n) 0)).J.map (ay.enc .own))=C.s .own ((h.J.map (ay.enc .own)).set k (ay.enc .own (trimL (nth h.J k) n))):=by simp[mi,I6]
 have d:C.s .own ((mi h i k n (zK h.G (16*(nth h.J k).Q+n) 0)).M.map (aY.enc .own))=C.s .own ((h.M.map (aY.enc .own)).set i (splice (aY.enc .own (nth h.M i)) 2 [I n])):=X0 _ (Kk h i k n _)
 (conv=>whnf)
 refine CG (ι:=Nat) (λm=>[(0,.H .box (bA (mi h i k n (zK h.G (16*(nth h.J k).Q+n) m)))),(1,.H .one [I (((nth h.J k).Q*16))]),(8,.H .box (ay.enc .own (trimL (nth h.J k) n))),(9,.H .box (a7.enc .own (yv (nth h.J k) n))),(11,.H .one [I (((16*(nth h.J k).Q+n)+(m:Nat)))])]) (λm=>m<=M) (λm=>M - m) (0) ?_ (W0 _) λm hm=>?_
 ·repeat'(first|exact trivial|rfl |exact mL r|exact mL d|exact dL _|refine CL ?_ ?_|(exact A7 (by first|omega|(simp only;omega)|(simp;omega))))
 have hmod:IntKind.i64.wrap 0=0:=rfl;by_cases lm:m<M
 ·have W:0<=(16*(nth h.J k).Q+n)+(m:Nat)/\(16*(nth h.J k).Q+n)+(m:Nat)<512:=ω
  have R:=O ((16*(nth h.J k).Q+n)+(m:Nat)) ω;have t:=y m hm;rw[<-D m]at R;have hks:=bj t;have c2:=cz (zK h.G (16*(nth h.J k).Q+n) m).F.R (((16*(nth h.J k).Q+n)+(m:Nat)) / 16) hks.1.2;obtain⟨-,-,-,q0,q1⟩:=bS t R;have hul:=(aX.1 (aD.1 t).2.1).2.2.1;have S:co (zK h.G (16*(nth h.J k).Q+n) m) ((16*(nth h.J k).Q+n)+(m:Nat))<(zK h.G (16*(nth h.J k).Q+n) m).F.W.U.length:=by unfold co;omega
  have G:(zK h.G (16*(nth h.J k).Q+n) m).F.W.U[(ac (zK h.G (16*(nth h.J k).Q+n) m).F.R (((16*(nth h.J k).Q+n)+(m:Nat)) / 16)).e.toNat]? = some _:=ao S;have h16:=(tV t S).1;have T:=ao (xs:=nth (zK h.G (16*(nth h.J k).Q+n) m).F.W.U (co (zK h.G (16*(nth h.J k).Q+n) m) ((16*(nth h.J k).Q+n)+(m:Nat)))) (i:=(((16*(nth h.J k).Q+n)+(m:Nat)) % 16).toNat) (by rw[h16];omega);have htm:((16*(nth h.J k).Q+n)+(m:Nat)).tmod 16=((16*(nth h.J k).Q+n)+(m:Nat)) % 16:=eG W.1;have hpu:=R9 (mi h i k n h.G) (16*(nth h.J k).Q+n) m;have hwr:=kD W;have hst:(trimL (nth h.J k) n).a2=(n+15) / 16:=rfl
  repeat'(first|refine gE ?_|(conv=>whnf);first|refine CB ?_|refine CO (by decide) ?_|refine CM hwr ?_|refine CR htm ?_|refine CF (c2) ⟨⟨rfl,CZ _⟩,⟨rfl,rfl⟩,trivial⟩ ?_|refine CN q0 (aa G) ?_|refine CH rfl (aa G) rfl ?_|refine CN ω (aa T) ?_|refine Pu.two rfl rfl (aa G) rfl rfl rfl (aa T) rfl (I3 _) hpu ?_)
  ((conv=>whnf);refine CE (m+1) ω ω ?_;(exact wC))
 obtain rfl:m=M:=ω
 have hst:(trimL (nth h.J k) n).a2=(n+15) / 16:=rfl;have hkM:=y m (I3 _);have U:(zK h.G (16*(nth h.J k).Q+n) m).F.R.O.length=fe h:=by rw[D];rfl
 have hTK:kA h k n=zK h.G (16*(nth h.J k).Q+n) m:=by unfold kA;rw[hM]
 unfold trimH J8;rw[hTK];generalize zK h.G (16*(nth h.J k).Q+n) m=K at *;have hN:((dB (nth h.J k) n:Nat):Int)=(nth h.J k).a2 - (n+15) / 16:=by unfold dB;omega
 have hrA:0<dB (nth h.J k) n->yv (nth h.J k) n = ⟨(nth h.J k).Q+(n+15) / 16,(dB (nth h.J k) n:Nat)⟩:=λhp=>by unfold yv;rw[CC ω,hN]
 have hrB:¬0<dB (nth h.J k) n->yv (nth h.J k) n = ⟨0,0⟩:=λhp=>by unfold yv;rw[C9 ω]
 generalize dB (nth h.J k) n=P at *;by_cases X:0<P
 ·rw[CC X]
  have hr:=hrA X;rw[hr]
  repeat'(first|refine gE ?_|(conv=>whnf);first|refine CB ?_)
  (conv=>whnf)
  refine CG (ι:=Nat) (λx=>[(0,.H .box (bA (mi h i k n (unmN K ((nth h.J k).Q+(n+15) / 16) x)))),(9,.H .box ([I ((nth h.J k).Q+(n+15) / 16),I (P:Nat)])),(13,.H .one [I (((nth h.J k).Q+(n+15) / 16+(x:Nat)))])]) (λx=>x<=P) (λx=>P - x) (0) ?_ (W0 _) λx l=>?_
  ·repeat'(first|exact trivial|rfl |exact mL r|exact mL d|exact dL _|refine CL ?_ ?_|(exact A7 (by first|omega|(simp only;omega)|(simp;omega))))
  by_cases lx:x<P
  ·have c3:=nH (mi h i k n (unmN K ((nth h.J k).Q+(n+15) / 16) x)) ((nth h.J k).Q+(n+15) / 16+(x:Nat)) (ik hkM _ _)
   repeat'(first|refine gE ?_|(conv=>whnf);first|refine CB ?_|refine CK (c3) (.inl rfl) ?_)
   ((conv=>whnf);refine CE (x+1) ω ω ?_;(exact wC))
  obtain rfl:x=P:=ω
  have c4:=gY (mi h i k n (unmN K ((nth h.J k).Q+(n+15) / 16) x));rw[show fe (mi h i k n (unmN K ((nth h.J k).Q+(n+15) / 16) x))=fe h from(dS _ _ _).1.trans U]at c4;have c5:=mA (fe h:Nat) h.q ⟨(nth h.J k).Q+(n+15) / 16,(x:Nat)⟩ ⟨ω,ω⟩ ⟨by have:=c.free;omega,λ_ _=>trivial⟩
  repeat'(first|refine gE ?_|(conv=>whnf);first|refine CB ?_|refine CF (c4) ⟨bJ _,trivial⟩ ?_|refine CF (c5) ⟨⟨rfl,rfl⟩,⟨rfl,dR h.q⟩,⟨rfl,rfl⟩,trivial⟩ ?_|refine CB ?_)
  refine CJ rfl rfl ?_;exact wC
 rw[C9 X];obtain rfl:P=0:=ω
 have hr:=hrB X;rw[hr]
 repeat'(first|refine gE ?_|(conv=>whnf);first|refine CB ?_)
 (conv=>whnf)
 refine CG (ι:=Nat) (λx=>[(0,.H .box (bA (mi h i k n K))),(9,.H .box ([I 0,I 0])),(13,.H .one [I (0)])]) (λx=>x=0) (λx=>0) (0) ?_ (rfl) λx l=>?_
 ·repeat'(first|exact trivial|rfl |exact mL r|exact mL d|exact dL _|refine CL ?_ ?_|(exact A7 (by first|omega|(simp only;omega)|(simp;omega))))
 subst l
 repeat'(first|refine gE ?_|(conv=>whnf);first|refine CB ?_)
 refine CJ rfl rfl ?_;exact wC
def EI{α:Type}(a:α)(k:Nat):List.replicate (k+1) a=List.replicate k a++[a]:=List.replicate_succ' ..
def Ha(n k:Nat):bf.enc .own ⟨List.replicate k (List.replicate 16 0),List.replicate n false⟩ = [.s .own (List.replicate k [.s .own (List.replicate 16 [I 0])]),.s .own (List.replicate n [B false])]:=by
 simp[bf.enc,aF,rI,rB,List.map_replicate]
def JO(n:Nat):Mt [.s .own (List.replicate n [.z]),.s .own (List.replicate n [.z]),B true] (aJ.enc .own (ew n)++[B true]):=by
 have e:aJ.enc .own (ew n)++[B true]=[.s .own (List.replicate n [.s .own []]),.s .own (List.replicate n [.s .own []]),B true]:=by simp[aJ.enc,ew,cb,aF,List.map_replicate]
 rw[e];exact .cons (.rep (.cons .z_ .nil)) (.cons (.rep (.cons .z_ .nil)) (.cons (.rfl_ _) .nil))
def QC(n:Nat)(b:1<=n/\n<=4):zzA 200 false [.val none [I (n:Nat)]] (.tup [some 2,none]) (aJ.enc .own (ew n)++[B true]):=by
 have a:=aP ((n:Nat):Int) 1 4;rw[O0 ω]at a;refine fO 13 [(3,4,[8,9,10,11])] Tryz.func200 rfl ?_ (.inr (aQ (Cf _) ⟨trivial,trivial⟩))
 repeat'((conv=>whnf);first|with_reducible (first|refine Lm ?_|refine Wm ω ?_|refine Bn ?_|refine jU.dk rfl ?_)|refine Bt ?_|refine Bu ?_|refine CB ?_|refine C8 (a) ?_|refine Mk.mk n rfl rfl ω (yV ω (by decide)) rfl ?_)
 exact JO n
def Do(n:Nat)(b:1<=n/\n<=4):zzA 413 false [.val none [I (n:Nat)]] (.tup [some 2,none]) (aJ.enc .own (ew n)++[B true]):=by
 have a:=aH ((n:Nat):Int) 1 4;rw[O0 ω]at a;refine fO 13 [(3,4,[8,9,10,11])] Tryz.func413 rfl ?_ (.inr (aQ (Cf _) ⟨trivial,trivial⟩))
 repeat'((conv=>whnf);first|with_reducible (first|refine Lm ?_|refine Wm ω ?_|refine Bn ?_|refine jU.dk rfl ?_)|refine Bt ?_|refine Bu ?_|refine CB ?_|refine C8 (a) ?_|refine Mk.mk n rfl rfl ω (yV ω (by decide)) rfl ?_)
 exact JO n
def N4:Mt [.s .own (List.replicate 4 [.z])] (aB.enc .own fF):=.cons (.rep (.cons .z_ .nil)) .nil
def zd:zzA 414 false [] .agg (aB.enc .own fF):=by
 refine fO 3 [] Tryz.func414 rfl ?_ (.inr (aB.enc_fr _))
 repeat'((conv=>whnf);first|with_reducible (first|refine Lm ?_|refine Wm ω ?_|refine Bn ?_|refine jU.dk rfl ?_)|refine Bt ?_|refine Bu ?_|refine CB ?_|refine Mk.mk 4 rfl rfl (by decide) (by decide) rfl ?_)
 exact N4
def rZ:zzA 415 false [.val none [I 16]] (.tup [some 2,none]) (b8.enc .own ⟨16,[]⟩++[B true]):=by
 refine fO 10 [] Tryz.func415 rfl ?_ (.inr (aQ (b8.enc_fr _) ⟨trivial,trivial⟩))
 repeat'((conv=>whnf);first|with_reducible (first|refine Lm ?_|refine Wm ω ?_|refine Bn ?_|refine jU.wk rfl ?_)|refine Bt ?_|refine Bu ?_|refine CB ?_|refine C8 (aH 16 0 500) ?_)
 exact⟨rfl,rfl,rfl,trivial⟩
def caps(h:ab)(k:Nat):ab:={h with S:=List.replicate k fF}
def Lb(k:Nat):(List.replicate (k+1) fF).map (aB.enc .own)=(List.replicate k fF).map (aB.enc .own)++[aB.enc .own fF]:=by rw[EI,X5];rfl
def LM{k:Nat} : ∀r∈(List.replicate k fF).map (aB.enc .own),r.length=1:=aL λ_=>rfl
def QF(x:List bD):fz (.s .own (x.map (bD.enc .own)))=.s .V (x.map (bD.enc .V)):=(List.cons.inj (List.cons.inj (Ci ⟨0,x⟩)).2).1
def fx:∀a b:List C,ef (a++b)=ef a++ef b
 | [],_=>rfl
 | x::xs,b=>by show fz x::ef (xs++b)=fz x::(ef xs++ef b);rw[fx xs b]
def eN(r:a8)(c:a8.sml r):zzA 281 false [.val (some 2) (a8.enc .V r)] .agg (a8.enc .own r):=by
 have e:r.M.length<=1048576:=c.1;refine fO 36 [(5,272,[15,16,17,18,19,20,21,22,23,24,25,26,27,28,29,34,0,1,2,3,4,5,6,7,8,9,10,11,12,13,14,15,1000,1001,1002,1003,1004,1005,1006,1007,16,1000,1001,17,1000,1001,18,19,20])] Tryz.func281 rfl ?_ (.inr (a8.enc_fr _))
 repeat'(first|refine gP ?_|(conv=>whnf);first|refine CB ?_)
 (conv=>whnf)
 refine CG (ι:=Nat) (λi=>[(1,.H .box (a8.enc .V r)),(2,.H .box [I 0,.z]),(3,.H .box [I r.b,.s .own ((r.M.take i).map (bD.enc .own))]),(4,.H .one [I ((i:Nat):Int)])]) (λi=>i<=r.M.length) (λi=>r.M.length - i) (0) ?_ (W0 _) λi g=>?_
 ·exact wC
 by_cases b:i<r.M.length
 ·have d:=ao b
  have a:(nth r.M i).U.length<=1048576:=c.2 _ (am b)
  repeat'(first|refine gE ?_|(conv=>whnf);first|with_reducible refine CD (aa d) ?_|refine CB ?_|refine CH rfl (aa d) rfl ?_|refine CV (λ_=>rfl) (λ_=>rfl) a (by decide) ?_|refine CQ (λ_=>rfl) (λ_=>rfl) a (by decide) ?_|refine CB ?_|refine Ap.sn (aL λ_=>rfl) rfl (by simp;omega) (by decide) (fI b) ?_)
  ((conv=>whnf);refine CE (i+1) ω ω ?_;(exact wC))
 repeat'(first|refine gE ?_|(conv=>whnf);first|refine CB ?_)
 obtain rfl:i=r.M.length:=ω
 rw[C5]
 rfl
def iw(r:a8)(id:Int)(g:r.M.length<=1048576):zzA 516 false [.val (some 2) (a8.enc .V r),.val none [I id]] .one [I (oI r id)]:=by
 refine fO 22 [] Tryz.func516 rfl ?_
 repeat'(first|refine gP ?_|(conv=>whnf);first|refine CB ?_)
 (conv=>whnf)
 refine CG (ι:=Nat) (λi=>[(1,.H .one [I (id)]),(2,.H .box (a8.enc .V r)),(5,.H .one [I ((i:Nat):Int)])]) (λi=>i<=r.M.length/\∀(j:Nat)(z:bD),j<i->r.M[j]? = some z->nM id z=false) (λi=>r.M.length - i) (0) ?_ (⟨W0 _,λj z h=>ω⟩) λi c=>?_
 ·exact wC
 obtain⟨c,b⟩:=c;by_cases d:i<r.M.length
 ·have a:=ao d
  by_cases e:(nth r.M i).Id=id
  ·repeat'(first|refine gB ?_|(conv=>whnf);first|with_reducible refine CD (aa a) ?_|refine CB ?_|refine CH rfl (aa a) rfl ?_)
   exact X0 (λz=>[I z]) (dP a (O0 e) b).symm
  repeat'(first|refine gB ?_|(conv=>whnf);first|with_reducible refine CD (aa a) ?_|refine CB ?_|refine CH rfl (aa a) rfl ?_)
  ((conv=>whnf);refine CE (i+1) ⟨ω,gw a (U0 e) b⟩ ω ?_;(exact wC))
 repeat'(first|refine gE ?_|(conv=>whnf);first|refine CB ?_)
 exact X0 (λz=>[I z]) (g9 ω b).symm
def nz(r:a8)(c:C)(h:Rn c):gW (a8.enc .own r++[c]):=aQ (a8.enc_fr _) ⟨h,trivial⟩
def zA(r:a8)(n:Int)(m:Nat)(b:rK r m)(h:m<=1000)(c:1<=n/\n<=1000):zzA 273 false [.val (some 2) (a8.enc .V r),.val none [I n]] (.tup [some 2,none]) (a8.enc .V (je r n)++[I r.b]):=by
 have i:=b.sml h;have d:=b.len;have j:=b.nx;have k:=eN r i;have e:=aH n 1 1000;rw[O0 c]at e;have key:zzA 273 false [.val (some 2) (a8.enc .V r),.val none [I n]] (.tup [some 2,none]) (a8.enc .own (je r n)++[I r.b]):=by
  have a:=nz (je r n) (I r.b) trivial;unfold je at a |-;rw[CC c]at a |-;have l:a8.enc .own {r with b:=r.b+1,M:=r.M++[⟨r.b,List.replicate n.toNat 0⟩]} = [I (r.b+1),.s .own (r.M.map (bD.enc .own)++[[I r.b,.s .own (List.replicate n.toNat [I 0])]])]:=by
   simp[a8.enc,bD.enc,rI]
  rw[l]at a |-;refine fO 30 [(4,263,[13,14,15,16,17,18,22,0,1,2,3,4,5,6,1000,1001,7,1000,1001,8,9,10]),(6,259,[27,28,29,0,1,2,3,1001,1002,4])] Tryz.func273 rfl ?_ (.inr a)
  repeat'(first|refine gP ?_|(conv=>whnf);first|refine CB ?_|refine C8 (k) ?_|refine C8 (e) ?_|refine Mk.mk n.toNat ω ω ω (yV ω (by decide)) rfl ?_|refine CB ?_|refine Ap.sn (aL λ_=>rfl) rfl (by simp;omega) (by decide) rfl ?_)
  (conv=>whnf)
  rfl
 have g:=key.fzR;rw[fx,Ci]at g;exact g
def Da(r:a8)(id:Int)(m:Nat)(d:rK r m)(k:m<=1000):zzA 417 true [.val (some 2) (a8.enc .V r),.val none [I id]] (.tup [some 2,none]) (a8.enc .V (jL r id)++[B (!decide (oI r id<0))]):=by
 have g:=d.sml k;have h:=d.len;have i:=eN r g;have b:=iw r id g.1;by_cases e:oI r id<0
 ·have key:zzA 417 true [.val (some 2) (a8.enc .V r),.val none [I id]] (.tup [some 2,none]) (a8.enc .own r++[B false]):=by
   refine fO 30 [(5,267,[16,17,18,19,20,22,23,24,25,26,28,0,1,2,3,4,6,7,8,9,10,5,1006,1007,1008,1009,1010,11,12,13]),(1048581,6,[1])] Tryz.func417 rfl ?_ (.inl rfl)
   repeat'(first|refine gE ?_|(conv=>whnf);first|refine CB ?_|refine C8 (i) ?_|refine C8 (b) ?_)
   rfl
  have a:=key.fzR;rw[fx,Ci]at a;unfold jL;rw[CC e,O0 e];exact a
 have n:jL r id = {r with M:=dele r.M (oI r id).toNat}:=by unfold jL;rw[C9 e]
 obtain⟨t,u,w⟩:=fD (nM id) r.M (by unfold oI at e;omega);obtain⟨j,c⟩:=z3 (show 0<=oI r id by omega);have o:j<r.M.length:=by unfold oI at c;omega
 have key:zzA 417 true [.val (some 2) (a8.enc .V r),.val none [I id]] (.tup [some 2,none]) ([I r.b,.s .own ((dele r.M j).map (bD.enc .V))]++[B true]):=by
  rw[c]at b;refine fO 30 [(5,267,[16,17,18,19,20,22,23,24,25,26,28,0,1,2,3,4,6,7,8,9,10,5,1006,1007,1008,1009,1010,11,12,13]),(1048581,6,[1])] Tryz.func417 rfl ?_ (.inl rfl)
  repeat'(first|refine gE ?_|(conv=>whnf);first|refine CB ?_|refine C8 (i) ?_|refine C8 (b) ?_|refine GD.mk rfl (QF r.M) rfl ?_|refine CX j rfl (by rw[C1];omega) (aL λ_=>rfl) C4 ?_|refine Ca (j+1) ω (by rw[C1];omega) (aL λ_=>rfl) I4 ?_|refine CQ (λ_=>rfl) (λ_=>rfl) (by rw[V1];omega) (by decide) ?_|refine CV (λ_=>rfl) (λ_=>rfl) (by rw[V1];omega) (by decide) ?_|refine Ap.dele (λ_=>rfl) (λ_=>rfl) ω (by decide) ?_|refine CB ?_)
  rfl
 have a:=key.fzR;have p:ef ([I r.b,.s .own ((dele r.M j).map (bD.enc .V))]++[B true])=a8.enc .V (jL r id)++[B (!decide (oI r id<0))]:=by
  have:∀l:List bD,fzR (l.map (bD.enc .V))=l.map (bD.enc .V):=λl=>by
   induction l with
   | nil=>rfl
   | cons x xs q=>rw[Z5,fzR,q,<-bD.enc_fz,pI]
  rw[n,c,U0 ω];simp[ef,fz,a8.enc,this]
 rw[p]at a;exact a
def zr(r:a8)(id a v:Int)(m:Nat)(o:rK r m)(D:m<=1000)(h:0<=oI r id)(c:0<=a/\a<=(nth r.M (oI r id).toNat).U.length - 1)(p:0<=v/\v<=999):zzA 419 false [.val (some 2) (a8.enc .V r),.val none [I id],.val none [I a],.val none [I v]] (.tup [some 2,none]) (a8.enc .V (eJ r id a v)++[B true]):=by
 have k:=o.sml D;have q:=o.len;have E:=eN r k;have t:=iw r id k.1;obtain⟨J,K,L⟩:=fD (nM id) r.M h;obtain⟨j,l⟩:=z3 h;have d:j<r.M.length:=by unfold oI at l;omega
 have e:=ao d;have F:(nth r.M j).U.length<=1048576:=k.2 _ (am d);obtain⟨b,g⟩:=z3 c.1;have G:eJ r id a v = {r with M:=r.M.set j ⟨(nth r.M j).Id,(nth r.M j).U.set b v⟩}:=by
  unfold eJ;rw[CC ⟨h,c,p⟩,l,g];rfl
 rw[l]at t c;rw[g]at c |-;simp only[Z2]at c;have u:=ao (xs:=(nth r.M j).U) (i:=b) ω;have w:=aH (b:Nat) 0 (((nth r.M j).U.length:Nat) - 1:Int);rw[O0 ω]at w;have y:=aH v 0 999;rw[O0 p]at y;have key:zzA 419 false [.val (some 2) (a8.enc .V r),.val none [I id],.val none [I (b:Nat)],.val none [I v]] (.tup [some 2,none]) (a8.enc .own (eJ r id (b:Nat) v)++[B true]):=by
  have n:=nz (eJ r id (b:Nat) v) (B true) trivial;rw[<-g,G]at n |-;have H:a8.enc .own {r with M:=r.M.set j ⟨(nth r.M j).Id,(nth r.M j).U.set b v⟩} = [I r.b,.s .own ((r.M.map (bD.enc .own)).set j [I (nth r.M j).Id,.s .own (((nth r.M j).U.map (rI .own)).set b [I v])])]:=by
   simp[a8.enc,bD.enc,rI,I6]
  rw[H]at n |-;rw[g];refine fO 48 [] Tryz.func419 rfl ?_ (.inr n)
  repeat'(first|refine gE ?_|(conv=>whnf);first|with_reducible (first|refine CD (aa e) ?_|refine CD (aa u) ?_|refine CN ω (aa e) ?_)|refine CB ?_|refine C8 (E) ?_|refine C8 (t) ?_|refine C8 (w) ?_|refine C8 (y) ?_|refine CH rfl (aa e) rfl ?_|refine Pu.two rfl rfl (aa e) rfl rfl rfl (aa u) rfl (I3 _) rfl ?_)
  rfl
 have C:=key.fzR;rw[fx,Ci]at C;exact C
def BS(r:a8)(id n:Int)(m:Nat)(l:rK r m)(u:m<=1000)(g:0<=oI r id)(c:1<=n/\n<=(nth r.M (oI r id).toNat).U.length):zzA 421 false [.val (some 2) (a8.enc .V r),.val none [I id],.val none [I n]] (.tup [some 2,none]) (a8.enc .V (fA r id n)++[B true]):=by
 have h:=l.sml u;have o:=l.len;have w:=eN r h;have p:=iw r id h.1;obtain⟨E,F,G⟩:=fD (nM id) r.M g;obtain⟨j,i⟩:=z3 g;have a:j<r.M.length:=by unfold oI at i;omega
 have d:=ao a;have y:(nth r.M j).U.length<=1048576:=h.2 _ (am a);obtain⟨b,e⟩:=z3 (show 0<=n by omega);have C:fA r id n = {r with M:=r.M.set j ⟨(nth r.M j).Id,(nth r.M j).U.take b⟩}:=by
  unfold fA;rw[CC ⟨g,c⟩,i,e];rfl
 rw[i]at p c;rw[e]at c |-;simp only[Z2]at c;have q:=aH (b:Nat) 1 (((nth r.M j).U.length:Nat):Int);rw[O0 ω]at q;have key:zzA 421 false [.val (some 2) (a8.enc .V r),.val none [I id],.val none [I (b:Nat)]] (.tup [some 2,none]) (a8.enc .own (fA r id (b:Nat))++[B true]):=by
  have k:=nz (fA r id (b:Nat)) (B true) trivial;rw[<-e,C]at k |-;have D:a8.enc .own {r with M:=r.M.set j ⟨(nth r.M j).Id,(nth r.M j).U.take b⟩} = [I r.b,.s .own ((r.M.map (bD.enc .own)).set j [I (nth r.M j).Id,.s .own (((nth r.M j).U.take b).map (rI .V))])]:=by
   simp only[a8.enc,I6]
   rfl
  rw[D]at k |-;rw[e];refine fO 46 [(5,270,[30,31,32,33,34,35,36,37,38,39,40,41,43,44,0,1,2,3,4,5,6,7,8,9,10,11,12,1000,1001,1002,13,14,15])] Tryz.func421 rfl ?_ (.inr k)
  repeat'(first|refine gE ?_|(conv=>whnf);first|with_reducible (first|refine CD (aa d) ?_|refine CN ω (aa d) ?_)|refine CB ?_|refine C8 (w) ?_|refine C8 (p) ?_|refine C8 (q) ?_|refine CH rfl (aa d) rfl ?_|refine CX b rfl (by rw[C1];omega) (aL λ_=>rfl) C4 ?_|refine CV (λ_=>rfl) (λ_=>rfl) (by rw[V1];omega) (by decide) ?_|refine CQ (λ_=>rfl) (λ_=>rfl) (by rw[V1];omega) (by decide) ?_|refine CB ?_|refine CP rfl rfl (aa d) rfl (I1 rfl) rfl ?_)
  rfl
 have t:=key.fzR;rw[fx,Ci]at t;exact t
def Dp(r:a8)(id a v:Int)(m:Nat)(h:rK r m)(l:m<=1000)(u:0<=v/\v<=999):∃b:Bool,zzA 419 false [.val (some 2) (a8.enc .V r),.val none [I id],.val none [I a],.val none [I v]] (.tup [some 2,none]) (a8.enc .V (eJ r id a v)++[B b]):=by
 by_cases i:0<=oI r id
 ·by_cases d:0<=a/\a<=(nth r.M (oI r id).toNat).U.length - 1
  ·exact⟨true,zr r id a v m h l i d u⟩
  refine⟨false,?_⟩;have c:=h.sml l;have o:=h.len;have n:=eN r c;have k:=iw r id c.1;obtain⟨C,D,E⟩:=fD (nM id) r.M i;obtain⟨j,p⟩:=z3 i;have e:j<r.M.length:=by unfold oI at p;omega
  have q:=ao e;have w:(nth r.M j).U.length<=1048576:=c.2 _ (am e);have y:eJ r id a v=r:=by unfold eJ;rw[C9 (λx=>d x.2.1)]
  rw[p]at k d;simp only[Z2]at d;have t:=aH a 0 (((nth r.M j).U.length:Nat) - 1:Int);rw[U0 d]at t;rw[y];have key:zzA 419 false [.val (some 2) (a8.enc .V r),.val none [I id],.val none [I a],.val none [I v]] (.tup [some 2,none]) (a8.enc .own r++[B false]):=by
   refine fO 48 [] Tryz.func419 rfl ?_ (.inr (nz r (B false) trivial))
   repeat'(first|refine gE ?_|(conv=>whnf);first|with_reducible refine CD (aa q) ?_|refine CB ?_|refine C8 (n) ?_|refine C8 (k) ?_|refine C8 (t) ?_|refine CH rfl (aa q) rfl ?_)
   rfl
  have g:=key.fzR;rw[fx,Ci]at g;exact g
 refine⟨false,?_⟩;have c:=h.sml l;have n:=eN r c;have k:=iw r id c.1;rw[show eJ r id a v=r by unfold eJ;rw[C9 (λx=>i x.1)]];have key:zzA 419 false [.val (some 2) (a8.enc .V r),.val none [I id],.val none [I a],.val none [I v]] (.tup [some 2,none]) (a8.enc .own r++[B false]):=by
  refine fO 48 [] Tryz.func419 rfl ?_ (.inr (nz r (B false) trivial))
  repeat'(first|refine gE ?_|(conv=>whnf);first|refine CB ?_|refine C8 (n) ?_|refine C8 (k) ?_)
  rfl
 have g:=key.fzR;rw[fx,Ci]at g;exact g
def Ei(r:a8)(id n:Int)(m:Nat)(g:rK r m)(k:m<=1000):∃b:Bool,zzA 421 false [.val (some 2) (a8.enc .V r),.val none [I id],.val none [I n]] (.tup [some 2,none]) (a8.enc .V (fA r id n)++[B b]):=by
 by_cases h:0<=oI r id
 ·by_cases c:1<=n/\n<=(nth r.M (oI r id).toNat).U.length
  ·exact⟨true,BS r id n m g k h c⟩
  refine⟨false,?_⟩;have a:=g.sml k;have o:=g.len;have l:=eN r a;have i:=iw r id a.1;obtain⟨y,C,D⟩:=fD (nM id) r.M h;obtain⟨j,p⟩:=z3 h;have d:j<r.M.length:=by unfold oI at p;omega
  have q:=ao d;have u:(nth r.M j).U.length<=1048576:=a.2 _ (am d);have w:fA r id n=r:=by unfold fA;rw[C9 (λx=>c x.2)]
  rw[p]at i c;simp only[Z2]at c;have t:=aH n 1 (((nth r.M j).U.length:Nat):Int);rw[U0 c]at t;rw[w];have key:zzA 421 false [.val (some 2) (a8.enc .V r),.val none [I id],.val none [I n]] (.tup [some 2,none]) (a8.enc .own r++[B false]):=by
   refine fO 46 [(5,270,[30,31,32,33,34,35,36,37,38,39,40,41,43,44,0,1,2,3,4,5,6,7,8,9,10,11,12,1000,1001,1002,13,14,15])] Tryz.func421 rfl ?_ (.inr (nz r (B false) trivial))
   repeat'(first|refine gE ?_|(conv=>whnf);first|with_reducible refine CD (aa q) ?_|refine CB ?_|refine C8 (l) ?_|refine C8 (i) ?_|refine C8 (t) ?_|refine CH rfl (aa q) rfl ?_)
   rfl
  have e:=key.fzR;rw[fx,Ci]at e;exact e
 refine⟨false,?_⟩;have a:=g.sml k;have l:=eN r a;have i:=iw r id a.1;rw[show fA r id n=r by unfold fA;rw[C9 (λx=>h x.1)]];have key:zzA 421 false [.val (some 2) (a8.enc .V r),.val none [I id],.val none [I n]] (.tup [some 2,none]) (a8.enc .own r++[B false]):=by
  refine fO 46 [(5,270,[30,31,32,33,34,35,36,37,38,39,40,41,43,44,0,1,2,3,4,5,6,7,8,9,10,11,12,1000,1001,1002,13,14,15])] Tryz.func421 rfl ?_ (.inr (nz r (B false) trivial))
  repeat'(first|refine gE ?_|(conv=>whnf);first|refine CB ?_|refine C8 (l) ?_|refine C8 (i) ?_)
  rfl
 have e:=key.fzR;rw[fx,Ci]at e;exact e
structure iC where
 i:Nat
 h:Int
deriving Inhabited
def w64(x:Int):Int:=IntKind.i64.wrap x
def RM(h:Int):Int:=w64 (w64 (h*6364136223846793005)+1442695040888963407)
def RB(a b:Int):Int:=w64 ((BitVec.ofInt IntKind.i64.bits a ^^^ BitVec.ofInt IntKind.i64.bits b).toNat:Nat)
def and255(a:Int):Int:=w64 ((BitVec.ofInt IntKind.i64.bits a &&& BitVec.ofInt IntKind.i64.bits 255).toNat:Nat)
def Pw(h:Int)(n:Nat):Int:=h.fdiv (2 ^ (min n IntKind.i64.bits))
def Bi(h:Int):Int:=and255 (RB (Pw h 33) (Pw h 45))
def Al(a:Int):0<=and255 a/\and255 a<=255:=by
 have b:(BitVec.ofInt IntKind.i64.bits a &&& BitVec.ofInt IntKind.i64.bits 255).toNat<=255:=by
  rw[BitVec.toNat_and];exact Z4 Nat.and_le_right (by decide)
 unfold and255 w64;rw[fo ω ω];omega
def dG(zs:List Int)(c:iC):Int × iC:=if c.i<zs.length then(and255 (Bi (RM c.h)+nth zs c.i),⟨c.i+1,RM c.h⟩) else(Bi (RM c.h),⟨c.i,RM c.h⟩)
def sA(zs:List Int)(c:iC):0<=(dG zs c).1/\(dG zs c).1<=255:=by
 unfold dG;split<;>exact Al _
variable{zs:List Int}
def jb{c:iC}(h:c.i<=zs.length):(dG zs c).2.i<=zs.length:=by
 unfold dG;split
 ·simp only;omega
 exact h
def A8(zs:List Int)(c:iC):Int × iC:=
 ((dG zs c).1*16777216+(dG zs (dG zs c).2).1*65536+(dG zs (dG zs (dG zs c).2).2).1*256+(dG zs (dG zs (dG zs (dG zs c).2).2).2).1,(dG zs (dG zs (dG zs (dG zs c).2).2).2).2)
def bt(zs:List Int)(c:iC)(n:Int):Int × iC:=if n<=256 then((dG zs c).1 % n,(dG zs c).2) else((A8 zs c).1 % n,(A8 zs c).2)
def bG(zs:List Int)(c:iC)(h:1<=n):0<=(bt zs c n).1/\(bt zs c n).1<n:=by
 unfold bt;split<;>exact⟨Int.emod_nonneg _ ω,Int.emod_lt_of_pos _ ω⟩
def bR{c:iC}(h:c.i<=zs.length)(n:Int):(bt zs c n).2.i<=zs.length:=by
 unfold bt;split
 ·exact jb h
 exact jb (jb (jb (jb h)))
def lv(zs:List Int)(c:iC)(l:List Int):Int × iC:=(nth l (bt zs c (l.length:Nat)).1.toNat,(bt zs c (l.length:Nat)).2)
def pR(zs:List Int)(c:iC){l:List Int}(h:1<=l.length):(lv zs c l).1∈l:=by
 have:=bG zs c (n:=(l.length:Nat)) ω;exact am ω
def oN(zs:List Int):Nat->Nat->List Int->iC->List Int × iC
 | 0,_,out,c=>(out,(bt zs c 4).2)
 | f+1,i,out,c=>if(i:Int)<(bt zs c 4).1 then oN zs f (i+1) (out++[(bt zs (bt zs c 4).2 12).1]) (bt zs (bt zs c 4).2 12).2 else(out,(bt zs c 4).2)
def PW(zs:List Int)(c:iC):List Int × iC:=oN zs 4 0 [] c
def J7(zs:List Int):∀(f i:Nat)(out:List Int)(c:iC),(∀x∈out,0<=x)->out.length+f<=4->c.i<=zs.length->(∀x∈(oN zs f i out c).1,0<=x)/\(oN zs f i out c).1.length<=4/\(oN zs f i out c).2.i<=zs.length
 | 0,_,out,c,b,e,d=>⟨b,by show out.length<=4;omega,bR d _⟩
 | f+1,i,out,c,b,e,d=>by
  unfold oN;split
  ·refine J7 zs f (i+1) _ _ (λx a=>?_) (by simp only[U3,List.length_singleton];omega) (bR (bR d _) _)
   rcases C3.1 a with a|a
   ·exact b x a
   rw[O1.1 a];exact(bG zs _ (by decide)).1
  exact⟨b,by show out.length<=4;omega,bR d _⟩
def zC(zs:List Int)(c:iC):Int × iC:=bt zs c 7
def Em(zs:List Int)(c:iC):Int × iC:=bt zs (zC zs c).2 3
def H7(zs:List Int)(c:iC):Int × iC:=bt zs (Em zs c).2 100
def Dy(zs:List Int)(c:iC):Int × iC:=bt zs (H7 zs c).2 4
def QJ(zs:List Int)(c:iC):List Int × iC:=PW zs (Dy zs c).2
def o9(zs:List Int)(c:iC):cH:=⟨(6+(zC zs c).1).toNat,(6+(zC zs c).1 - (Dy zs c).1).toNat,(1+(Em zs c).1).toNat,40+(H7 zs c).1,(QJ zs c).1⟩
def mS{c:iC}(h:c.i<=zs.length):DA (o9 zs c)/\(QJ zs c).2.i<=zs.length:=by
 have a:=bG zs c (n:=7) (by decide);have b:=bG zs (zC zs c).2 (n:=3) (by decide);have d:=bG zs (Em zs c).2 (n:=100) (by decide);have e:=bG zs (H7 zs c).2 (n:=4) (by decide);change 0<=(zC zs c).1/\(zC zs c).1<7 at a;change 0<=(Em zs c).1/\(Em zs c).1<3 at b;change 0<=(H7 zs c).1/\(H7 zs c).1<100 at d;change 0<=(Dy zs c).1/\(Dy zs c).1<4 at e;obtain⟨f,k,g⟩:=J7 zs 4 0 [] (Dy zs c).2 (λx j=>by cases j) (by simp) (bR (bR (bR (bR h _) _) _) _);refine⟨⟨?_,?_,?_,?_,?_⟩,g⟩
 ·show 1<=(6+(zC zs c).1).toNat/\(6+(zC zs c).1).toNat<=32;omega
 ·show 1<=(6+(zC zs c).1 - (Dy zs c).1).toNat/\(6+(zC zs c).1 - (Dy zs c).1).toNat<=32;omega
 ·show 1<=(1+(Em zs c).1).toNat/\(1+(Em zs c).1).toNat<=4;omega
 ·show 0<=40+(H7 zs c).1/\40+(H7 zs c).1<=1000;omega
 exact⟨by show(oN zs 4 0 [] (Dy zs c).2).1.length<=40;omega,f⟩
def AF(zs:List Int)(c:iC):Int × iC:=bt zs c 3
def Gt(zs:List Int)(c:iC)(ids:Int):Int × iC:=bt zs (AF zs c).2 ids
def l8(zs:List Int)(c:iC)(ids:Int):Int × iC:=bt zs (Gt zs c ids).2 20
def szs:List Int:=[1,1,2,2,3,4,4,5,8,9,20]
def rF(zs:List Int)(c:iC)(ids:Int):eA × iC:=
 if(l8 zs c ids).1<=6 then(⟨1,(AF zs c).1,(lv zs (l8 zs c ids).2 szs).1,0,0⟩,(lv zs (l8 zs c ids).2 szs).2)
 else if(l8 zs c ids).1<=9 then(⟨2,(AF zs c).1,1+(Gt zs c ids).1,0,0⟩,(l8 zs c ids).2)
 else if(l8 zs c ids).1<=12 then(⟨3,(AF zs c).1,1+(Gt zs c ids).1,(bt zs (l8 zs c ids).2 4).1,1+(bt zs (bt zs (l8 zs c ids).2 4).2 999).1⟩,(bt zs (bt zs (l8 zs c ids).2 4).2 999).2)
 else if(l8 zs c ids).1=13 then(⟨4,(AF zs c).1,1+(Gt zs c ids).1,0,9+(bt zs (l8 zs c ids).2 10).1⟩,(bt zs (l8 zs c ids).2 10).2)
 else if(l8 zs c ids).1=14 then(⟨(lv zs (l8 zs c ids).2 [5,6]).1,(AF zs c).1,1+(Gt zs c ids).1,0,0⟩,(lv zs (l8 zs c ids).2 [5,6]).2)
 else if(l8 zs c ids).1=15 then(⟨7,(AF zs c).1,1+(Gt zs c ids).1,0,0⟩,(l8 zs c ids).2)
 else if(l8 zs c ids).1=16 then(⟨8,(AF zs c).1,(lv zs (l8 zs c ids).2 [1,30,60,120]).1,0,0⟩,(lv zs (l8 zs c ids).2 [1,30,60,120]).2)
 else if(l8 zs c ids).1=17 then(⟨9,(AF zs c).1,1+(Gt zs c ids).1,0,0⟩,(l8 zs c ids).2)
 else(⟨10,(AF zs c).1,(lv zs (l8 zs c ids).2 [1,2,3,10,30]).1,0,0⟩,(lv zs (l8 zs c ids).2 [1,2,3,10,30]).2)
structure LF(a:eA):Prop where
 k:1<=a.b5/\a.b5<=10
 t:0<=a.a3/\a.a3<=1000000
 n:0<=a.N/\a.N<=1000000
 p:0<=a.At/\a.At<=1000000
 v:0<=a.Value/\a.Value<=1000000
def LJ{c:iC}{ids:Int}(h:c.i<=zs.length)(b:1<=ids/\ids<=1000):LF (rF zs c ids).1/\(rF zs c ids).2.i<=zs.length:=by
 have d:=bG zs c (n:=3) (by decide);have e:=bG zs (AF zs c).2 (n:=ids) b.1;change 0<=(AF zs c).1/\(AF zs c).1<3 at d;change 0<=(Gt zs c ids).1/\(Gt zs c ids).1<ids at e;have a:(l8 zs c ids).2.i<=zs.length:=bR (bR (bR h _) _) _;have f:=pR zs (l8 zs c ids).2 (l:=szs) (by decide);have g:=pR zs (l8 zs c ids).2 (l:=[5,6]) (by decide);have j:=pR zs (l8 zs c ids).2 (l:=[1,30,60,120]) (by decide);have k:=pR zs (l8 zs c ids).2 (l:=[1,2,3,10,30]) (by decide);have o:=bG zs (l8 zs c ids).2 (n:=4) (by decide);have p:=bG zs (bt zs (l8 zs c ids).2 4).2 (n:=999) (by decide);have q:=bG zs (l8 zs c ids).2 (n:=10) (by decide);simp only[szs,List.mem_cons,List.not_mem_nil,or_false]at f g j k;unfold rF
 repeat' split
 ·exact⟨⟨by simp only;omega,by simp only;omega,by simp only[szs];omega,by simp only;omega,by simp only;omega⟩,bR a _⟩
 ·exact⟨⟨by simp only;omega,by simp only;omega,by simp only;omega,by simp only;omega,by simp only;omega⟩,a⟩
 ·exact⟨⟨by simp only;omega,by simp only;omega,by simp only;omega,by simp only;omega,by simp only;omega⟩,bR (bR a _) _⟩
 ·exact⟨⟨by simp only;omega,by simp only;omega,by simp only;omega,by simp only;omega,by simp only;omega⟩,bR a _⟩
 ·exact⟨⟨by simp only;omega,by simp only;omega,by simp only;omega,by simp only;omega,by simp only;omega⟩,bR a _⟩
 ·exact⟨⟨by simp only;omega,by simp only;omega,by simp only;omega,by simp only;omega,by simp only;omega⟩,a⟩
 ·exact⟨⟨by simp only;omega,by simp only;omega,by simp only;omega,by simp only;omega,by simp only;omega⟩,bR a _⟩
 ·exact⟨⟨by simp only;omega,by simp only;omega,by simp only;omega,by simp only;omega,by simp only;omega⟩,a⟩
 exact⟨⟨by simp only;omega,by simp only;omega,by simp only;omega,by simp only;omega,by simp only;omega⟩,bR a _⟩
def lD(zs:List Int)(c:iC):Nat->List eA × iC
 | 0=>([],(bt zs c 41).2)
 | i+1=>((lD zs c i).1++[(rF zs (lD zs c i).2 (1+(i:Int) / 2)).1],(rF zs (lD zs c i).2 (1+(i:Int) / 2)).2)
def kn(zs:List Int)(c:iC):List eA × iC:=lD zs c (bt zs c 41).1.toNat
def pw{zs:List Int}{c:iC}(h:c.i<=zs.length):∀{n:Nat},n<=100->(lD zs c n).1.length=n/\(∀a∈(lD zs c n).1,LF a)/\(lD zs c n).2.i<=zs.length
 | 0,_=>⟨rfl,λa b=>(by cases b),bR h _⟩
 | n+1,k=>by
  obtain⟨d,e,f⟩:=pw h (n:=n) ω;obtain⟨g,j⟩:=LJ (ids:=1+(n:Int) / 2) f ω;refine⟨by simp only[lD,U3,List.length_singleton,d],λa b=>?_,j⟩;rcases C3.1 b with b|b
  ·exact e a b
  rw[O1.1 b];exact g
def ql(zs:List Int):Nat->Int
 | 0=>w64 (98801+(zs.length:Nat))
 | i+1=>w64 ((BitVec.ofInt IntKind.i64.bits (w64 (w64 (w64 (ql zs i*131)+nth zs i)+7)) &&& BitVec.ofInt IntKind.i64.bits 1073741823).toNat:Nat)
def nK(zs:List Int):iC:=⟨0,ql zs (min zs.length 4000)⟩
def dI(zs:List Int):iC:=(QJ zs (nK zs)).2
def drawn(zs:List Int):bo:=(wd (o9 zs (nK zs)) (kn zs (dI zs)).1 (kn zs (dI zs)).1.length).1
def x8(zs:List Int):qY (drawn zs) 40:=by
 have a:(nK zs).i<=zs.length:=W0 _;obtain⟨b,d⟩:=mS a;have f:=bG zs (dI zs) (n:=41) (by decide);obtain⟨e,-,-⟩:=pw (zs:=zs) (c:=dI zs) d (n:=(bt zs (dI zs) 41).1.toNat) ω;refine(qZ b _ _).more ?_;show(lD zs (dI zs) _).1.length<=40;rw[e];omega
def rU(z:Int):List C:=[.v (.int .u8 z)]
def io(zs:List Int)(c:iC):List C:=[.s .V (zs.map rU),I (c.i:Nat),I c.h]
def j7(zs:List Int):Prop:=zs.length<=1048576/\∀z∈zs,0<=z/\z<=255
def kQ(zs:List Int)(c:iC)(e:j7 zs)(w:c.i<=zs.length):zzB 180 false [.ptr (io zs c)] [.ptr (io zs (dG zs c).2)] .one [I (dG zs c).1]:=by
 have g:IntKind.i64.wrap (c.h*6364136223846793005)=w64 (c.h*6364136223846793005):=rfl;have b:IntKind.i64.wrap (w64 (c.h*6364136223846793005)+1442695040888963407)=RM c.h:=rfl;have o:=e.1;generalize p:RM c.h=H at b;have j:H.fdiv (2 ^ (min (33:Int).toNat IntKind.i64.bits))=Pw H 33:=rfl;have k:H.fdiv (2 ^ (min (45:Int).toNat IntKind.i64.bits))=Pw H 45:=rfl;have l:IntKind.i64.wrap (BitVec.ofInt IntKind.i64.bits (Pw H 33) ^^^ BitVec.ofInt IntKind.i64.bits (Pw H 45)).toNat=RB (Pw H 33) (Pw H 45):=rfl;have d:IntKind.i64.wrap (BitVec.ofInt IntKind.i64.bits (RB (Pw H 33) (Pw H 45)) &&& BitVec.ofInt IntKind.i64.bits 255).toNat=Bi H:=rfl;have r:0<=Bi H/\Bi H<=255:=Al _;unfold dG;rw[p];generalize Bi H=y at d r |-;refine fM 58 [] [(2,10,[13,14,15,16,17,18,19,20,21,22]),(3,9,[25,26,27,28,29,30,31,32,33]),(4,12,[35,36,37,38,39,40,41,42,43,44,45,46])] [(0,0)] Tryz.func180 rfl (λu q=>?_);by_cases a:c.i<zs.length
 ·rw[CC a]
  have n:=ao a;have B:=e.2 _ (am a);have t:IntKind.i64.wrap (BitVec.ofInt IntKind.i64.bits (y+nth zs c.i) &&& BitVec.ofInt IntKind.i64.bits 255).toNat=and255 (y+nth zs c.i):=rfl
  repeat'(first|refine gE ?_|(conv=>whnf);first|with_reducible (first|refine CM g ?_|refine CM b ?_|refine CM l ?_|refine CM d ?_|refine CM t ?_|refine CD (aa n) ?_|refine CO (by decide) ?_|refine CR j ?_|refine CR k ?_)|refine CH rfl (aa n) rfl ?_|refine CB ?_)
  refine CJ rfl rfl ?_;exact wB
 rw[C9 a]
 repeat'(first|refine gE ?_|(conv=>whnf);first|with_reducible (first|refine CM g ?_|refine CM b ?_|refine CM l ?_|refine CM d ?_|refine CO (by decide) ?_|refine CR j ?_|refine CR k ?_)|refine CB ?_)
 refine CJ rfl rfl ?_;exact wB
def bP(zs:List Int)(c:iC)(n:Int)(b:j7 zs)(d:c.i<=zs.length)(p:1<=n):zzB 61 false [.ptr (io zs c),.val none [I n]] [.ptr (io zs (bt zs c n).2),.val none [I n]] .one [I (bt zs c n).1]:=by
 have j:=sA zs c;have g:=kQ zs c b d;unfold bt;refine fM 37 [(180,[2])] [] [(0,0),(0,0)] Tryz.func61 rfl (λu q=>?_);by_cases h:n<=256
 ·rw[CC h]
  have a:(dG zs c).1.tmod n=(dG zs c).1 % n:=Int.tmod_eq_emod_of_nonneg j.1
  repeat'(first|refine gE ?_|(conv=>whnf);first|with_reducible (first|refine CR a ?_|refine Bf.D (λe=>?_) (λe=>?_))|refine CK (g) (.inl rfl) ?_|refine CO ω ?_)
  refine CJ rfl rfl ?_;exact wB
 rw[C9 h];have r:=sA zs (dG zs c).2;have t:=sA zs (dG zs (dG zs c).2).2;have w:=sA zs (dG zs (dG zs (dG zs c).2).2).2;have k:=kQ zs (dG zs c).2 b (jb d);have l:=kQ zs (dG zs (dG zs c).2).2 b (jb (jb d));have o:=kQ zs (dG zs (dG zs (dG zs c).2).2).2 b (jb (jb (jb d)));have a:(A8 zs c).1.tmod n=(A8 zs c).1 % n:=Int.tmod_eq_emod_of_nonneg (by unfold A8;simp only;omega);unfold A8 at a |-;simp only at a
 repeat'(first|refine gE ?_|(conv=>whnf);first|with_reducible (first|refine CR a ?_|refine Bf.D (λe=>?_) (λe=>?_))|refine CK (g) (.inl rfl) ?_|refine CK (k) (.inl rfl) ?_|refine CK (l) (.inl rfl) ?_|refine CK (o) (.inl rfl) ?_|refine CO ω ?_)
 refine CJ rfl rfl ?_;exact wB
def L2(zs:List Int)(c:iC)(l:List Int)(b:j7 zs)(d:c.i<=zs.length)(g:1<=l.length/\l.length<=1000):zzB 402 false [.ptr (io zs c),.val none (aF .V l)] [.ptr (io zs (lv zs c l).2),.val none (aF .V l)] .one [I (lv zs c l).1]:=by
 have e:=bP zs c (l.length:Nat) b d ω;have h:=bG zs c (n:=(l.length:Nat)) ω;have a:=ao (xs:=l) (i:=(bt zs c (l.length:Nat)).1.toNat) ω;unfold lv;refine fM 12 [(61,[2,0])] [] [(0,0),(0,0)] Tryz.func402 rfl (λu q=>?_)
 repeat'(first|refine gP ?_|(conv=>whnf);first|with_reducible refine CN ω (aa a) ?_|refine CK (e) (.inl rfl) ?_|refine CH rfl (aa a) rfl ?_)
 refine CJ rfl rfl ?_;exact wC
def iS(zs:List Int)(c:iC)(l:List Int)(b:j7 zs)(d:c.i<=zs.length)(g:1<=l.length/\l.length<=1000):zzB 402 false [.ptr (io zs c),.mut none (aF .own l)] [.ptr (io zs (lv zs c l).2),.mut none (aF .own l)] .one [I (lv zs c l).1]:=by
 have e:=bP zs c (l.length:Nat) b d ω;have h:=bG zs c (n:=(l.length:Nat)) ω;have a:=ao (xs:=l) (i:=(bt zs c (l.length:Nat)).1.toNat) ω;unfold lv;refine fM 12 [(61,[2,0])] [] [(0,0),(1,0)] Tryz.func402 rfl (λu q=>?_)
 repeat'(first|refine gP ?_|(conv=>whnf);first|with_reducible refine CN ω (aa a) ?_|refine CK (e) (.inl rfl) ?_|refine CH rfl (aa a) rfl ?_)
 refine CJ rfl rfl ?_;exact wC
def Lw(zs:List Int):∀(f i:Nat)(out:List Int)(c:iC),(bt zs c 4).1<=i->oN zs f i out c=(out,(bt zs c 4).2)
 | 0,_,_,_,_=>rfl
 | f+1,i,out,c,h=>by unfold oN;rw[C9 ω]
def PC(zs:List Int)(f i:Nat)(out:List Int)(c:iC)(h:(i:Int)<(bt zs c 4).1):oN zs (f+1) i out c=oN zs f (i+1) (out++[(bt zs (bt zs c 4).2 12).1]) (bt zs (bt zs c 4).2 12).2:=by
 show(if _ then _ else _)=_;rw[CC h]
structure Rq where
 i:Nat
 out:List Int
 c:iC
def wU(zs:List Int)(c:iC)(e:j7 zs)(j:c.i<=zs.length):zzB 258 false [.ptr (io zs c)] [.ptr (io zs (PW zs c).2)] .one (aF .own (PW zs c).1):=by
 refine fM 18 [(61,[2,0])] [] [(0,0)] Tryz.func258 rfl (λu q=>?_) (.inr (bM _))
 repeat'(first|refine gP ?_|fail)
 (conv=>whnf)
 refine CG (ι:=Rq) (λx=>[(0,.H .box (io zs x.c)),(3,.H .one (aF .own x.out)),(4,.H .one [I ((x.i:Nat):Int)])]) (λx=>(x.i<=4/\x.out.length<=x.i/\x.c.i<=zs.length)/\oN zs (4 - x.i) x.i x.out x.c=PW zs c) (λx=>4 - x.i) (⟨0,[],c⟩) ?_ (⟨⟨W0 _,W0 _,j⟩,rfl⟩) λx k=>?_
 ·exact wC
 obtain⟨i,out,d⟩:=x;obtain⟨⟨l,o,b⟩,a⟩:=k;simp only at l o b a |-;have B:=bG zs d (n:=4) (by decide);have g:=bP zs d 4 e b (by decide);have h:=bR b 4;have p:=bP zs (bt zs d 4).2 12 e h (by decide);have t:=bR h 12;by_cases w:(i:Int)<(bt zs d 4).1
 ·rw[show 4 - i=(4 - (i+1))+1 by omega,PC zs _ _ _ _ w]at a
  repeat'(first|refine gE ?_|(conv=>whnf);first|refine CK (g) (.inl rfl) ?_|refine CK (p) (.inl rfl) ?_|refine CU cA (λr y=>by rw[O1.1 y];rfl) (by simp[bm,eH]) (by simp;omega) (by simp only[C1];exact yV (by simp;omega) (by decide)) rfl ?_)
  ((conv=>whnf);refine CE ⟨i+1,out++[(bt zs (bt zs d 4).2 12).1],(bt zs (bt zs d 4).2 12).2⟩ ⟨⟨by simp only;omega,by simp only[U3,List.length_singleton];omega,t⟩,a⟩ (by simp only;omega) ?_)
  repeat'(first|exact trivial|rfl| exact dL _ |exact CL rfl (CL (X0 (C.s dJ.own) (by simp[rI])) trivial)|refine CL ?_ ?_|(exact A7 (by first|omega|(simp only;omega)|(simp;omega))))
 rw[Lw zs _ _ _ _ ω]at a;rw[<-a]
 repeat'(first|refine gE ?_|(conv=>whnf);first|refine CK (g) (.inl rfl) ?_)
 refine CJ rfl rfl ?_;exact wC
def cH.enc(o:dJ)(c:cH):List C:=[I (c.a2:Nat),I (c.W:Nat),I (c.c7:Nat),I c.c4,.s o (c.a0.map (rI o))]
def cH.enc_fz(c:cH):ef (cH.enc .own c)=cH.enc .V c:=by simp[ef,cH.enc,rI,<-cw,Y5]
def cH.enc_fr(c:cH):gW (cH.enc .own c):=⟨trivial,trivial,trivial,trivial,⟨.inl λh=>(by cases h),aZ _ _ λy _=>o7 y⟩,trivial⟩
def yj(zs:List Int)(c:iC)(a:j7 zs)(h:c.i<=zs.length):zzB 113 false [.ptr (io zs c)] [.ptr (io zs (QJ zs c).2)] .agg (cH.enc .own (o9 zs c)):=by
 have j:=bR h 7;have k:=bR j 3;have l:=bR k 100;have y:=bR l 4;have b:=bP zs c 7 a h (by decide);have d:=bP zs (zC zs c).2 3 a j (by decide);have e:=bP zs (Em zs c).2 100 a k (by decide);have g:=bP zs (H7 zs c).2 4 a l (by decide);have o:=wU zs (Dy zs c).2 a y;have p:=bG zs c (n:=7) (by decide);have r:=bG zs (zC zs c).2 (n:=3) (by decide);have B:=bG zs (Em zs c).2 (n:=100) (by decide);have t:=bG zs (H7 zs c).2 (n:=4) (by decide);have w:=cH.enc_fr (o9 zs c);have C:cH.enc .own (o9 zs c)=[I (6+(zC zs c).1),I (6+(zC zs c).1 - (Dy zs c).1),I (1+(Em zs c).1),I (40+(H7 zs c).1),.s .own ((QJ zs c).1.map (rI .own))]:=by
  have D:0<=(zC zs c).1/\(zC zs c).1<7:=p;have E:0<=(Em zs c).1/\(Em zs c).1<3:=r;have F:0<=(Dy zs c).1/\(Dy zs c).1<4:=t;unfold cH.enc o9;simp only;rw[Int.toNat_of_nonneg ω,Int.toNat_of_nonneg ω,Int.toNat_of_nonneg ω]
 rw[C]at w |-;change aR _ _ _ _ [.ptr (io zs (zC zs c).2),_] _ _ at b;change aR _ _ _ _ [.ptr (io zs (Em zs c).2),_] _ _ at d;change aR _ _ _ _ [.ptr (io zs (H7 zs c).2),_] _ _ at e;change aR _ _ _ _ [.ptr (io zs (Dy zs c).2),_] _ _ at g;change aR _ _ _ _ [.ptr (io zs (QJ zs c).2)] _ (aF .own (QJ zs c).1) at o;change aR _ _ _ _ _ _ [I (zC zs c).1]at b;change aR _ _ _ _ _ _ [I (Em zs c).1]at d;change aR _ _ _ _ _ _ [I (H7 zs c).1]at e;change aR _ _ _ _ _ _ [I (Dy zs c).1]at g;change 0<=(zC zs c).1/\(zC zs c).1<7 at p;change 0<=(Em zs c).1/\(Em zs c).1<3 at r;change 0<=(H7 zs c).1/\(H7 zs c).1<100 at B;change 0<=(Dy zs c).1/\(Dy zs c).1<4 at t;generalize QJ zs c=r5 at *;generalize Dy zs c=r4 at *;generalize H7 zs c=r3 at *;generalize Em zs c=r2 at *;generalize zC zs c=r1 at *;refine fM 24 [(61,[2,0]),(258,[2])] [(2,65536,[])] [(0,0)] Tryz.func113 rfl (λu q=>?_) (.inr w)
 repeat'(first|refine gP ?_|(conv=>whnf);first|refine CK (b) (.inl rfl) ?_|refine CK (d) (.inl rfl) ?_|refine CK (e) (.inl rfl) ?_|refine CK (g) (.inl rfl) ?_|refine CK (o) (.inl rfl) ?_|refine CL ?_ ?_)
 all_goals
  refine CJ rfl rfl ?_;exact wC
def xO(n:Nat)(e:1<=n/\n<=32):zzA 569 false [.val none [I (n:Nat)]] (.tup [some 2,none]) (bf.enc .own (gd n)++[B true]):=by
 have c:=aH ((n:Nat):Int) 1 32;rw[O0 ω]at c;have a:=aQ (b:=[B true]) (bf.enc_fr (gd n)) ⟨trivial,trivial⟩;rw[show bf.enc .own (gd n)=_ from Ha n n]at a |-;refine fO 28 [(7,4,[16,17,18,19])] Tryz.func569 rfl ?_ (.inr a)
 repeat'(first|refine gP ?_|(conv=>whnf);first|refine CB ?_|refine C8 (c) ?_)
 (conv=>whnf)
 refine CG (ι:=Nat) (λk=>[(0,.H .one [I ((n:Nat))]),(2,.H .box [.z,.z]),(4,.H .box [.s .own (List.replicate k [.s .own (List.replicate 16 [I 0])]),.s .own (List.replicate k [B false])]),(5,.H .one [I ((k:Nat):Int)])]) (λk=>k<=n) (λk=>n - k) (0) ?_ (W0 _) λk g=>?_
 ·exact wB
 by_cases h:k<n
 ·repeat'(first|refine gE ?_|(conv=>whnf);first|refine CB ?_|refine Mk.mk 16 rfl rfl (by decide) (by decide) rfl ?_|refine Ap.sn (λr d=>by rw[(List.mem_replicate.1 d).2];rfl) rfl (by simp;omega) (by decide) (EI _ k) ?_)
  ((conv=>whnf);refine CE (k+1) ω ω ?_;(exact wB))
 obtain rfl:k=n:=ω
 repeat'(first|refine gE ?_|(conv=>whnf);first|refine CB ?_)
 rfl
def zx(n:Nat)(e:1<=n/\n<=32):zzA 570 false [.val none [I (n:Nat)]] (.tup [some 1,none]) (aI.enc .own (eS n)++[B true]):=by
 have c:=aH ((n:Nat):Int) 1 32;rw[O0 ω]at c;have a:=aQ (b:=[B true]) (aI.enc_fr (eS n)) ⟨trivial,trivial⟩;have d:aI.enc .own (eS n)=[.s .own (List.replicate n [I 0,I 0])]:=by simp[aI.enc,eS,bh.enc,List.map_replicate]
 rw[d]at a |-;refine fO 11 [] Tryz.func570 rfl ?_ (.inr a)
 repeat'(first|refine gP ?_|(conv=>whnf);first|refine CB ?_|refine C8 (c) ?_|refine Mk.mk n rfl rfl ω (yV ω (by decide)) rfl ?_)
 rfl
def vD(p f:Nat)(a:1<=p/\p<=32)(b:1<=f/\f<=32):zzA 508 false [.val none [I (p:Nat)],.val none [I (f:Nat)]] (.tup [some 3,none]) (aU.enc .own ⟨gd f,eS p⟩++[B true]):=by
 refine fO 30 [] Tryz.func508 rfl ?_ (.inr (aQ (aU.enc_fr _) ⟨trivial,trivial⟩))
 repeat'(first|refine gP ?_|(conv=>whnf);first|refine CB ?_|refine C8 (xO f b) ?_|refine C8 (zx p a) ?_)
 rfl
def yf(p f:Nat)(a:List Int)(b:1<=p/\p<=32)(c:1<=f/\f<=32)(d:a.length<=40/\∀x∈a,0<=x):zzA 412 false [.val none [I (p:Nat)],.val none [I (f:Nat)],.val none (aF .V a)] (.tup [some 5,none]) (ah.enc .own (bV p f a)++[B true]):=by
 have e:=qm b c d;have h:=d.1;have g:=mz (bV p f a) (bj e);rw[e]at g;refine fO 31 [(2,260,[17,18,19,10,0,1,2,5,3,1000,1005,4,1005,6])] Tryz.func412 rfl ?_ (.inr (aQ (ah.enc_fr _) ⟨trivial,trivial⟩))
 repeat'(first|refine gP ?_|(conv=>whnf);first|refine CB ?_|refine C8 (vD p f b c) ?_|refine CF (g) ⟨⟨rfl,CS (bV p f a)⟩,trivial⟩ ?_|refine CQ (λ_=>rfl) (λ_=>rfl) ω (by decide) ?_|refine CV (λ_=>rfl) (λ_=>rfl) ω (by decide) ?_|refine CB ?_)
 rfl
def RT(p f t:Nat)(lim:Int)(a:List Int)(k:Nat):ab:={caps (newHeap p f t lim a) k with a6:=⟨0,[]⟩}
def D0(p f t:Nat)(lim:Int)(a:List Int)(c:1<=p/\p<=32)(d:1<=f/\f<=32)(e:1<=t/\t<=4)(g:0<=lim/\lim<=1000)(h:a.length<=40/\∀x∈a,0<=x):zzA 271 false [.val none [I (p:Nat)],.val none [I (f:Nat)],.val none [I (t:Nat)],.val none [I lim],.val none (aF .V a)] (.tup [some 24,none]) (ab.enc .own (newHeap p f t lim a)++[B true]):=by
 have b:=aH lim 0 1000;rw[O0 g]at b;refine fO 66 [(9,4,[54,55,56,57])] Tryz.func271 rfl ?_ (.inr (aQ (ab.enc_fr _) ⟨trivial,trivial⟩))
 repeat'(first|refine gP ?_|(conv=>whnf);first|refine CB ?_|refine C8 (yf p f a c d h) ?_|refine C8 (Do t e) ?_|refine C8 (b) ?_|refine C8 (rZ) ?_)
 (conv=>whnf)
 refine CG (ι:=Nat) (λk=>[(2,.H .one [I ((t:Nat))]),(10,.H .box [.z,.z,.z,I 0,.z,.z,.z,.z,.z,.z,.z,.z,I 0,.z,I 0,I 0,I 0,I 0,B false,I 0,I 0,.z,I 0,I 0]),(16,.H .box (ab.enc .own (RT p f t lim a k))),(17,.H .one [I ((k:Nat):Int)])]) (λk=>k<=t) (λk=>t - k) (0) ?_ (W0 _) λk i=>?_
 ·exact wB
 by_cases j:k<t
 ·repeat'(first|refine gE ?_|(conv=>whnf);first|refine CB ?_|refine C8 (zd) ?_|refine Ap.sn LM rfl (by rw[C1];show(List.replicate _ fF).length+1<=_;rw[Y3];omega) (by decide) (Lb k) ?_)
  ((conv=>whnf);refine CE (k+1) ω ω ?_;(exact wB))
 obtain rfl:k=t:=ω
 repeat'(first|refine gE ?_|(conv=>whnf);first|refine CB ?_|refine C8 (rZ) ?_)
 rfl
def EK:zzA 272 false [] .agg (a8.enc .own ⟨1,[]⟩):=by
 refine fO 2 [] Tryz.func272 rfl ?_ (.inr (a8.enc_fr _))
 repeat'((conv=>whnf);first|with_reducible (first|refine Lm ?_|refine Wm ω ?_|refine Bn ?_|refine jU.wk rfl ?_)|refine Bt ?_|refine Bu ?_|refine CB ?_)
 exact⟨rfl,rfl,trivial⟩
def yS(c:cH)(h:DA c):zzA 120 false [.val (some 5) (cH.enc .V c)] (.tup [some 26,none]) (bo.enc .own (world0 c)++[B true]):=by
 have a:=D0 c.a2 c.W c.c7 c.c4 c.a0 h.p h.f h.t h.l h.r;refine fO 26 [(4,2,[23,24])] Tryz.func120 rfl ?_ (.inr (aQ (bo.enc_fr _) ⟨trivial,trivial⟩))
 repeat'(first|refine gP ?_|(conv=>whnf);first|refine CB ?_|refine C8 (a) ?_|refine C8 (EK) ?_)
 rfl
def pd(o:dJ)(l:List eA):List C:=[.s o (l.map (eA.enc o))]
def eA.enc_fr(x:eA):gW (eA.enc .own x):=⟨trivial,trivial,trivial,trivial,trivial,trivial⟩
def Lx(l:List eA):gW (pd .own l):=⟨⟨.inl λh=>(by cases h),aZ _ _ λy _=>eA.enc_fr y⟩,trivial⟩
def Kw(l:List eA):ef (pd .own l)=pd .V l:=by simp[ef,pd,eA.enc,<-cw,Y5]
def FN(zs:List Int)(c:iC)(ids:Int)(b:j7 zs)(p:c.i<=zs.length)(r:1<=ids/\ids<=1000):zzB 259 false [.ptr (io zs c),.val none [I ids]] [.ptr (io zs (rF zs c ids).2),.val none [I ids]] .agg (eA.enc .own (rF zs c ids).1):=by
 have w:=bR p 3;have y:=bR w ids;have d:(l8 zs c ids).2.i<=zs.length:=bR y 20;have B:=bP zs c 3 b p (by decide);have C:=bP zs (AF zs c).2 ids b w r.1;have j:=bP zs (Gt zs c ids).2 20 b y (by decide);have H:=bG zs c (n:=3) (by decide);have J:=bG zs (AF zs c).2 (n:=ids) r.1;have D:=bG zs (Gt zs c ids).2 (n:=20) (by decide);have e:=iS zs (l8 zs c ids).2 szs b d (by decide);have E:=iS zs (l8 zs c ids).2 [5,6] b d (by decide);have F:=iS zs (l8 zs c ids).2 [1,30,60,120] b d (by decide);have l:=iS zs (l8 zs c ids).2 [1,2,3,10,30] b d (by decide);have g:=bP zs (l8 zs c ids).2 4 b d (by decide);have h:=bP zs (bt zs (l8 zs c ids).2 4).2 999 b (bR d _) (by decide);have G:=bP zs (l8 zs c ids).2 10 b d (by decide);have K:=bG zs (bt zs (l8 zs c ids).2 4).2 (n:=999) (by decide);have L:=bG zs (l8 zs c ids).2 (n:=10) (by decide);change aR _ _ _ _ [.ptr (io zs (AF zs c).2),_] _ [I (AF zs c).1]at B;change aR _ _ _ _ [.ptr (io zs (Gt zs c ids).2),_] _ [I (Gt zs c ids).1]at C;change aR _ _ _ _ [.ptr (io zs (l8 zs c ids).2),_] _ [I (l8 zs c ids).1]at j;change 0<=(AF zs c).1/\(AF zs c).1<3 at H;change 0<=(Gt zs c ids).1/\(Gt zs c ids).1<ids at J;change 0<=(l8 zs c ids).1/\(l8 zs c ids).1<20 at D;have o:=eA.enc_fr (rF zs c ids).1;unfold rF at o |-;generalize l8 zs c ids=k at *;generalize Gt zs c ids=n at *;generalize AF zs c=t at *;obtain⟨a,M⟩:=k;dsimp only at d e E F l g h G K L D j o |-;refine fM 77 [(61,[2,0]),(402,[2,1])] [] [(0,0),(0,0)] Tryz.func259 rfl (λu q=>?_) (.inr o)
 repeat'(first|refine gP ?_|(conv=>whnf);first|refine CK (B) (.inl rfl) ?_|refine CK (C) (.inl rfl) ?_|refine CK (j) (.inl rfl) ?_)
 obtain rfl|rfl|rfl|rfl|rfl|rfl|rfl|rfl|rfl|rfl|rfl|rfl|rfl|rfl|rfl|rfl|rfl|rfl|rfl|rfl:=(show a=0\/a=1\/a=2\/a=3\/a=4\/a=5\/a=6\/a=7\/a=8\/a=9\/a=10\/a=11\/a=12\/a=13\/a=14\/a=15\/a=16\/a=17\/a=18\/a=19 by omega)
 ·rw[CC (show((0:Int))<=6 by decide)]
  repeat'(first|refine gP ?_|(conv=>whnf);first|refine CK (e) (.inl rfl) ?_)
  refine CJ rfl rfl ?_;exact wC
 ·rw[CC (show((1:Int))<=6 by decide)]
  repeat'(first|refine gP ?_|(conv=>whnf);first|refine CK (e) (.inl rfl) ?_)
  refine CJ rfl rfl ?_;exact wC
 ·rw[CC (show((2:Int))<=6 by decide)]
  repeat'(first|refine gP ?_|(conv=>whnf);first|refine CK (e) (.inl rfl) ?_)
  refine CJ rfl rfl ?_;exact wC
 ·rw[CC (show((3:Int))<=6 by decide)]
  repeat'(first|refine gP ?_|(conv=>whnf);first|refine CK (e) (.inl rfl) ?_)
  refine CJ rfl rfl ?_;exact wC
 ·rw[CC (show((4:Int))<=6 by decide)]
  repeat'(first|refine gP ?_|(conv=>whnf);first|refine CK (e) (.inl rfl) ?_)
  refine CJ rfl rfl ?_;exact wC
 ·rw[CC (show((5:Int))<=6 by decide)]
  repeat'(first|refine gP ?_|(conv=>whnf);first|refine CK (e) (.inl rfl) ?_)
  refine CJ rfl rfl ?_;exact wC
 ·rw[CC (show((6:Int))<=6 by decide)]
  repeat'(first|refine gP ?_|(conv=>whnf);first|refine CK (e) (.inl rfl) ?_)
  refine CJ rfl rfl ?_;exact wC
 ·rw[C9 (show ¬((7:Int)<=6) by decide),CC (show((7:Int))<=9 by decide)]
  repeat'(first|refine gP ?_|fail)
  refine CJ rfl rfl ?_;exact wC
 ·rw[C9 (show ¬((8:Int)<=6) by decide),CC (show((8:Int))<=9 by decide)]
  repeat'(first|refine gP ?_|fail)
  refine CJ rfl rfl ?_;exact wC
 ·rw[C9 (show ¬((9:Int)<=6) by decide),CC (show((9:Int))<=9 by decide)]
  repeat'(first|refine gP ?_|fail)
  refine CJ rfl rfl ?_;exact wC
 ·rw[C9 (show ¬((10:Int)<=6) by decide),C9 (show ¬((10:Int)<=9) by decide),CC (show((10:Int))<=12 by decide)]
  repeat'(first|refine gP ?_|(conv=>whnf);first|refine CK (g) (.inl rfl) ?_|refine CK (h) (.inl rfl) ?_)
  refine CJ rfl rfl ?_;exact wC
 ·rw[C9 (show ¬((11:Int)<=6) by decide),C9 (show ¬((11:Int)<=9) by decide),CC (show((11:Int))<=12 by decide)]
  repeat'(first|refine gP ?_|(conv=>whnf);first|refine CK (g) (.inl rfl) ?_|refine CK (h) (.inl rfl) ?_)
  refine CJ rfl rfl ?_;exact wC
 ·rw[C9 (show ¬((12:Int)<=6) by decide),C9 (show ¬((12:Int)<=9) by decide),CC (show((12:Int))<=12 by decide)]
  repeat'(first|refine gP ?_|(conv=>whnf);first|refine CK (g) (.inl rfl) ?_|refine CK (h) (.inl rfl) ?_)
  refine CJ rfl rfl ?_;exact wC
 ·rw[C9 (show ¬((13:Int)<=6) by decide),C9 (show ¬((13:Int)<=9) by decide),C9 (show ¬((13:Int)<=12) by decide),CC (show((13:Int))=13 by decide)]
  repeat'(first|refine gP ?_|(conv=>whnf);first|refine CK (G) (.inl rfl) ?_)
  refine CJ rfl rfl ?_;exact wC
 ·rw[C9 (show ¬((14:Int)<=6) by decide),C9 (show ¬((14:Int)<=9) by decide),C9 (show ¬((14:Int)<=12) by decide),C9 (show ¬((14:Int)=13) by decide),CC (show((14:Int))=14 by decide)]
  repeat'(first|refine gP ?_|(conv=>whnf);first|refine CK (E) (.inl rfl) ?_)
  refine CJ rfl rfl ?_;exact wC
 ·rw[C9 (show ¬((15:Int)<=6) by decide),C9 (show ¬((15:Int)<=9) by decide),C9 (show ¬((15:Int)<=12) by decide),C9 (show ¬((15:Int)=13) by decide),C9 (show ¬((15:Int)=14) by decide),CC (show((15:Int))=15 by decide)]
  repeat'(first|refine gP ?_|fail)
  refine CJ rfl rfl ?_;exact wC
 ·rw[C9 (show ¬((16:Int)<=6) by decide),C9 (show ¬((16:Int)<=9) by decide),C9 (show ¬((16:Int)<=12) by decide),C9 (show ¬((16:Int)=13) by decide),C9 (show ¬((16:Int)=14) by decide),C9 (show ¬((16:Int)=15) by decide),CC (show((16:Int))=16 by decide)]
  repeat'(first|refine gP ?_|(conv=>whnf);first|refine CK (F) (.inl rfl) ?_)
  refine CJ rfl rfl ?_;exact wC
 ·rw[C9 (show ¬((17:Int)<=6) by decide),C9 (show ¬((17:Int)<=9) by decide),C9 (show ¬((17:Int)<=12) by decide),C9 (show ¬((17:Int)=13) by decide),C9 (show ¬((17:Int)=14) by decide),C9 (show ¬((17:Int)=15) by decide),C9 (show ¬((17:Int)=16) by decide),CC (show((17:Int))=17 by decide)]
  repeat'(first|refine gP ?_|fail)
  refine CJ rfl rfl ?_;exact wC
 ·rw[C9 (show ¬((18:Int)<=6) by decide),C9 (show ¬((18:Int)<=9) by decide),C9 (show ¬((18:Int)<=12) by decide),C9 (show ¬((18:Int)=13) by decide),C9 (show ¬((18:Int)=14) by decide),C9 (show ¬((18:Int)=15) by decide),C9 (show ¬((18:Int)=16) by decide),C9 (show ¬((18:Int)=17) by decide)]
  repeat'(first|refine gP ?_|(conv=>whnf);first|refine CK (l) (.inl rfl) ?_)
  refine CJ rfl rfl ?_;exact wC
 rw[C9 (show ¬((19:Int)<=6) by decide),C9 (show ¬((19:Int)<=9) by decide),C9 (show ¬((19:Int)<=12) by decide),C9 (show ¬((19:Int)=13) by decide),C9 (show ¬((19:Int)=14) by decide),C9 (show ¬((19:Int)=15) by decide),C9 (show ¬((19:Int)=16) by decide),C9 (show ¬((19:Int)=17) by decide)]
 repeat'(first|refine gP ?_|(conv=>whnf);first|refine CK (l) (.inl rfl) ?_)
 refine CJ rfl rfl ?_;exact wC
def BM(zs:List Int)(c:iC)(b:j7 zs)(d:c.i<=zs.length):zzB 114 false [.ptr (io zs c),.val none [I 40]] [.ptr (io zs (kn zs c).2),.val none [I 40]] .one (pd .own (kn zs c).1):=by
 have e:=bP zs c 41 b d (by decide);have g:=bG zs c (n:=41) (by decide);obtain⟨n,h⟩:=z3 g.1;have a:(bt zs c 41).1.toNat=n:=by rw[h];rfl
 unfold kn;rw[a];rw[h]at e g;refine fM 27 [(61,[2,0]),(259,[2,0])] [] [(0,0),(0,0)] Tryz.func114 rfl (λu q=>?_) (.inr (Lx _))
 repeat'(first|refine gP ?_|(conv=>whnf);first|refine CK (e) (.inl rfl) ?_)
 (conv=>whnf)
 refine CG (ι:=Nat) (λi=>[(0,.H .box (io zs (lD zs c i).2)),(5,.H .one (pd .own (lD zs c i).1)),(6,.H .one [I ((n:Nat):Int)]),(7,.H .one [I ((i:Nat):Int)])]) (λi=>i<=n) (λi=>n - i) (0) ?_ (W0 _) λi p=>?_
 ·exact wC
 obtain⟨t,-,j⟩:=pw (zs:=zs) (c:=c) d (n:=i) ω;by_cases w:i<n
 ·have k:=FN zs (lD zs c i).2 (1+(i:Int) / 2) b j ω
  have l:((i:Nat):Int).tdiv 2=(i:Int) / 2:=Int.tdiv_eq_ediv_of_nonneg ω
  repeat'(first|refine gE ?_|(conv=>whnf);first|with_reducible (first|refine CR l ?_|refine CO ω ?_)|refine CK (k) (.inl rfl) ?_|refine CU (aL λ_=>rfl) (λr o=>by rw[O1.1 o];rfl) (by simp[bm,eH,eA.enc]) (by simp;omega) (by simp only[C1];exact yV (by simp;omega) (by decide)) rfl ?_)
  ((conv=>whnf);refine CE (i+1) ω ω ?_)
  repeat'(first|exact trivial|rfl| exact dL _ |exact CL rfl (CL (X0 (C.s dJ.own) (by simp[lD];rfl)) trivial)|refine CL ?_ ?_|(exact A7 (by first|omega|(simp only;omega)|(simp;omega))))
 obtain rfl:i=n:=ω
 repeat'(first|refine gE ?_|fail)
 refine CJ rfl rfl ?_;exact wC
def rfs(h:ab):List Int:=h.G.a0
def BG(k:ah)(p:Int):(newK k p).1.a0=k.a0:=by unfold newK;split<;>rfl
def rS(k:ah)(p:Int):∀n,(newsK k p n).1.a0=k.a0
 | 0=>rfl
 | n+1=>by
  unfold newsK;split
  ·exact(BG _ _).trans (rS k p n)
  exact rS k p n
def N7(h:ab)(i:Nat):rfs (lR h i).1=rfs h:=by unfold lR;split<;>rfl
def Be(h:ab)(t c:Nat):rfs (smallA h t c).1=rfs h:=by
 unfold smallA;split
 ·rfl
 split
 ·rfl
 split
 ·rfl
 split
 ·exact BG _ _
 exact(N7 _ _).trans (BG _ _)
def Ly(h:ab)(t n:Int):rfs (allocH h t n).1=rfs h:=by
 unfold allocH;split
 ·rfl
 split
 ·rfl
 split
 ·rfl
 split
 ·rfl
 split
 ·split
  ·exact Be _ _ _
  exact Be _ _ _
 unfold largeA;split
 ·rfl
 split
 ·exact rS _ _ _
 exact((jr _ _ _).2).trans (rS _ _ _)
def FX(h:ab)(t i:Nat):rfs (freeT h t i).1=rfs h:=by
 unfold freeT;split
 ·exact(jr _ _ _).2
 split
 ·rfl
 split
 ·exact(dE t _ _).2.2.2.2.2.2.2
 split<;>rfl
def Bg(t:Nat)(h:ab):∀k,rfs (flushN t h k).1=rfs h
 | 0=>rfl
 | k+1=>((fK _ (spilt (flushN t h k).1 t k)).2.2.2.2.2.2.2).trans (Bg t h k)
def GZ{h:ab}(a:aT h [])(b:JI h):∀n,rfs (stN h n).1=rfs h
 | 0=>rfl
 | n+1=>by
  obtain⟨c,d⟩:=rd a b n;unfold stN;split
  ·rename_i e
   unfold ro at e;rw[I0]at e;exact((wN c e.1).2.2.1).trans (GZ a b n)
  exact GZ a b n
def Mf{w:bo}{m:Nat}(h:qY w m)(a:eA):rfs (kG w a).1.X=rfs w.X:=by
 unfold kG;split
 ·exact Ly _ _ _
 split
 ·split
  ·rfl
  unfold kZ;split
  ·unfold nq
   split
   ·rfl
   split
   ·exact FX _ _ _
   rfl
  split
  ·unfold lw
   split
   ·rfl
   split
   ·rfl
   split<;>rfl
  unfold nJ;split
  ·exact((jr _ _ _).2).trans (my _ _ _).2.2
  rfl
 split
 ·unfold fk
  split
  ·split<;>rfl
  split
  ·rfl
  split
  ·exact(dE _ _ _).2.2.2.2.2.2.2
  exact Bg _ _ _
 split
 ·unfold ma
  split
  ·exact(fK _ _).2.2.2.2.2.2.2
  rfl
 split
 ·unfold lU
  split
  ·rfl
  show rfs (started w.X).1=_;unfold rfs;rw[(p7 h.inv).2.1]
 split
 ·exact GZ h.inv h.ji _
 rfl
def Hc{c:cH}(h:DA c)(acts:List eA):∀n,rfs (wd c acts n).1.X=c.a0
 | 0=>rfl
 | n+1=>(Mf (qZ h acts n) _).trans (Hc h acts n)
def rv(w:bo):List C:=bA w.X++a8.enc .V w.b7
def Qw(w:bo):ef (rv w)=bo.enc .V w:=by
 unfold rv;rw[fx,bJ,<-Ci,pI,Ci]
 rfl
def F7(w:bo)(id:Int)(g:w.X.M.length<=1048576):zzB 274 false [.ptr (rv w),.val none [I id]] [.ptr (rv w),.val none [I id]] .one [I (qA w.X id)]:=by
 refine fM 28 [] [] [(0,0),(0,0)] Tryz.func274 rfl (λu q=>?_)
 repeat'(first|refine gP ?_|(conv=>whnf);first|refine CB ?_)
 (conv=>whnf)
 refine CG (ι:=Nat) (λi=>[(0,.H .box (rv w)),(1,.H .one [I (id)]),(5,.H .one [I ((i:Nat):Int)])]) (λi=>i<=w.X.M.length/\∀(j:Nat)(z:aY),j<i->w.X.M[j]? = some z->MV id z=false) (λi=>w.X.M.length - i) (0) ?_ (⟨W0 _,λj z h=>ω⟩) λi c=>?_
 ·exact wC
 obtain⟨c,b⟩:=c;by_cases d:i<w.X.M.length
 ·have a:=ao d
  by_cases e:(nth w.X.M i).Id=id
  ·repeat'(first|refine gB ?_|(conv=>whnf);first|with_reducible refine CD (aa a) ?_|refine CB ?_|refine CH rfl (aa a) rfl ?_)
   refine CJ rfl (X0 (λz=>[I z]) (dP a (O0 e) b).symm) ?_;exact wC
  repeat'(first|refine gB ?_|(conv=>whnf);first|with_reducible refine CD (aa a) ?_|refine CB ?_|refine CH rfl (aa a) rfl ?_)
  ((conv=>whnf);refine CE (i+1) ⟨ω,gw a (U0 e) b⟩ ω ?_;(exact wC))
 repeat'(first|refine gE ?_|(conv=>whnf);first|refine CB ?_)
 refine CJ rfl (X0 (λz=>[I z]) (g9 ω b).symm) ?_;exact wC
def di(y:ab):(bA y).length=24:=rfl
def zh(w:bo)(m n:Nat)(h:qY w m)(B:n<=50):zzB 280 false [.ptr (rv w),.val none [I (n:Nat)]] [.ptr (rv ⟨(stN w.X n).1,w.b7⟩),.val none [I (n:Nat)]] .one [I ((stN w.X n).2:Nat)]:=by
 refine fM 35 [(431,[2])] [] [(0,0),(0,0)] Tryz.func280 rfl (λu q=>?_)
 repeat'(first|refine gP ?_|(conv=>whnf);first|refine CB ?_)
 (conv=>whnf)
 refine CG (ι:=Nat) (λi=>[(0,.H .box (rv ⟨(stN w.X i).1,w.b7⟩)),(1,.H .one [I ((n:Nat):Int)]),(5,.H .one [I (((stN w.X i).2:Nat):Int)]),(6,.H .one [I ((i:Nat):Int)])]) (λi=>i<=n/\(stN w.X i).2=i) (λi=>n - i) (0) ?_ (⟨W0 _,rfl⟩) λi l=>?_
 ·exact wC
 obtain⟨l,C⟩:=l;obtain⟨o,D⟩:=rd h.inv h.ji i;have b:stN w.X (i+1)=if ro (stN w.X i).1=true then(mStep (stN w.X i).1,(stN w.X i).2+1) else stN w.X i:=rfl
 have p:=(aD.1 o.ker).2.2.2.2;by_cases E:i<n
 ·cases c:(stN w.X i).1.u with
  | true=>
   have y:=(B7 _ o c).frame (r:=a8.enc .V w.b7) ((di _).trans (di _).symm);by_cases g:(stN w.X i).1.G.Calls<=99000
   ·have d:ro (stN w.X i).1=true:=by unfold ro;rw[c,O0 g];rfl
    rw[CC d]at b;generalize stN w.X i=s at *
    repeat'(first|refine gE ?_|(conv=>whnf);first|refine CB ?_|refine Bf.t (O0 g) ?_|refine Bf.t c ?_|refine CK (y) (.inl rfl) ?_)
    ((conv=>whnf);refine CE (i+1) ⟨ω,by rw[b];simp only;omega⟩ ω ?_)
    rw[b];exact wC
   have d:ro (stN w.X i).1=false:=by unfold ro;rw[c,U0 g];rfl
   have a:∀k,stN w.X (i+k)=stN w.X i:=λk=>by
    induction k with
    | zero=>rfl
    | succ k j=>show(if ro (stN w.X (i+k)).1=true then _ else stN w.X (i+k))=_;rw[j,d,C9 (by simp)]
   have e:=a (n - i);rw[show i+(n - i)=n by omega]at e;rw[e];generalize stN w.X i=s at *
   repeat'(first|refine gE ?_|(conv=>whnf);first|refine CB ?_|refine Bf.f (U0 g) ?_|refine Bf.t c ?_)
   refine CJ rfl rfl ?_;exact wC
  | false=>
   have d:ro (stN w.X i).1=false:=by unfold ro;rw[c];rfl
   have a:∀k,stN w.X (i+k)=stN w.X i:=λk=>by
    induction k with
    | zero=>rfl
    | succ k j=>show(if ro (stN w.X (i+k)).1=true then _ else stN w.X (i+k))=_;rw[j,d,C9 (by simp)]
   have e:=a (n - i);rw[show i+(n - i)=n by omega]at e;rw[e];generalize stN w.X i=s at *
   repeat'(first|refine gE ?_|(conv=>whnf);first|refine CB ?_|refine Bf.f c ?_)
   refine CJ rfl rfl ?_;exact wC
 obtain rfl:i=n:=ω
 repeat'(first|refine gE ?_|(conv=>whnf);first|refine CB ?_)
 refine CJ rfl rfl ?_;exact wC
def G6(a:aA k=true):(aA k&&decide (k.Calls<100000))=decide (k.Calls≠100000):=by
 have:=(aD.1 a).2.2.2.2;rw[a,Bool.true_and,Y4,C0,C0];omega
def wX(w:bo)(a:eA)(m:Nat)(h:qY w m)(B:a.b5=5\/a.b5=6\/a.b5=7):zzB 276 false [.ptr (rv w),.val (some 5) (eA.enc .V a)] [.ptr (rv ⟨(fk w.X a).1,w.b7⟩),.val (some 5) (eA.enc .V a)] .one [I (fk w.X a).2]:=by
 have d:=h.inv;have o:=d.nc;have p:w.X.S.length<=4:=by have:=(df.1 d.mail).1.2.1;omega
 have C:=kB.of d.mail;have i:=lP w.X.G (bj d.ker);rw[G6 d.ker]at i;have j:=aH a.a3 0 (w.X.S.length - 1:Int);unfold fk;refine fM 59 [(423,[2,0]),(424,[2,0])] [(3,267,[15,16,17,18,19,20,21,14,22,23,6,0,1,2,3,4,5,6,7,8,9,10,11,1009,12]),(8,15,[30,31,32,33,34,35,36,37,38,39,40,41,42,43,44])] [(0,0),(0,0)] Tryz.func276 rfl (λu q=>?_);by_cases l:a.b5=5
 ·rw[CC l]
  by_cases e:0<=a.a3/\a.a3<=w.X.S.length - 1
  ·have y:ns w.X a:=e
   obtain⟨t,g⟩:=z3 e.1;have b:=Fe w.X.w t d.mail ω;rw[<-g]at b;rw[g]at e |-;simp only[Z2];rw[g]at b;by_cases c:0<(nth w.X.w.T t).length
   ·rw[CC (show ns w.X a/\0<(nth w.X.w.T t).length from⟨y,c⟩)]
    rw[CC c,O0 c]at b;rw[<-g]at b
    repeat'(first|refine gB ?_|(conv=>whnf);first|with_reducible refine Bf.E (λk=>?_) (λk=>?_)|refine CB ?_|refine CF (b) ⟨⟨rfl,aJ.enc_fz w.X.w⟩,⟨rfl,rfl⟩,trivial⟩ ?_|refine CB ?_)
    refine CJ rfl rfl ?_;exact wC
   rw[C9 (show ¬(ns w.X a/\0<(nth w.X.w.T t).length) from λx=>c x.2)];rw[C9 c,U0 c]at b;rw[<-g]at b
   repeat'(first|refine gB ?_|(conv=>whnf);first|with_reducible refine Bf.E (λk=>?_) (λk=>?_)|refine CB ?_|refine CF (b) ⟨⟨rfl,aJ.enc_fz w.X.w⟩,⟨rfl,rfl⟩,trivial⟩ ?_|refine CB ?_)
   refine CJ rfl rfl ?_;exact wC
  rw[C9 (show ¬(ns w.X a/\0<(nth w.X.w.T a.a3.toNat).length) from λx=>e x.1)];have b:=GU w.X.w a.a3 d.mail ω
  repeat'(first|refine gB ?_|(conv=>whnf);first|with_reducible refine Bf.E (λk=>?_) (λk=>?_)|refine CB ?_|refine CF (b) ⟨⟨rfl,aJ.enc_fz w.X.w⟩,⟨rfl,rfl⟩,trivial⟩ ?_|refine CB ?_)
  refine CJ rfl rfl ?_;exact wC
 rw[C9 l];by_cases e:w.X.G.Calls≠100000;rotate_left
 ·rw[CC (show ¬(w.X.G.Calls≠100000/\ns w.X a) from λx=>e x.1)]
  rw[U0 e]at i
  repeat'(first|refine gB ?_|(conv=>whnf);first|refine CB ?_|refine CF (i) ⟨⟨rfl,CS _⟩,trivial⟩ ?_|refine CB ?_)
  refine CJ rfl rfl ?_;exact wC
 rw[O0 e]at i;by_cases c:0<=a.a3/\a.a3<=w.X.S.length - 1;rotate_left
 ·rw[CC (show ¬(w.X.G.Calls≠100000/\ns w.X a) from λx=>c x.2)]
  rw[U0 c]at j
  repeat'(first|refine gB ?_|(conv=>whnf);first|refine CB ?_|refine CF (i) ⟨⟨rfl,CS _⟩,trivial⟩ ?_|refine C8 (j) ?_|refine CB ?_)
  refine CJ rfl rfl ?_;exact wC
 rw[C9 (show ¬¬(w.X.G.Calls≠100000/\ns w.X a) from z4 ⟨e,c⟩)];rw[O0 c]at j;obtain⟨t,g⟩:=z3 c.1;by_cases n:a.b5=6
 ·rw[CC n]
  have b:=(vF w.X t d ω).frame (r:=a8.enc .V w.b7) ((di _).trans (di _).symm);rw[show a.a3.toNat=t by omega];rw[<-g]at b
  repeat'(first|refine gB ?_|(conv=>whnf);first|refine CB ?_|refine CF (i) ⟨⟨rfl,CS _⟩,trivial⟩ ?_|refine C8 (j) ?_|refine CK (b) (.inl rfl) ?_|refine CB ?_)
  refine CJ rfl rfl ?_;exact wC
 rw[C9 n];have b:=(zI w.X t d ω).frame (r:=a8.enc .V w.b7) ((di _).trans (di _).symm);rw[show a.a3.toNat=t by omega];rw[<-g]at b
 repeat'(first|refine gB ?_|(conv=>whnf);first|refine CB ?_|refine CF (i) ⟨⟨rfl,CS _⟩,trivial⟩ ?_|refine C8 (j) ?_|refine CK (b) (.inl rfl) ?_|refine CB ?_)
 refine CJ rfl rfl ?_;exact wC
def y1(w:bo)(a:eA)(i m:Nat)(h:qY w m)(X:m<=900)(G:LF a)(t:i<w.X.M.length):zzB 275 false [.ptr (rv w),.val (some 5) (eA.enc .V a),.val none [I (i:Nat)]] [.ptr (rv (kZ w a i).1),.val (some 5) (eA.enc .V a),.val none [I (i:Nat)]] .one [I (kZ w a i).2]:=by
 have e:=h.inv;have b:=ao t;have M:=mG e (am t);have N:=cT e (am t) (k:=0);have O:1<=(nth w.X.M i).o/\(nth w.X.M i).o<=1000:=by
  rcases e.oow _ (am t) with⟨s,P,Y,Z⟩|⟨l,H,d,c⟩
  ·have hc:=aE (e.L.sok s P)
   have:=iq (n:=(nth w.X.M i).o) ω;omega
  have h8:=cX (e.L.lok l H);omega
 have g:=lP w.X.G (bj e.ker);rw[G6 e.ker]at g;have Q:=G.k;have R:=G.p;have S:=G.v;unfold kZ;refine fM 126 [(416,[2,0,0]),(418,[2,0,0]),(420,[2,0,0])] [(6,7,[29,30,31,32,33,34,35]),(8,269,[40,41,42,43,44,45,46,47,39,48,49,50,51,0,1,2,3,4,5,6,7,8,9,10,11,12,13,1010]),(13,10,[62,63,64,65,66,67,68,69,70,71]),(15,273,[76,77,78,79,80,81,82,83,84,85,86,87,75,88,89,90,91,0,1,2,3,4,5,6,7,8,9,10,11,12,13,14,15,16,17,1014]),(17,15,[93,94,95,96,97,98,99,100,101,102,103,104,105,106,107]),(19,271,[112,113,114,115,116,117,118,119,120,121,111,122,123,124,125,0,1,2,3,4,5,6,7,8,9,10,11,12,13,14,15,1012])] [(0,0),(0,0),(0,0)] Tryz.func275 rfl (λu q=>?_);by_cases J:a.b5=2
 ·rw[CC J]
  unfold nq;by_cases d:w.X.G.Calls=100000
  ·rw[CC d]
   rw[U0 (z4 d)]at g
   repeat'(first|refine gB ?_|(conv=>whnf);first|with_reducible refine CD (aa b) ?_|refine CB ?_|refine CF (g) ⟨⟨rfl,CS _⟩,trivial⟩ ?_|refine CH rfl (aa b) rfl ?_|refine CB ?_)
   refine CJ rfl rfl ?_;exact wC
  rw[C9 d];rw[O0 d]at g;have C:=(Q2 w.X i a.a3 e t).frame (r:=a8.enc .V w.b7) ((di _).trans (di _).symm);by_cases c:0<=a.a3/\a.a3<=w.X.S.length - 1
  ·rw[CC (show ns w.X a from c)]
   rw[CC c,CC c]at C;have T:=Da w.b7 (nth w.X.M i).Id m h.ref ω;generalize freeT w.X a.a3.toNat i=f at C |-;by_cases o:f.2=0
   ·rw[CC o]
    repeat'(first|refine gB ?_|(conv=>whnf);first|with_reducible (first|refine CD (aa b) ?_|refine Bf.E (λj=>?_) (λj=>?_))|refine CB ?_|refine CF (g) ⟨⟨rfl,CS _⟩,trivial⟩ ?_|refine CH rfl (aa b) rfl ?_|refine CK (C) (.inl rfl) ?_|refine Cl.sh T rfl ?_|refine CB ?_)
    refine CJ rfl rfl ?_;exact wC
   rw[C9 o]
   repeat'(first|refine gB ?_|(conv=>whnf);first|with_reducible (first|refine CD (aa b) ?_|refine Bf.E (λj=>?_) (λj=>?_))|refine CB ?_|refine CF (g) ⟨⟨rfl,CS _⟩,trivial⟩ ?_|refine CH rfl (aa b) rfl ?_|refine CK (C) (.inl rfl) ?_|refine CB ?_)
   refine CJ rfl rfl ?_;exact wC
  rw[C9 (show ¬ns w.X a from c)];rw[C9 c,C9 c]at C
  repeat'(first|refine gB ?_|(conv=>whnf);first|with_reducible (first|refine CD (aa b) ?_|refine Bf.E (λj=>?_) (λj=>?_))|refine CB ?_|refine CF (g) ⟨⟨rfl,CS _⟩,trivial⟩ ?_|refine CH rfl (aa b) rfl ?_|refine CK (C) (.inl rfl) ?_|refine CB ?_)
  refine CJ rfl rfl ?_;exact wC
 rw[C9 J];by_cases K:a.b5=3
 ·rw[CC K]
  unfold lw;have D:=aH a.At 0 ((nth w.X.M i).o - 1);by_cases d:0<=a.At/\a.At<=(nth w.X.M i).o - 1;rotate_left
  ·rw[CC d]
   rw[U0 d]at D
   repeat'(first|refine gB ?_|(conv=>whnf);first|with_reducible (first|refine CD (aa b) ?_|refine Bf.E (λj=>?_) (λj=>?_))|refine CB ?_|refine CH rfl (aa b) rfl ?_|refine C8 (D) ?_|refine CB ?_)
   refine CJ rfl rfl ?_;exact wC
  rw[C9 (z4 d)];rw[O0 d]at D;have F:=(zq w.X i a.At a.Value e t d).frame (r:=a8.enc .V w.b7) (by split<;>rfl);have U:=cT e (am t) d;by_cases c:(ac w.X.G.F.R (((nth w.X.M i).Addr+a.At) / 16)).j=1
  ·rw[CC c]
   rw[CC (.inl c),CC c]at F
   repeat'(first|refine gB ?_|(conv=>whnf);first|with_reducible (first|refine CD (aa b) ?_|refine Bf.E (λj=>?_) (λj=>?_))|refine CB ?_|refine CH rfl (aa b) rfl ?_|refine C8 (D) ?_|refine CK (F) (.inl rfl) ?_|refine CB ?_)
   refine CJ rfl rfl ?_;exact wC
  rw[C9 c];by_cases o:0<=a.Value/\a.Value<=999;rotate_left
  ·rw[CC o]
   rw[CC (.inr o),C9 c,CC o]at F
   repeat'(first|refine gB ?_|(conv=>whnf);first|with_reducible (first|refine CD (aa b) ?_|refine Bf.E (λj=>?_) (λj=>?_))|refine CB ?_|refine CH rfl (aa b) rfl ?_|refine C8 (D) ?_|refine CK (F) (.inl rfl) ?_|refine CB ?_)
   refine CJ rfl rfl ?_;exact wC
  rw[C9 (z4 o)];rw[C9 (λx=>x.elim c λy=>y o),C9 c,C9 (z4 o)]at F;obtain⟨b5,V⟩:=Dp w.b7 (nth w.X.M i).Id a.At a.Value m h.ref ω o
  repeat'(first|refine gB ?_|(conv=>whnf);first|with_reducible (first|refine CD (aa b) ?_|refine Bf.E (λj=>?_) (λj=>?_))|refine CB ?_|refine CH rfl (aa b) rfl ?_|refine C8 (D) ?_|refine CK (F) (.inl rfl) ?_|refine C8 (V) ?_|refine CB ?_)
  refine CJ rfl rfl ?_;exact wC
 rw[C9 K];unfold nJ;by_cases d:w.X.G.Calls=100000
 ·rw[C9 (λx=>x.1 d)]
  rw[U0 (z4 d)]at g
  repeat'(first|refine gB ?_|(conv=>whnf);first|with_reducible refine CD (aa b) ?_|refine CB ?_|refine CF (g) ⟨⟨rfl,CS _⟩,trivial⟩ ?_|refine CH rfl (aa b) rfl ?_|refine CB ?_)
  refine CJ rfl rfl ?_;exact wC
 rw[O0 d]at g;by_cases c:mj w.X i a.Value
 ·rw[CC ⟨d,c⟩]
  have B:=(sX w.X i a.Value e t c.1).frame (r:=a8.enc .V w.b7) (by split<;>rfl);rw[CC c,O0 c]at B;obtain⟨b7,W⟩:=Ei w.b7 (nth w.X.M i).Id a.Value m h.ref ω
  repeat'(first|refine gB ?_|(conv=>whnf);first|with_reducible refine CD (aa b) ?_|refine CB ?_|refine CF (g) ⟨⟨rfl,CS _⟩,trivial⟩ ?_|refine CH rfl (aa b) rfl ?_|refine CK (B) (.inl rfl) ?_|refine C8 (W) ?_|refine CB ?_)
  refine CJ rfl rfl ?_;exact wC
 rw[C9 (λx=>c x.2)];by_cases o:zi w.X (nth w.X.M i).Addr<0
 ·have B:=(HF w.X (nth w.X.M i).Addr a.Value (by have:=e.lens.larges;omega) e.L.lok o).frame (r:=a8.enc .V w.b7) ((di _).trans (di _).symm)
  repeat'(first|refine gB ?_|(conv=>whnf);first|with_reducible refine CD (aa b) ?_|refine CB ?_|refine CF (g) ⟨⟨rfl,CS _⟩,trivial⟩ ?_|refine CH rfl (aa b) rfl ?_|refine CK (B) (.inl rfl) ?_|refine CB ?_)
  refine CJ rfl rfl ?_;exact wC
 have B:=(sX w.X i a.Value e t ω).frame (r:=a8.enc .V w.b7) (by split<;>rfl);rw[C9 c,U0 c]at B
 repeat'(first|refine gB ?_|(conv=>whnf);first|with_reducible refine CD (aa b) ?_|refine CB ?_|refine CF (g) ⟨⟨rfl,CS _⟩,trivial⟩ ?_|refine CH rfl (aa b) rfl ?_|refine CK (B) (.inl rfl) ?_|refine CB ?_)
 refine CJ rfl rfl ?_;exact wC
def qY.fit{w:bo}{m:Nat}(h:qY w m)(a:jw w.X.G.a0):ab.sml w.X/\ab.wf w.X:=
 ⟨(h.inv.fit a (kB.of h.inv.mail).sml).sml,h.inv.wf a⟩
def GE(w:bo)(a:eA)(m:Nat)(h:qY w m)(K:m<=900)(L:jw w.X.G.a0)(p:LF a):zzB 121 false [.ptr (rv w),.val (some 5) (eA.enc .V a)] [.ptr (rv (kG w a).1),.val (some 5) (eA.enc .V a)] .one [I (kG w a).2]:=by
 have i:=h.inv;have M:=p.k;have O:=p.n;have j:=i.nums;unfold cr at j;rw[C0]at j;unfold kG;refine fM 123 [(74,[2,0,0]),(274,[2,0]),(275,[2,0,0]),(276,[2,0]),(278,[2,0]),(279,[2]),(280,[2,0])] [(3,265,[13,14,15,16,17,18,19,21,22,0,1,2,3,4,5,6,7,8,9,10,11,1010,12]),(5,269,[26,27,28,29,30,31,32,33,25,34,35,36,37,0,1,2,3,4,5,6,7,8,9,10,11,12,13,1010]),(19,21,[62,63,64,65,66,67,68,69,70,71,72,73,74,75,76,77,78,79,80,81,82]),(21,5,[86,87,88,89,90])] [(0,0),(0,0)] Tryz.func121 rfl (λu q=>?_);by_cases F:a.b5=1
 ·rw[CC F]
  have c:=(zm w.X a.a3 a.N i).frame (r:=a8.enc .V w.b7) ((di _).trans (di _).symm);by_cases e:(allocH w.X a.a3 a.N).2.2=0
  ·rw[CC e]
   have y:1<=a.N/\a.N<=1000:=by
    refine Classical.byContradiction λB=>?_
    unfold allocH at e;rw[CC B]at e;split at e
    ·exact absurd (show(5:Int)=0 from e) (by decide)
    split at e
    ·exact absurd (show(1:Int)=0 from e) (by decide)
    exact absurd (show(2:Int)=0 from e) (by decide)
   have o:=zA w.b7 a.N m h.ref ω y;generalize allocH w.X a.a3 a.N=f at c e |-
   repeat'(first|refine gB ?_|(conv=>whnf);first|with_reducible refine Bf.E (λb=>?_) (λb=>?_)|refine CB ?_|refine CK (c) (.inl rfl) ?_|refine C8 (o) ?_|refine CB ?_)
   refine CJ rfl rfl ?_;exact wC
  rw[C9 e];generalize allocH w.X a.a3 a.N=f at c e |-
  repeat'(first|refine gB ?_|(conv=>whnf);first|with_reducible refine Bf.E (λb=>?_) (λb=>?_)|refine CB ?_|refine CK (c) (.inl rfl) ?_|refine CB ?_)
  refine CJ rfl rfl ?_;exact wC
 rw[C9 F];by_cases G:a.b5=2\/a.b5=3\/a.b5=4
 ·rw[CC G]
  have c:=F7 w a.N (by have:=i.lens.objs;omega);by_cases e:qA w.X a.N<0
  ·rw[CC e]
   repeat'(first|refine gB ?_|(conv=>whnf);first|with_reducible refine Bf.E (λb=>?_) (λb=>?_)|refine CB ?_|refine CK (c) (.inl rfl) ?_)
   all_goals first|omega|skip
   all_goals
    refine CJ rfl rfl ?_;exact wC
  rw[C9 e];obtain⟨P,S,T⟩:=fD (MV a.N) w.X.M (by unfold qA at e;omega);have o:=y1 w a (qA w.X a.N).toNat m h K p P;rw[show(((qA w.X a.N).toNat:Nat):Int)=qA w.X a.N by omega]at o
  repeat'(first|refine gB ?_|(conv=>whnf);first|with_reducible refine Bf.E (λb=>?_) (λb=>?_)|refine CB ?_|refine CK (c) (.inl rfl) ?_|refine CK (o) (.inl rfl) ?_)
  all_goals first|omega|skip
  all_goals
   refine CJ rfl rfl ?_;exact wC
 rw[C9 G];by_cases C:a.b5=5\/a.b5=6\/a.b5=7
 ·rw[CC C]
  have c:=wX w a m h C
  repeat'(first|refine gB ?_|(conv=>whnf);first|with_reducible refine Bf.E (λb=>?_) (λb=>?_)|refine CB ?_|refine CK (c) (.inl rfl) ?_)
  all_goals first|omega|skip
  all_goals
   refine CJ rfl rfl ?_;exact wC
 rw[C9 C];by_cases H:a.b5=8
 ·rw[CC H]
  unfold ma;have d:=lP w.X.G (bj i.ker);rw[G6 i.ker]at d;have c:=aH a.N 0 1000;by_cases g:w.X.G.Calls≠100000;rotate_left
  ·rw[C9 (λx=>g x.1)]
   rw[U0 g]at d
   repeat'(first|refine gB ?_|(conv=>whnf);first|with_reducible refine Bf.E (λb=>?_) (λb=>?_)|refine CB ?_|refine CF (d) ⟨⟨rfl,CS _⟩,trivial⟩ ?_|refine CB ?_)
   refine CJ rfl rfl ?_;exact wC
  rw[O0 g]at d;by_cases l:0<=a.N/\a.N<=1000;rotate_left
  ·rw[C9 (λx=>l x.2.1)]
   rw[U0 l]at c
   repeat'(first|refine gB ?_|(conv=>whnf);first|with_reducible refine Bf.E (λb=>?_) (λb=>?_)|refine CB ?_|refine CF (d) ⟨⟨rfl,CS _⟩,trivial⟩ ?_|refine C8 (c) ?_|refine CB ?_)
   refine CJ rfl rfl ?_;exact wC
  rw[O0 l]at c;by_cases D:w.X.b3+a.N<=1000000
  ·rw[CC ⟨g,l,D⟩]
   have o:=(BT w.X a.N i l D).frame (r:=a8.enc .V w.b7) ((di _).trans (di _).symm)
   repeat'(first|refine gB ?_|(conv=>whnf);first|with_reducible refine Bf.E (λb=>?_) (λb=>?_)|refine CB ?_|refine CF (d) ⟨⟨rfl,CS _⟩,trivial⟩ ?_|refine C8 (c) ?_|refine CK (o) (.inl rfl) ?_|refine CB ?_)
   refine CJ rfl rfl ?_;exact wC
  rw[C9 (λx=>D x.2.2)]
  repeat'(first|refine gB ?_|(conv=>whnf);first|with_reducible refine Bf.E (λb=>?_) (λb=>?_)|refine CB ?_|refine CF (d) ⟨⟨rfl,CS _⟩,trivial⟩ ?_|refine C8 (c) ?_|refine CB ?_)
  refine CJ rfl rfl ?_;exact wC
 rw[C9 H];by_cases J:a.b5=9
 ·rw[CC J]
  unfold lU;obtain⟨Q,R⟩:=h.fit L;have d:=vg w.X Q R;rw[show dM w.X=true from i.to]at d;cases g:w.X.u with
  | true=>
   rw[CC rfl]
   repeat'(first|refine gB ?_|(conv=>whnf);first|with_reducible refine Bf.E (λb=>?_) (λb=>?_)|refine CB ?_|refine Bf.t g ?_|refine CB ?_)
   refine CJ rfl rfl ?_;exact wC
  | false=>
   rw[C9 (by simp)];have c:=(yO w.X i).frame (r:=a8.enc .V w.b7) ((di _).trans (di _).symm);cases l:(started w.X).2<;>rw[l]at c
   ·rw[C9 (by simp)]
    repeat'(first|refine gB ?_|(conv=>whnf);first|with_reducible refine Bf.E (λb=>?_) (λb=>?_)|refine CB ?_|refine Bf.f g ?_|refine CF (d) ⟨⟨rfl,bJ w.X⟩,trivial⟩ ?_|refine CK (c) (.inl rfl) ?_|refine CB ?_)
    refine CJ rfl rfl ?_;exact wC
   rw[CC rfl]
   repeat'(first|refine gB ?_|(conv=>whnf);first|with_reducible refine Bf.E (λb=>?_) (λb=>?_)|refine CB ?_|refine Bf.f g ?_|refine CF (d) ⟨⟨rfl,bJ w.X⟩,trivial⟩ ?_|refine CK (c) (.inl rfl) ?_|refine CB ?_)
   refine CJ rfl rfl ?_;exact wC
 rw[C9 J];have k10:a.b5=10:=ω
 have d:=aH a.N 0 50;by_cases g:0<=a.N/\a.N<=50
 ·rw[CC ⟨k10,g⟩]
  rw[O0 g]at d;obtain⟨n,B⟩:=z3 g.1;have c:=zh w m n h ω;rw[show a.N.toNat=n by omega];rw[<-B]at c
  repeat'(first|refine gB ?_|(conv=>whnf);first|with_reducible refine Bf.E (λb=>?_) (λb=>?_)|refine CB ?_|refine C8 (d) ?_|refine CK (c) (.inl rfl) ?_|refine CB ?_)
  refine CJ rfl rfl ?_;exact wC
 rw[C9 (λx=>g x.2)];rw[U0 g]at d
 repeat'(first|refine gB ?_|(conv=>whnf);first|with_reducible refine Bf.E (λb=>?_) (λb=>?_)|refine CB ?_|refine C8 (d) ?_|refine CB ?_)
 refine CJ rfl rfl ?_;exact wC
def Dv(w:bo)(h1:ab.sml w.X)(a:a8.sml w.b7):zzA 122 false [.val (some 26) (bo.enc .V w)] .agg (bo.enc .own w):=by
 have b:=Dt w.X h1;have c:=eN w.b7 a;refine fO 10 [(1,5,[3,4,5,6,7])] Tryz.func122 rfl ?_ (.inr (bo.enc_fr _))
 repeat'(first|refine gP ?_|(conv=>whnf);first|refine C8 (b) ?_|refine C8 (c) ?_|refine CB ?_)
 rfl
def Dw(c:cH)(acts:List eA)(h:DA c)(d:jw c.a0)(n:∀a∈acts,LF a)(D:acts.length<=80):zzA 44 false [.val (some 5) (cH.enc .V c),.val none (pd .V acts)] (.tup [some 26,none]) (bo.enc .own (wd c acts acts.length).1++aF .own (wd c acts acts.length).2):=by
 have o:=yS c h;refine fP 42 [(121,[2,0]),(2000005,[6,21,25])] [] Tryz.func44 rfl ?_ (.inr (aQ (bo.enc_fr _) (bM _)))
 repeat'(first|refine gE ?_|(conv=>whnf);first|refine C8 (o) ?_|refine GD.mk rfl rfl rfl ?_)
 (conv=>whnf)
 refine CG (ι:=Nat) (λi=>[(1,.H .one (pd .V acts)),(4,.H .box [.z,.z,.z,I 0,.z,.z,.z,.z,.z,.z,.z,.z,I 0,.z,I 0,I 0,I 0,I 0,B false,I 0,I 0,.z,I 0,I 0,I 0,.z]),(6,.H .box (rv (wd c acts i).1)),(8,.H .one (aF .own (wd c acts i).2)),(9,.H .one [I ((i:Nat):Int)])]) (λi=>i<=acts.length) (λi=>acts.length - i) (0) ?_ (W0 _) λi p=>?_
 ·repeat'(first|exact trivial|rfl |exact mL q|exact dL _|refine CL ?_ ?_|(exact A7 (by first|omega|(simp only;omega)|(simp;omega))))
 have e:=qZ h acts i;have b:=Hc h acts i;have g:(wd c acts i).2.length=i:=by
  clear e b p
  induction i with
  | zero=>rfl
  | succ k t=>show((wd c acts k).2++[_]).length=_;rw[U3,t];rfl
 by_cases j:i<acts.length
 ·have l:=ao j
  have u:=GE (wd c acts i).1 (nth acts i) i e ω (by unfold rfs at b;rw[b];exact d) (n _ (am j))
  repeat'(first|refine gE ?_|(conv=>whnf);first|with_reducible refine CD (aa l) ?_|refine CH rfl (aa l) rfl ?_|refine CK (u) (.inl rfl) ?_|refine CU cA (λr d=>by rw[O1.1 d];rfl) (by simp[bm,eH]) (by simp;omega) (by simp only[C1];exact yV (by simp;omega) (by decide)) rfl ?_)
  ((conv=>whnf);refine CE (i+1) ω ω ?_)
  repeat'(first|exact trivial|rfl| exact dL _ |exact CL rfl (CL (X0 (C.s dJ.own) (by simp[wd,rI])) trivial)|refine CL ?_ ?_|(exact A7 (by first|omega|(simp only;omega)|(simp;omega))))
 obtain rfl:i=acts.length:=ω
 have w:=e.fit (by unfold rfs at b;rw[b];exact d);have y:=Dv (wd c acts acts.length).1 w.1 (e.ref.sml ω)
 repeat'(first|refine gE ?_|(conv=>whnf);first|refine CF (y) ⟨⟨rfl,Qw _⟩,trivial⟩ ?_)
 rfl
def Ge(zs:List Int)(c:iC):jw (o9 zs c).a0:=by
 show jw (oN zs 4 0 [] (Dy zs c).2).1;have key:∀(f i:Nat)(out:List Int)(c:iC),(∀x∈out,ni x)->∀x∈(oN zs f i out c).1,ni x:=by
  intro f
  induction f with
  | zero=>intro i out c h;exact h
  | succ f b=>
   intro i out c h;unfold oN;split
   ·refine b _ _ _ λx a=>?_
    rcases C3.1 a with a|a
    ·exact h x a
    rw[O1.1 a];have:=bG zs (bt zs c 4).2 (n:=12) (by decide);exact⟨ω,ω⟩
   exact h
 exact⟨by
   have d:∀(f i:Nat)(out:List Int)(c:iC),out.length+f<=4->(oN zs f i out c).1.length<=4:=by
     intro f
     induction f with
     | zero=>intro i out c h;exact h
     | succ f b=>
       intro i out c h;unfold oN;split
       · exact b _ _ _ (by simp only[U3,List.length_singleton];omega)
       show out.length<=4;omega
   have:=d 4 0 [] (Dy zs c).2 (I3 _);omega,key 4 0 [] _ (λx a=>by cases a)⟩
def z8(zs:List Int)(a:j7 zs):zzB 59 false [.ptr (io zs (nK zs))] [.ptr (io zs (kn zs (dI zs)).2)] .agg (bo.enc .own (drawn zs)):=by
 have b:(nK zs).i<=zs.length:=W0 _;obtain⟨g,d⟩:=mS b;have o:=bG zs (dI zs) (n:=41) (by decide);obtain⟨p,h,-⟩:=pw (zs:=zs) (c:=dI zs) d (n:=(bt zs (dI zs) 41).1.toNat) ω;have e:=yj zs (nK zs) a b;have j:=BM zs (dI zs) a d;have k:=Dw (o9 zs (nK zs)) (kn zs (dI zs)).1 g (Ge zs _) h (by show(lD zs (dI zs) _).1.length<=80;omega);have l:drawn zs=(wd (o9 zs (nK zs)) (kn zs (dI zs)).1 (kn zs (dI zs)).1.length).1:=rfl;rw[l];change aR _ _ _ _ [.ptr (io zs (dI zs))] _ _ at e;generalize o9 zs (nK zs)=cf at *;generalize r:kn zs (dI zs)=A at *;generalize t:wd cf A.1 A.1.length=R at *;refine fM 14 [(113,[2]),(114,[2,0])] [] [(0,0)] Tryz.func59 rfl (λu q=>?_) (.inr (bo.enc_fr _))
 repeat'(first|refine gP ?_|(conv=>whnf);first|refine CK (e) (.inl rfl) ?_|refine CK (j) (.inl rfl) ?_|refine CF (k) ⟨⟨rfl,cH.enc_fz _⟩,⟨rfl,Kw _⟩,trivial⟩ ?_)
 refine CJ rfl rfl ?_;exact wC
def Rd(z:List Int):List C:=[.s .V (z.map rU)]
def vd(zs:List Int)(b:j7 zs):ry Tryz.prog 60 true [.val none (Rd zs)] .box (io zs (nK zs)):=by
 have r:=b.1;have e:IntKind.i64.wrap (98801+(zs.length:Nat))=w64 (98801+(zs.length:Nat)):=rfl;have g:ql zs 0=98801+(zs.length:Nat):=by show w64 _=_;rw[<-e];exact fo ω ω
 have a:=X0 I g;refine RZ (n:=32) (t:=2) (mo:=[]) (tb:=[]) Tryz.func60 (by kernel_rfl) rfl (by kernel_rfl) (by rfl) rfl ?_
 repeat'(first|refine gP ?_|fail)
 (conv=>whnf)
 refine CG (ι:=Nat) (λi=>[(0,.H .one (Rd zs)),(3,.H .one [I (ql zs i)]),(4,.H .one [I ((i:Nat):Int)])]) (λi=>i<=min zs.length 4000) (λi=>min zs.length 4000 - i) (0) ?_ (W0 _) λi u=>?_
 ·repeat'(first|exact trivial|rfl |exact mL a|exact dL _|refine CL ?_ ?_|(exact A7 (by first|omega|(simp only;omega)|(simp;omega))))
 have h:IntKind.i64.wrap (ql zs i*131)=w64 (ql zs i*131):=rfl;have j:IntKind.i64.wrap (w64 (ql zs i*131)+nth zs i)=w64 (w64 (ql zs i*131)+nth zs i):=rfl;have k:IntKind.i64.wrap (w64 (w64 (ql zs i*131)+nth zs i)+7)=w64 (w64 (w64 (ql zs i*131)+nth zs i)+7):=rfl;have l:IntKind.i64.wrap (BitVec.ofInt IntKind.i64.bits (w64 (w64 (w64 (ql zs i*131)+nth zs i)+7)) &&& BitVec.ofInt IntKind.i64.bits 1073741823).toNat=ql zs (i+1):=rfl;by_cases c:i<zs.length/\i<4000
 ·have d:=ao c.1
  have w:=b.2 _ (am c.1);generalize ql zs i=H at *;generalize o:ql zs (i+1)=H2 at *
  repeat'(first|refine gE ?_|(conv=>whnf);first|with_reducible (first|refine CD (aa d) ?_|refine CM h ?_|refine CM j ?_|refine CM k ?_|refine CM l ?_)|refine CH rfl (aa d) rfl ?_)
  ((conv=>whnf);refine CE (i+1) ω ω ?_)
  rw[o];exact wC
 obtain rfl:i=min zs.length 4000:=ω
 have p:nK zs = ⟨0,ql zs (min zs.length 4000)⟩:=rfl;rw[p];generalize ql zs (min zs.length 4000)=H at *
 repeat'(first|refine gE ?_|(conv=>whnf);first|with_reducible refine Bf.D (λq=>?_) (λq=>?_))
 all_goals rfl
def wJ(zs:List Int)(a:j7 zs):zzA 15 false [.val none (Rd zs)] .agg (bo.enc .own (drawn zs)):=by
 have b:=vd zs a;have c:=z8 zs a;refine fP 6 [(59,[2])] [] Tryz.func15 rfl ?_ (.inr (bo.enc_fr _))
 repeat'(first|refine gP ?_|(conv=>whnf);first|refine Cl.g b (.inr rfl) ?_|refine CK (c) (.inl rfl) ?_)
 rfl
def cls(h:ab):Int:=h.G.Calls
def Dm(k:ah)(p:Int):(newK k p).1.Calls=k.Calls+1:=by unfold newK;split<;>rfl
def Gh(k:ah)(p:Int):∀n:Nat,(newsK k p n).1.Calls<=k.Calls+n
 | 0=>by show k.Calls<=k.Calls+0;omega
 | n+1=>by
  have a:=Gh k p n;unfold newsK;split
  ·refine t5 (z5 (Dm (newsK k p n).1 (p+(n:Nat)))) ?_
   omega
  omega
def LU(h:ab)(i:Nat):cls (lR h i).1=cls h:=by unfold lR;split<;>rfl
def Kq(h:ab)(t c:Nat):cls (smallA h t c).1<=cls h+1:=by
 unfold smallA;split
 ·show cls h<=_;omega
 split
 ·show cls h<=_;omega
 split
 ·show cls h<=_;omega
 split
 ·exact z5 (Dm _ _)
 exact z5 ((LU _ _).trans (Dm _ _))
def El(h:ab)(t i:Nat):cls (freeT h t i).1=cls h:=by
 unfold freeT;split
 ·exact(jr _ _ _).1
 split
 ·rfl
 split
 ·exact(dE t _ _).2.2.1
 split<;>rfl
def An(t:Nat)(h:ab):∀k,cls (flushN t h k).1=cls h
 | 0=>rfl
 | k+1=>((fK _ (spilt (flushN t h k).1 t k)).2.2.1).trans (An t h k)
set_option maxHeartbeats 2000000
set_option maxHeartbeats 2000000
set_option maxHeartbeats 2000000
set_option maxHeartbeats 2000000
set_option maxHeartbeats 2000000
set_option maxHeartbeats 2000000
def Gr(zs:List Int):jw (drawn zs).X.G.a0:=by
 have a:(nK zs).i<=zs.length:=W0 _;have:=Hc (mS a).1 (kn zs (dI zs)).1 (kn zs (dI zs)).1.length;unfold rfs at this;show jw (wd _ _ _).1.X.G.a0;rw[this];exact Ge zs _
def Lv(zs:List Int):ab.sml (drawn zs).X/\ab.wf (drawn zs).X:=(x8 zs).fit (Gr zs)
def Rk(zs:List Int)(a:zs.length<=9223372036854775807):zzA 14 false [.val none (Rd zs)] .one [B (decide ((zs.length:Int) > 1048576))]:=by
 refine fO 6 [] Tryz.func14 rfl ?_
 repeat'(first|refine gP ?_|fail)
 rfl
def cl(k:ah)(f c:Nat):Int:=nth (nth k.F.W.U f) c
structure At(k:ah)(a:Int)(f c:Nat):Prop where
 m:(ac k.F.R (a / 16)).j≠0
 f:(ac k.F.R (a / 16)).e=f
 c:a % 16=c
variable{f:Nat}
def At.cell(h:At k a f c):eU k a=cl k f c:=by
 unfold eU cl;rw[h.f,h.c,Z2,Z2]
def At.mk'(c:aA k=true)(b:(ac k.F.R (a / 16)).j≠0):At k a (co k a) (a % 16).toNat:=by
 obtain⟨-,-,-,d,-⟩:=bS c b;exact⟨b,by unfold co;omega,ω⟩
def At.uniq{b d:Nat}(h:At k a f c)(h':At k a b d):f=b/\c=d:=by
 have e:=h.f;have g:=h'.f;have i:=h.c;have j:=h'.c;omega
def Mp(h:ab)(a:Int)(f c:Nat):Prop:=
 (∃s∈h.K,eC s a/\(ac (tbl h) s.Q).e=f/\(c:Int) / csz s.d=cN s a/\c<16)\/
 ∃l∈h.J,a=16*l.Q/\∃b:Int,16*l.Q<=b/\b<16*(l.Q+l.a2)/\At h.G b f c
def aT.pe(a:aT h E){s:ax}(b:s∈h.K):ac (tbl h) s.Q=nth (tbl h).O s.Q.toNat:=by
 obtain⟨c,d,-⟩:=a.mapped b;unfold ac;rw[CC ⟨c,d⟩]
variable{b:Int}
def si{l:ay}(a:bH l=true)(h1:16*l.Q<=b)(c:b<16*(l.Q+l.a2)):∃k:Nat,k<l.a2.toNat/\b / 16=l.Q+(k:Nat):=by
 have:=aK a;exact⟨(b / 16 - l.Q).toNat,ω,ω⟩
def lO(e:aT h E){l:ay}(i:l∈h.J)(h1:16*l.Q<=b)(o:b<16*(l.Q+l.a2))(j:At h.G b f c){q:Int}(n:(ac (tbl h) q).j≠0)(g:(ac (tbl h) q).e=f):q=b / 16:=by
 obtain⟨k,p,u⟩:=si (e.L.lok l i) h1 o;obtain⟨w,y,r,-⟩:=bS e.ker j.m;obtain⟨A,B,t,-⟩:=bS e.ker n;have d:=j.f;rw[r]at d;have a:=n;change (ac h.G.F.R q).j≠0 at a;change (ac h.G.F.R q).e=f at g;rw[t]at a g;have:=e.pg.one l i (b / 16).toNat (dq.2 ⟨k,p,ω⟩) q.toNat (by show q.toNat<h.G.F.R.O.length;omega) a (by show _=(nth h.G.F.R.O _).e;rw[d];exact g);omega
def wh(d:aT h E)(T:Mp h a f c)(U:Mp h b f c):a=b:=by
 have G:∀s∈h.K,(ac (tbl h) s.Q).e=f->∀l∈h.J,∀x:Int,16*l.Q<=x->x<16*(l.Q+l.a2)->At h.G x f c->False:=λs g V l o x H J W=>by
  obtain⟨K,t,q⟩:=d.mapped g;obtain⟨k,w,X⟩:=si (d.L.lok l o) H J;have:=lO d o H J W (by rw[d.pe g];exact q) V;exact d.L.dis s g l o k w ω
 rcases T with⟨s,g,M,N,O,s4⟩|⟨l,o,Y,x,A,B,P⟩<;>rcases U with⟨u,r,Q,R,S,u4⟩|⟨m,p,K,y,t,q,C⟩
 ·by_cases e:s.Q=u.Q
  ·obtain⟨i,D,rfl⟩:=aM g
   obtain⟨j,F,rfl⟩:=aM r;have:=ce (f:=(·.Q)) d.L.nd D F e;subst this;exact xt (d.L.sok _ g) M.2.2.1 Q.2.2.1 (O.symm.trans S)
  exfalso;have p:=d.pg.mesh s g u r e (by rw[<-d.pe g,<-d.pe r,N,R]);unfold meshable at p;simp only[I0,C0]at p;obtain⟨⟨o1,o2⟩,Z,-,e3⟩:=p;have b1:=(eO _ _).1 M.2.2.2;have b2:=(eO _ _).1 Q.2.2.2;have hn:(a - 16*s.Q) / csz s.d=(b - 16*u.Q) / csz u.d:=by
   have z1:cN s a=cN u b:=by rw[<-O,<-S,Z]
   exact z1
  have:=X0 (λn=>Nat.testBit n ((a - 16*s.Q) / csz s.d).toNat) e3;simp only[Nat.testBit_and,Nat.zero_testBit]at this;rw[b1.2.2.2,hn,b2.2.2.2]at this;cases this
 ·exact(G s g N m p y t q C).elim
 ·exact(G u r R l o x A B P).elim
 have hq:=lO d o A B P C.m C.f;obtain⟨i,D,rfl⟩:=aM o;obtain⟨j,F,rfl⟩:=aM p;obtain⟨k,w,X⟩:=si (d.L.lok _ o) A B;obtain⟨k',k3,k4⟩:=si (d.L.lok _ p) t q;have:=d.L.one i j D F k k' w k3 ω;subst this;rw[Y,K]
def qr(h:ab)(o:aY)(f c:Nat):Prop:=∃j:Int,0<=j/\j<o.o/\At h.G (o.Addr+j) f c
variable{o:aY}
def jC(i:aT h E)(B:o∈h.M)(C:qr h o f c):Mp h o.Addr f c:=by
 obtain⟨k,J,K,a⟩:=C;rcases i.oow o B with⟨s,r,t,D⟩|⟨l,u,F,M⟩
 ·have b:=i.L.sok s r
  have j:=aE b;have d:=bW j.2.2;have p:=t;obtain⟨N,O,w,-⟩:=t;have g:o.o<=csz s.d:=by
   have P:=iq (n:=o.o) ω;rw[D];have:o.o=1\/o.o=2\/o.o=3\/o.o=4\/o.o=5\/o.o=6\/o.o=7\/o.o=8:=ω
   rcases this with e|e|e|e|e|e|e|e<;>rw[e]<;>decide
  have G:(o.Addr+k) / 16=s.Q:=by rcases d with e|e|e|e<;>rw[e]at w g<;>omega
  have y:=a.f;have H:=a.c;rw[G]at y;refine .inl ⟨s,r,p,y,?_,ω⟩;unfold cN;rcases d with e|e|e|e<;>rw[e]at w g |-<;>omega
 have q:=i.L.lok l u;have A:=q;unfold bH at A;rw[C0]at A;exact .inr ⟨l,u,F,o.Addr+k,ω,ω,a⟩
def Jm(a:aT h E){u:aY}(b:o∈h.M)(d:u∈h.M)(h1:qr h o f c)(g:qr h u f c):o=u:=by
 have e:=wh a (jC a b h1) (jC a d g);obtain⟨i,k,rfl⟩:=aM b;obtain⟨j,l,rfl⟩:=aM d;rw[ce (f:=(·.Addr)) (cQ a.osr) k l e]
def JX(h:ab)(f c:Nat):Prop:=h.u=true/\(ac (tbl h) h.Z.Y.a5).e=f/\(c:Int)∈h.Z.Y.U.take h.Z.b.toNat
structure CI(h:ab):Prop where
 z:∀f c:Nat,c<16->cl h.G f c≠0->(∃o∈h.M,qr h o f c)\/JX h f c
 jv:h.u=true->∀c:Nat,(c:Int)∈h.Z.Y.U.take h.Z.b.toNat->cl h.G (bL h.G h.Z.Y.a5) c=cl h.G (bL h.G h.Z.Y.a4) c
 jd:h.u=true->∀s∈h.K,s.Q=h.Z.Y.a5->∀c:Nat,c<16->(c:Int)∈h.Z.Y.U->aW s.b1 ((c:Int) / csz s.d)=false
 jc:h.u=true->∀s∈h.K,s.Q=h.Z.Y.a4->∀c:Nat,c<16->aW s.b1 ((c:Int) / csz s.d)=true->(c:Int)∈h.Z.Y.U
 jn:h.u=true->(h.Z.b2=0->h.Z.b=0)/\(h.Z.b2=2->h.Z.b=h.Z.Y.U.length)
 m1:∀q:Nat,(nth (tbl h).O q).j=1->h.u=true/\(q:Int)=h.Z.Y.a4/\h.Z.b2≠0
 m2:h.u=true->h.Z.b2≠0->(ac (tbl h) h.Z.Y.a4).j=1
variable{h':ab}
theorem CI.keep(j:CI h)(g:h'.Z=h.Z)(k:h'.u=h.u)(r:∀q:Nat,(nth (tbl h').O q).j=1->(nth (tbl h).O q).j=1)(l:h.u=true->ac (tbl h') h.Z.Y.a5=ac (tbl h) h.Z.Y.a5/\ac (tbl h') h.Z.Y.a4=ac (tbl h) h.Z.Y.a4)(t:∀f c:Nat,c<16->cl h'.G f c≠0->cl h.G f c=cl h'.G f c\/∃o∈h'.M,qr h' o f c)(n:∀o∈h.M,∀f c:Nat,c<16->qr h o f c->cl h'.G f c≠0->∃F∈h'.M,qr h' F f c)(u:h.u=true->∀c:Nat,(c:Int)∈h.Z.Y.U.take h.Z.b.toNat->cl h'.G (bL h.G h.Z.Y.a5) c=cl h.G (bL h.G h.Z.Y.a5) c/\cl h'.G (bL h.G h.Z.Y.a4) c=cl h.G (bL h.G h.Z.Y.a4) c)(p:h.u=true->∀d∈h'.K,d.Q=h.Z.Y.a5\/d.Q=h.Z.Y.a4->∃s∈h.K,s.Q=d.Q/\s.d=d.d/\∀i,aW d.b1 i=true->aW s.b1 i=true):CI h' where
 z f c b w:=by
  rcases t f c b w with e|e
  ·rcases j.z f c b (by rw[e];exact w) with⟨o,G,y⟩|⟨E,H,J⟩
   ·exact .inl (n o G f c b y w)
   exact .inr ⟨by rw[k];exact E,by rw[g,(l E).1];exact H,by rw[g];exact J⟩
  exact .inl e
 jv a c h2:=by
  rw[k]at a;rw[g]at h2 |-;obtain⟨K,L⟩:=u a c h2;obtain⟨M,N⟩:=l a;have O:bL h'.G h.Z.Y.a5=bL h.G h.Z.Y.a5:=X0 (λe:bh=>e.e.toNat) M;have P:bL h'.G h.Z.Y.a4=bL h.G h.Z.Y.a4:=X0 (λe:bh=>e.e.toNat) N;rw[O,P,K,L];exact j.jv a c h2
 jd a d hs' hp c b hcm:=by
  rw[k]at a;rw[g]at hp hcm;obtain⟨s,A,B,C,D⟩:=p a d hs' (.inl hp);have:=j.jd a s A (B.trans hp) c b hcm;rw[<-C];rw[<-U5]at this |-;exact λe=>this (D _ e)
 jc a d hs' hp c b hb:=by
  rw[k]at a;rw[g]at hp |-;obtain⟨s,A,B,C,D⟩:=p a d hs' (.inr hp);exact j.jc a s A (B.trans hp) c b (by rw[C];exact D _ hb)
 jn a:=by rw[k]at a;rw[g];exact j.jn a
 m1 q Q:=by rw[k,g];exact j.m1 q (r q Q)
 m2 a h2:=by
  rw[k]at a;rw[g]at h2 |-;rw[(l a).2];exact j.m2 a h2
def Kp(h h':ab):Prop:=∀o∈h'.M,o∈h.M/\∀j:Int,0<=j->j<o.o->eU h'.G (o.Addr+j)=eU h.G (o.Addr+j)
def Kp.refl(h:ab):Kp h h:=λ_ a=>⟨a,λ_ _ _=>rfl⟩
def Cb:type_of% @Kp.refl:=@Kp.refl
def Kp.trans{h1 c:ab}(a:Kp h h1)(b:Kp h1 c):Kp h c:=λo f=>by
 obtain⟨g,i⟩:=b o f;obtain⟨k,l⟩:=a o g;exact⟨k,λj d e=>(i j d e).trans (l j d e)⟩
def aT.jobM(c:aT h E)(f:h.u=true):(ac (tbl h) h.Z.Y.a5).j≠0/\(ac (tbl h) h.Z.Y.a4).j≠0:=by
 obtain⟨-,⟨a,d,g⟩,b,e,i⟩:=c.job f;rw[<-g,<-i,c.pe d,c.pe e];exact⟨(c.mapped d).2.2,(c.mapped e).2.2⟩
variable{p:Int}
def l7(a:aA k=true)(b:(ac k.F.R p).j≠0):(ac k.F.R p).e=(bL k p:Nat):=by
 obtain⟨-,-,-,c,-⟩:=bS a b;unfold bL;omega
def CI.kern(A:aT h E)(M:CI h)(n:∀o∈h'.M,o∈h.M)(N:h'.Z=h.Z)(B:h'.u=h.u)(b:∀o∈h.M,o∉h'.M->∀f c:Nat,c<16->qr h o f c->cl h'.G f c=0)(F:∀q:Nat,(nth (tbl h').O q).j=1->(nth (tbl h).O q).j=1)(d:h.u=true->ac (tbl h') h.Z.Y.a5=ac (tbl h) h.Z.Y.a5/\ac (tbl h') h.Z.Y.a4=ac (tbl h) h.Z.Y.a4)(r:∀o∈h'.M,∀j:Int,0<=j->j<o.o->ac (tbl h') ((o.Addr+j) / 16)=ac (tbl h) ((o.Addr+j) / 16))(t:∀f c:Nat,cl h'.G f c=cl h.G f c\/(cl h'.G f c=0/\∀p:Int,(ac (tbl h') p).j≠0->(ac (tbl h') p).e≠f))(G:h.u=true->∀u∈h'.K,u.Q=h.Z.Y.a5\/u.Q=h.Z.Y.a4->∃s∈h.K,s.Q=u.Q/\s.d=u.d/\∀i,aW u.b1 i=true->aW s.b1 i=true):CI h'/\Kp h h':=by
 have cov:∀o∈h'.M,∀f c:Nat,qr h o f c->qr h' o f c:=λo O f c ⟨j,w,C,l⟩=>by
  have e:=r o O j w C;unfold tbl at e;exact⟨j,w,C,by rw[e];exact l.m,by rw[e];exact l.f,l.c⟩
 have H:∀{p:Int},ac (tbl h') p=ac (tbl h) p->(ac (tbl h) p).j≠0->∀c,cl h'.G (bL h.G p) c=cl h.G (bL h.G p) c:=fun {p} e B c=>by
  rcases t (bL h.G p) c with g|⟨-,g⟩
  ·exact g
  refine absurd ?_ (g p (by rw[e];exact B));rw[e];exact l7 A.ker B
 refine⟨M.keep N B F d (λf c _ J=>.inl ?_) (λo a f c K y J=>?_) (λD c _=>⟨H (d D).1 (A.jobM D).1 c,H (d D).2 (A.jobM D).2 c⟩) G,λo a=>⟨n o a,λj w C=>?_⟩⟩
 ·rcases t f c with g|g
  ·exact g.symm
  exact absurd g.1 J
 ·by_cases e:o∈h'.M
  ·exact⟨o,e,cov o e f c y⟩
  exact absurd (b o a e f c K y) J
 have e:=r o a j w C;have L:=(cT A (n o a) (k:=j) ⟨w,ω⟩).1;have:=H e L ((o.Addr+j) % 16).toNat;unfold eU;unfold tbl at e;rw[e];exact this
def x6(d:aT h E)(y:Mp h a f c){s:ax}(n:s∈h.K)(g:oG (tbl h) s.Q)(r:(ac (tbl h) s.Q).e=f):eC s a/\(c:Int) / csz s.d=cN s a/\a / 16=s.Q:=by
 obtain⟨K,M,A⟩:=d.mapped n;rcases y with⟨u,o,p,B,C,N⟩|⟨l,q,-,b,t,w,D⟩
 ·obtain⟨O,P,F⟩:=d.mapped o
  have:=g u.Q.toNat F (by rw[<-d.pe o,<-d.pe n,B,r]);obtain⟨i,G,rfl⟩:=aM n;obtain⟨j,H,rfl⟩:=aM o;have e:=ce (f:=(·.Q)) d.L.nd G H ω;subst e;exact⟨p,C,by have:=p.1;have:=p.2.1;omega⟩
 exfalso;obtain⟨k,J,Q⟩:=si (d.L.lok l q) t w;have:=lO d q t w D (by rw[d.pe n];exact A) r;exact d.L.dis s n l q k J ω
def sf(n:aT h E)(d:JI h)(o:CI h)(e:h.u=true)(p:Mp h a f c)(g:c<16)(i:(c:Int)∈h.Z.Y.U):(ac (tbl h) h.Z.Y.a5).e≠f:=λq=>by
 obtain⟨s,k,b,-,j,-,-⟩:=d.sp e;obtain⟨r,t,-⟩:=x6 n p k (by rw[j];exact d.sk e) (by rw[j];exact q);have:=o.jd e s k j c g i;rw[t]at this;have l:=r.2.2.2;unfold cN at this;rw[this]at l;cases l
def Ex(n:aT h E)(d:JI h)(j:CI h)(g:h.u=true)(o:Mp h a f c)(k:(ac (tbl h) (a / 16)).j≠1)(e:(c:Int)∈h.Z.Y.U.take h.Z.b.toNat):(ac (tbl h) h.Z.Y.a4).e≠f:=λp=>by
 obtain⟨-,-,b,q,-,i,-⟩:=d.sp g;obtain⟨-,-,r⟩:=x6 n o q (by rw[i];exact d.sm g) (by rw[i];exact p);by_cases l:h.Z.b2=0
 ·rw[(j.jn g).1 l]at e;cases e
 have:=j.m2 g l;rw[r,i]at k;exact k this
def Ay(n c:Nat):nth (List.replicate n (0:Int)) c=0:=by
 unfold nth;rw[X2,List.getElem?_replicate];split<;>rfl
structure KL(k k':ah)(lo n:Int):Prop where
 out:∀q:Int,¬(lo<=q/\q<lo+n)->ac k'.F.R q=ac k.F.R q
 ins:∀q:Int,lo<=q->q<lo+n->(ac k'.F.R q).j=0
 cel:∀f c:Nat,cl k' f c=cl k f c\/(cl k' f c=0/\∀p:Int,(ac k'.F.R p).j≠0->(ac k'.F.R p).e≠f)
def Jl(k:ah)(F:Int)(f c:Nat):cl (fX k F) f c=cl k f c\/(cl (fX k F) f c=0/\F.toNat=f/\(pagesOn k.F.R F).length=0):=by
 unfold fX;split
 ·rename_i e
  unfold cl;simp only[bw];split
  ·rename_i a;exact .inr ⟨Ay _ _,a.1,e⟩
  exact .inl rfl
 exact .inl rfl
def mR{t:aI}(h:(ac t p).j≠0):0<=p/\p<t.O.length/\ac t p=nth t.O p.toNat:=by
 unfold ac at h |-;split
 ·rename_i e;exact⟨e.1,e.2,rfl⟩
 rename_i e;rw[C9 e]at h;exact absurd rfl h
def LI{t:aI}{F:Int}(h:(pagesOn t F).length=0)(a:(ac t p).j≠0):(ac t p).e≠F:=λe=>by
 obtain⟨c,d,b⟩:=mR a;rw[b]at a e;have:0<(pagesOn t F).length:=dX.2 ⟨p.toNat,ω,a,e⟩;omega
def KL.refl(k:ah)(lo:Int):KL k k lo 0:=⟨λ_ _=>rfl,λq a b=>ω,λ_ _=>.inl rfl⟩
def KL.unmap(h:aA k=true)(j:0<=p/\p<k.F.R.O.length):KL k (cy k p) p 1:=by
 have b:=qR h j;have d:=(jm k p).1;have i:∀q:Int,ac (cy k p).F.R q=if q=p then⟨0,0⟩ else ac k.F.R q:=λq=>by
  unfold ac;rw[d];by_cases e:0<=q/\q<k.F.R.O.length
  ·rw[CC e,CC e,b q.toNat]
   by_cases a:q=p
   ·rw[CC a,CC ω]
   rw[C9 a,C9 ω]
  rw[C9 e,C9 e];by_cases a:q=p
  ·rw[CC a]
  rw[C9 a]
 refine⟨λq g=>by rw[i,C9 ω],λq t u=>by rw[i,CC ω],λf c=>?_⟩;unfold cy;split
 ·exact .inl rfl
 rename_i l;rcases Jl (lC k p) (ac k.F.R p).e f c with e|⟨n,a,o⟩
 ·exact .inl e
 refine .inr ⟨n,λq g=>?_⟩;rw[(mP _ _).1]at g |-;have:=LI o g;have r:=l7 h l;unfold bL at r;rw[<-a];omega
variable{lo:Int}
def KL.trans{i j:ah}{m:Int}(t:0<=n/\0<=m)(a:KL k i lo n)(b:KL i j (lo+n) m):KL k j lo (n+m):=by
 refine⟨λq u=>(b.out q ω).trans (a.out q ω),λq l w=>?_,λf c=>?_⟩
 ·by_cases e:lo+n<=q
  ·exact b.ins q e ω
  rw[b.out q ω];exact a.ins q l ω
 rcases b.cel f c with e|e
 ·rcases a.cel f c with g|⟨o,r⟩
  ·exact .inl (e.trans g)
  refine .inr ⟨e.trans o,λp d=>?_⟩;by_cases h:lo+n<=p/\p<lo+n+m
  ·exact absurd (b.ins p h.1 h.2) d
  rw[b.out p h]at d |-;exact r p d
 exact .inr e
def KL.unmN{k:ah}(a:aA k=true){p:Int}(b:0<=p):∀n:Nat,p+n<=k.F.R.O.length->KL k (unmN k p n) p n
 | 0,_=>KL.refl k p
 | n+1,h=>by
  have c:=KL.unmN a b n ω;have d:=KL.unmap (ik a p n) (p:=p+n) ⟨ω,by rw[(dS k p n).1];omega⟩;have:=KL.trans ⟨ω,ω⟩ c d;rw[show((n:Nat):Int)+1=((n+1:Nat):Int) by omega]at this;exact this
def KL.md{b:ah}(a:KL k b lo n)(f:b.F.R.O.length=k.F.R.O.length)(q:Nat)(h:(nth b.F.R.O q).j≠0):nth b.F.R.O q=nth k.F.R.O q:=by
 have g:=td h;have c:ac b.F.R (q:Nat)=nth b.F.R.O q:=by unfold ac;rw[CC ⟨ω,ω⟩];rfl
 have d:ac k.F.R (q:Nat)=nth k.F.R.O q:=by unfold ac;rw[CC ⟨ω,ω⟩];rfl
 by_cases e:lo<=q/\(q:Int)<lo+n
 ·rw[<-c,a.ins q e.1 e.2]at h;exact absurd rfl h
 rw[<-c,<-d,a.out q e]
def Bm(h:0<=aG n):n<=csz (aG n):=by
 have a:=iq h;have:n=1\/n=2\/n=3\/n=4\/n=5\/n=6\/n=7\/n=8:=ω
 rcases this with e|e|e|e|e|e|e|e<;>rw[e]<;>decide
def LR(k:aT h E)(p:o∈h.M)(g:¬aG o.o<0)(i:qr h o f c):f=co h.G o.Addr/\(o.Addr % 16).toNat<=c/\c<(o.Addr % 16).toNat+(csz (aG o.o)).toNat:=by
 obtain⟨⟨s,q,r,t⟩,-⟩:=(dc k p).2 g;obtain⟨A,B,l,-⟩:=r;have a:=Bm (n:=o.o) ω;have b:=bW (aE (k.L.sok s q)).2.2;rw[<-t]at a |-;obtain⟨j,C,D,d⟩:=i;have u:=d.c;have w:=d.f;have y:(o.Addr+j) / 16=o.Addr / 16:=by rcases b with e|e|e|e<;>rw[e]at l a<;>omega
 rw[y]at w;refine⟨by unfold co;omega,?_⟩;rcases b with e|e|e|e<;>rw[e]at l a |-<;>omega
def CI.clrS{h:ab}{E:List Int}(n:aT h E)(p:CI h){i:Nat}{a:Int}(g:i<h.K.length)(l:eC (nth h.K i) a):CI (clrS h i a):=by
 have b:=n.L.sok _ (am g);refine p.keep rfl rfl (λq h=>h) (λ_=>⟨rfl,rfl⟩) (λf c _ _=>.inl rfl) (λo r f c _ d _=>⟨o,r,d⟩) (λ_ c _=>⟨rfl,rfl⟩) λ_ w e _=>?_
 rcases dH e with rfl|⟨j,t,-,rfl⟩
 ·refine⟨_,am g,rfl,rfl,λk u=>((Ez (eB b) (pS b ⟨l.1,l.2.1⟩) k).1 u).1⟩
 exact⟨_,am t,rfl,rfl,λ_ h=>h⟩
variable{j:Int}
def Mh(a:aT h E)(p:o∈h.M)(h1:0<=j)(J:j<o.o){s:ax}(r:s∈h.K)(T:(o.Addr+j) / 16=s.Q):eC s o.Addr:=by
 obtain⟨U,V,W⟩:=a.mapped r;have t:=(cT a p (k:=j) ⟨h1,ω⟩).1;have w:=At.mk' a.ker t;rcases jC a p ⟨j,h1,J,w⟩ with⟨u,K,G,-,-,-⟩|⟨l,b,X,-⟩
 ·rcases a.oow o p with⟨v,q,c,M⟩|⟨l,b,N,O⟩
  ·have y:=a.L.sok v q
   have A:=aE y;have B:=bW A.2.2;have C:=c;obtain⟨Y,Z,P,-⟩:=c;have D:o.o<=csz v.d:=by
    have hb:=iq (n:=o.o) ω;rw[M];have:o.o=1\/o.o=2\/o.o=3\/o.o=4\/o.o=5\/o.o=6\/o.o=7\/o.o=8:=ω
    rcases this with e|e|e|e|e|e|e|e<;>rw[e]<;>decide
   have Q:(o.Addr+j) / 16=v.Q:=by rcases B with e|e|e|e<;>rw[e]at P D<;>omega
   obtain⟨i,R,rfl⟩:=aM r;obtain⟨k,S,rfl⟩:=aM q;have:=ce (f:=(·.Q)) a.L.nd R S (by show(nth h.K i).Q=(nth h.K k).Q;omega);subst this;exact C
  exfalso;have:=aK (a.L.lok l b);exact a.L.dis u K l b 0 ω (by have:=G.1;have:=G.2.1;omega)
 exfalso;have H:=a.L.lok l b;unfold bH at H;rw[C0]at H;rcases a.oow o p with⟨v,q,c,-⟩|⟨F,d,N,O⟩
 ·exact a.L.dis v q l b 0 ω (by have:=c.1;have:=c.2.1;omega)
 have g:=a.L.lok F d;unfold bH at g;rw[C0]at g;exact a.L.dis s r F d ((o.Addr+j) / 16 - F.Q).toNat ω ω
def CI.giveP{h:ab}{E:List Int}(b:aT h E)(f:CI h){i:Nat}(e:i<h.K.length)(g:(nth h.K i).b1=0)(c:fg h (nth h.K i).Q=false):CI (giveP h i)/\Kp h (giveP h i):=by
 obtain⟨k,l,A⟩:=b.mapped (am e);have kl:=KL.unmap b.ker (p:=(nth h.K i).Q) ⟨k,l⟩;refine CI.kern b f (λo a=>a) rfl rfl (λo a n=>absurd a n) (λq r=>?_) (λt=>?_) (λo a j u w=>?_) kl.cel (λ_ B d _=>?_)
 ·have:=kl.md (jm _ _).1 q (by show(nth (tbl (Ab.giveP h i)).O q).j≠0;omega)
  show(nth h.G.F.R.O q).j=1;rw[<-this];exact r
 ·obtain⟨C,D⟩:=wK c t
  exact⟨kl.out _ ω,kl.out _ ω⟩
 ·refine kl.out _ λF=>?_
  exact wc g _ (Mh b a u w (am e) ω)
 obtain⟨j,y,-,rfl⟩:=cV.1 d;exact⟨_,am y,rfl,rfl,λ_ h=>h⟩
def CI.freeS{h:ab}{E:List Int}{a:Int}{i:Nat}(c:aT h (a::E))(j:CI h)(b:i<h.K.length)(d:eC (nth h.K i) a):CI (freeS h i a)/\Kp h (freeS h i a):=by
 have k:=c.give b d;have f:=CI.clrS c j b d;unfold Ab.freeS;split
 ·rename_i e
  have g:nth (Ab.clrS h i a).K i=kq (nth h.K i) (cN (nth h.K i) a):=by unfold Ab.clrS;simp only[bw,true_and];rw[CC b]
  obtain⟨l,n⟩:=CI.giveP (h:=Ab.clrS h i a) k f (i:=i) (by unfold Ab.clrS;simp only[U1];exact b) (by rw[g];exact e.1) (by rw[g];exact e.2);exact⟨l,n⟩
 exact⟨f,Cb h⟩
def CI.freeA{h:ab}{E:List Int}{a:Int}(b:aT h (a::E))(c:CI h):CI (freeA h a)/\Kp h (freeA h a):=by
 obtain⟨d,e,-⟩:=b.at (b.hin a (Z1 ..));exact CI.freeS b c d e
def CI.recyc{h:ab}{E:List Int}{a:Int}{t:Nat}(c:aT h (a::E))(b:CI h):CI (recyc t h a)/\Kp h (recyc t h a):=by
 unfold Ab.recyc;split
 ·exact⟨⟨b.z,b.jv,b.jd,b.jc,b.jn,b.m1,b.m2⟩,Cb h⟩
 exact CI.freeA c b
def CI.recycs{t:Nat}{E:List Int} : ∀{az:List Int}{h:ab},aT h (az++E)->t<h.S.length->CI h->CI (recycs t h az)/\Kp h (recycs t h az)
 | [],h,_,_,b=>⟨b,Cb h⟩
 | a::az,h,c,d,b=>by
  obtain⟨e,f⟩:=CI.recyc (t:=t) c b;obtain⟨g,i⟩:=CI.recycs (az:=az) (h:=Ab.recyc t h a) (c.recyc d) (by rw[(lA t h a).1];exact d) e;exact⟨g,f.trans i⟩
def CI.freeAs{E:List Int} : ∀{az:List Int}{h:ab},aT h (az++E)->CI h->CI (freeAs h az)/\Kp h (freeAs h az)
 | [],h,_,b=>⟨b,Cb h⟩
 | a::az,h,c,b=>by
  obtain⟨d,e⟩:=CI.freeA c b;obtain⟨f,g⟩:=CI.freeAs (az:=az) (h:=Ab.freeA h a) c.freeA d;exact⟨f,e.trans g⟩
def CI.flushN{t:Nat}{h:ab}(c:aT h [])(d:t<h.S.length)(e:CI h):∀{k:Nat},k<=4->CI (flushN t h k).1/\Kp h (flushN t h k).1
 | 0,_=>⟨e,Cb h⟩
 | k+1,p=>by
  obtain⟨a,g⟩:=CI.flushN c d e (k:=k) ω;obtain⟨f,q,-⟩:=jq c d (k:=k) ω;have b:t<(Ab.flushN t h k).1.S.length:=ω
  have i:=po (f.cach _ (am b));have j:=f.spilt b (k:=k) ω;have l:CI (spilt (Ab.flushN t h k).1 t k):=⟨a.z,a.jv,a.jd,a.jc,a.jn,a.m1,a.m2⟩
  obtain⟨n,o⟩:=CI.freeAs j l;exact⟨n,g.trans o⟩
def CI.tick{h:ab}{n:Int}(c:aT h [])(a:CI h)(d:0<=n)(b:h.b3+n<=1000000):CI (tick h n)/\Kp h (tick h n):=by
 have e:=c.aged d b;have f:CI (aged h n):=⟨a.z,a.jv,a.jd,a.jc,a.jn,a.m1,a.m2⟩
 exact CI.freeAs e f
def CI.collect{h:ab}{t:Nat}(b:aT h [])(a:CI h)(c:t<h.S.length):CI (collect h t)/\Kp h (collect h t):=by
 have g:=(df.1 b.mail).1;have d:=b.nc;have e:=b.coll (t:=t) ω;have f:CI {h with w:=lI h.w t}:=⟨a.z,a.jv,a.jd,a.jc,a.jn,a.m1,a.m2⟩
 exact CI.recycs e c f
def tI(r:List Int)(o:Nat):∀(n c:Nat),nth (iz r o n) c=if o<=c/\c<o+n then 0 else nth r c
 | 0,c=>by rw[C9 ω];rfl
 | n+1,c=>by
  unfold iz;rw[bw,tI r o n c,kW];by_cases e:o+n=c
  ·rw[CC (show o<=c/\c<o+(n+1) by omega)]
   by_cases a:c<r.length
   ·rw[CC ⟨e,a⟩]
   rw[C9 ω,C9 ω];unfold nth;rw[X2,W2 ω];rfl
  rw[C9 ω];by_cases a:o<=c/\c<o+n
  ·rw[CC a,CC ω]
  rw[C9 a,C9 ω]
def y5(k:ah)(a:Int)(n f c:Nat):cl (dN k a n) f c=cl k f c\/(cl (dN k a n) f c=0/\f=co k a/\(a % 16).toNat<=c/\c<(a % 16).toNat+n):=by
 unfold cl dN;simp only[bw];split
 ·rename_i e
  rw[tI];split
  ·rename_i b;exact .inr ⟨rfl,e.1.symm,b.1,b.2⟩
  rw[e.1];exact .inl rfl
 exact .inl rfl
def Ey{n:Nat}(h1:(a % 16).toNat<=c)(b:c<(a % 16).toNat+n):cl (dN k a n) (co k a) c=0:=by
 unfold cl dN;simp only[bw];by_cases e:co k a<k.F.W.U.length
 ·rw[CC ⟨trivial,e⟩,tI,CC ⟨h1,b⟩]
 rw[C9 (λx=>e x.2)];have:nth k.F.W.U (co k a)=[]:=by
  unfold nth;rw[X2,W2 ω];rfl
 rw[this];rfl
def CI.clearO(b:aT h E)(u:JI h)(O:CI h)(P:i<h.M.length)(w:¬aG (nth h.M i).o<0)(hw:(ac (tbl h) ((nth h.M i).Addr / 16)).j≠1)(y:h'.G=dN h.G (nth h.M i).Addr (csz (aG (nth h.M i).o)).toNat)(e2:h'.M=dele h.M i)(e3:h'.K=h.K)(e4:h'.Z=h.Z)(e5:h'.u=h.u):CI h'/\Kp h h':=by
 obtain⟨⟨s,H,s1,s2⟩,hc3⟩:=(dc b (am P)).2 w;have Q:=s1;obtain⟨g1,g2,g3,-⟩:=s1;have A:=b.L.sok s H;have B:=bW (aE A).2.2;obtain⟨m1,m2,m3⟩:=b.mapped H;have R:(nth h.M i).Addr / 16=s.Q:=ω
 have J:tbl h'=tbl h:=by unfold tbl;rw[y];rfl
 have S:(ac (tbl h) s.Q).e=(co h.G (nth h.M i).Addr:Nat):=by
  unfold co;rw[R];exact l7 b.ker (by show(ac (tbl h) s.Q).j≠0;rw[b.pe H];exact m3)
 have ex:∀c:Nat,((nth h.M i).Addr % 16).toNat<=c->c<((nth h.M i).Addr % 16).toNat+(csz (aG (nth h.M i).o)).toNat->Mp h (nth h.M i).Addr (co h.G (nth h.M i).Addr) c/\c<16:=λc h1 T=>by
  rw[<-s2]at T;have r:c<16:=by rcases B with e|e|e|e<;>rw[e]at g3 T<;>omega
  refine⟨.inl ⟨s,H,Q,S,?_,r⟩,r⟩;unfold cN;rcases B with e|e|e|e<;>rw[e]at g3 T |-<;>omega
 have cv:∀o∈h.M,∀f c:Nat,qr h o f c->qr h' o f c:=λo d f c ⟨j,K,U,a⟩=>by
  have e:h'.G.F.R=h.G.F.R:=J;exact⟨j,K,U,by rw[e];exact a.m,by rw[e];exact a.f,a.c⟩
 have same:∀o∈h.M,o≠nth h.M i->∀f c:Nat,qr h o f c->cl h'.G f c=cl h.G f c:=λo d V f c l=>by
  rw[y];rcases y5 h.G (nth h.M i).Addr (csz (aG (nth h.M i).o)).toNat f c with g|⟨-,W,X,Y⟩
  ·exact g
  exfalso;have hx:=(ex c X Y).1;rw[<-W]at hx;have ea:=wh b (jC b d l) hx;obtain⟨k,n,rfl⟩:=aM d;have:=ce (f:=(·.Addr)) (cQ b.osr) n P ea;subst this;exact V rfl
 have notO:∀o∈h'.M,o≠nth h.M i/\o∈h.M:=λo d=>by
  rw[e2]at d;obtain⟨k,n,Z,rfl⟩:=cV.1 d;refine⟨λe=>Z ?_,am n⟩;exact ce (f:=(·.Addr)) (cQ b.osr) n P (by rw[e])
 refine⟨O.keep e4 e5 (by rw[J];exact λq h=>h) (λ_=>by rw[J];exact⟨rfl,rfl⟩) (λf c _ M=>.inl ?_) (λo d f c r l M=>?_) (λN c C=>?_) (λ_ s' hs' _=>⟨s',by rw[<-e3];exact hs',rfl,rfl,λ_ h=>h⟩),λo d=>⟨(notO o d).2,λj K U=>?_⟩⟩
 ·rw[y]at M |-
  rcases y5 h.G (nth h.M i).Addr (csz (aG (nth h.M i).o)).toNat f c with g|g
  ·exact g.symm
  exact absurd g.1 M
 ·by_cases e:o=nth h.M i
  ·exfalso
   subst e;obtain⟨t,D,F⟩:=LR b d w l;exact M (by rw[y,t];exact Ey D F)
  refine⟨o,?_,cv o d f c l⟩;rw[e2];obtain⟨k,n,rfl⟩:=aM d;exact cV.2 ⟨k,n,λx=>e (by rw[x]),rfl⟩
 ·have hc16:c<16:=by
   have hm2:=List.mem_of_mem_take C;obtain⟨k,n,e⟩:=aM hm2;have:=fZ (d4.1 (b.job N).1).1 n;omega
  have key:∀p:Int,(ac (tbl h) p).j≠0->(∀c:Nat,Mp h (nth h.M i).Addr (co h.G (nth h.M i).Addr) c->c<16->(c:Int)∈h.Z.Y.U.take h.Z.b.toNat->(ac (tbl h) p).e≠(co h.G (nth h.M i).Addr:Nat))->cl h'.G (bL h.G p) c=cl h.G (bL h.G p) c:=λp hp Z=>by
   rw[y];rcases y5 h.G (nth h.M i).Addr (csz (aG (nth h.M i).o)).toNat (bL h.G p) c with g|⟨-,W,X,Y⟩
   ·exact g
   exfalso;obtain⟨t,D⟩:=ex c X Y;refine Z c t D C ?_;rw[<-W];exact l7 b.ker hp
  obtain⟨jm1,jm2⟩:=b.jobM N;exact⟨key _ jm1 λc t D F=>sf b u O N t D (List.mem_of_mem_take F),key _ jm2 λc t _ F=>Ex b u O N t hw F⟩
 obtain⟨o1,o2⟩:=notO o d;have a:=At.mk' b.ker (cT b o2 (k:=j) ⟨K,ω⟩).1;have G:At h'.G (o.Addr+j) (co h.G (o.Addr+j)) ((o.Addr+j) % 16).toNat:=by
  have e:h'.G.F.R=h.G.F.R:=J;exact⟨by rw[e];exact a.m,by rw[e];exact a.f,a.c⟩
 rw[G.cell,a.cell];exact same o o2 o1 _ _ ⟨j,K,U,a⟩
def oM(h:aA k=true)(d:∀p:Int,(ac k.F.R p).j≠0->(ac k.F.R p).e≠f)(c:Nat):cl k f c=0:=by
 obtain⟨-,i,-,j,-⟩:=aD.1 h;obtain⟨-,-,w,n⟩:=aX.1 i;unfold cl;by_cases o:f<k.F.W.U.length
 ·have r:nth k.F.W.a9 f=false:=by
   rw[j f ω,X4];intro a;obtain⟨q,y,t,u⟩:=dX.1 a;have e:ac k.F.R (q:Nat)=nth k.F.R.O q:=by unfold ac;rw[CC ⟨ω,ω⟩];rfl
   exact d (q:Nat) (by rw[e];exact t) (by rw[e];exact u)
  have b:=n f o;unfold gQ at b;rw[r]at b;simp only[I0,C0,v4]at b;by_cases g:c<(nth k.F.W.U f).length
  ·have:=b.2 _ (am g)
   unfold iB at this;rw[I0,Bool.false_or,C0,C0]at this;exact this.2
  unfold nth;rw[X2 (l:=List.getD _ _ _),W2 (by unfold nth at g;omega)];rfl
 have:nth k.F.W.U f=[]:=by
  unfold nth;rw[X2,W2 ω];rfl
 rw[this];rfl
def CI.freeL{h:ab}{E:List Int}(d:aT h E)(T:CI h){i k:Nat}(O:i<h.M.length)(r:k<h.J.length)(U:(nth h.M i).Addr=16*(nth h.J k).Q):CI (freeL h i k)/\Kp h (freeL h i k):=by
 obtain⟨V,W⟩:=tD d r;have t:=d.L.lok _ (am r);have X:=aK t;have kl:=KL.unmN d.ker V _ W;have ker:=ik d.ker (nth h.J k).Q (nth h.J k).a2.toNat;have u:=(dS h.G (nth h.J k).Q (nth h.J k).a2.toNat).1;have notO:∀o∈dele h.M i,o≠nth h.M i/\o∈h.M:=λo n=>by
  obtain⟨j,y,Y,rfl⟩:=cV.1 n;exact⟨λe=>Y (ce (f:=(·.Addr)) (cQ d.osr) y O (by rw[e])),am y⟩
 have onL:∀b:Int,(nth h.J k).Q<=b / 16->b / 16<(nth h.J k).Q+((nth h.J k).a2.toNat:Nat)->∀f c:Nat,At h.G b f c->Mp h (nth h.M i).Addr f c:=λb h1 h2 f c g=>.inr ⟨_,am r,U,b,ω,ω,g⟩
 refine CI.kern d T (λo n=>(notO o n).2) rfl rfl (λo n Z f c h16 C=>?_) (λq hq=>?_) (λhm=>?_) (λo n j D P=>?_) kl.cel (λ_ s' F _=>⟨s',F,rfl,rfl,λ_ h=>h⟩)
 ·-- the object itself
  have G:o=nth h.M i:=by
   refine Classical.byContradiction λe=>Z ?_
   obtain⟨j,y,rfl⟩:=aM n;exact cV.2 ⟨j,y,λx=>e (by rw[x]),rfl⟩
  subst G;rcases kl.cel f c with e|e
  ·refine oM ker (λp A H=>?_) c
   obtain⟨j,D,P,g⟩:=C;have hsz:(nth h.M i).o<=16*(nth h.J k).a2:=by
    rcases d.oow _ n with⟨s,J,Q,-⟩|⟨l,R,e1,e2⟩
    ·exact absurd (show s.Q=(nth h.J k).Q+((0:Nat):Int) by have:=Q.1;have:=Q.2.1;omega) (d.L.dis s J _ (am r) 0 ω)
    obtain⟨m,K,rfl⟩:=aM R;have:=d.L.one m k K r 0 0 (by have:=aK (d.L.lok _ R);omega) ω ω;subst this;unfold bH at t;rw[C0]at t;omega
   by_cases B:(nth h.J k).Q<=p/\p<(nth h.J k).Q+((nth h.J k).a2.toNat:Nat)
   ·exact A (kl.ins p B.1 B.2)
   have w:=kl.out p B;change ac (unmN h.G (nth h.J k).Q (nth h.J k).a2.toNat).F.R p=_ at w;change (ac (unmN h.G (nth h.J k).Q (nth h.J k).a2.toNat).F.R p).j≠0 at A;change (ac (unmN h.G (nth h.J k).Q (nth h.J k).a2.toNat).F.R p).e=_ at H;rw[w]at A H;have:=lO d (am r) (b:=(nth h.M i).Addr+j) ω ω g A H;omega
  exact e.1
 ·have:=kl.md u q (by show(nth (tbl (Ab.freeL h i k)).O q).j≠0;omega)
  show(nth h.G.F.R.O q).j=1;rw[<-this];exact hq
 ·obtain⟨-,⟨a,ha,M⟩,b,hb,eb⟩:=d.job hm
  have no:∀s∈h.K,¬((nth h.J k).Q<=s.Q/\s.Q<(nth h.J k).Q+((nth h.J k).a2.toNat:Nat)):=λs J B=>d.L.dis s J _ (am r) (s.Q - (nth h.J k).Q).toNat ω ω
  exact⟨by rw[<-M];exact kl.out _ (no a ha),by rw[<-eb];exact kl.out _ (no b hb)⟩
 obtain⟨o1,N⟩:=notO o n;refine kl.out _ λS=>o1 ?_
 have g:=At.mk' d.ker (cT d N (k:=j) ⟨D,ω⟩).1;have e:=wh d (jC d N ⟨j,D,P,g⟩) (onL _ S.1 S.2 _ _ g);obtain⟨m,K,rfl⟩:=aM N;rw[ce (f:=(·.Addr)) (cQ d.osr) K O e]
def CI.freeT{h:ab}{t i:Nat}(b:aT h [])(c:JI h)(d:CI h)(e:i<h.M.length)(n:t<h.S.length):CI (freeT h t i).1/\Kp h (freeT h t i).1:=by
 unfold Ab.freeT;split
 ·rename_i a
  obtain⟨l,o,f,-⟩:=(dc b (am e)).1 a;obtain⟨g,j,-⟩:=pU o f;exact CI.freeL b d e g j
 rename_i a;split
 ·exact⟨d,Cb h⟩
 rename_i k;split
 ·obtain⟨p,g⟩:=CI.clearO (h':=inQuar h i) b c d e a k rfl rfl rfl rfl rfl
  have f:=b.inQuar e a;obtain⟨q,j⟩:=CI.recycs (t:=t) (E:=[]) (az:=(rn h.a6 (gT h (nth h.M i))).map (·.Addr)) (h:=inQuar h i) (by rw[List.append_nil];exact f) n p;exact⟨q,g.trans j⟩
 split
 ·exact CI.clearO (h':=wE h t i) b c d e a k rfl rfl rfl rfl rfl
 exact⟨d,Cb h⟩
structure KA(k k':ah)(lo n:Int):Prop where
 out:∀q:Int,¬(lo<=q/\q<lo+n)->ac k'.F.R q=ac k.F.R q
 md:∀q:Nat,(nth k'.F.R.O q).j=1->(nth k.F.R.O q).j=1
 cel:∀f c:Nat,cl k' f c=cl k f c
def ME{a:ah}(b:a.F.R.O.length=k.F.R.O.length)(h:∀q:Nat,¬(lo<=q/\(q:Int)<lo+n)->nth a.F.R.O q=nth k.F.R.O q)(q:Int)(c:¬(lo<=q/\q<lo+n)):ac a.F.R q=ac k.F.R q:=by
 unfold ac;rw[b];by_cases e:0<=q/\q<k.F.R.O.length
 ·rw[CC e,CC e];exact h q.toNat ω
 rw[C9 e,C9 e]
def KA.newK{r:ah × Bool}(s:vA k p r):KA k r.1 p 1:=by
 cases e:r.2 with
 | false=>rw[s.no e];exact⟨λ_ _=>rfl,λ_ h=>h,λ_ _=>rfl⟩
 | true=>
  obtain⟨f,-,-,b,-⟩:=s.yes e;refine⟨ME s.len λq a=>by rw[b,C9 ω],λq a=>?_,λf c=>by unfold cl;rw[s.cells]⟩;rw[b]at a;split at a
  ·exact absurd a (by show ¬(2:Int)=1;decide)
  exact a
def KA.newsK{n:Nat}{r:ah × Nat}(s:mc k p n r):KA k r.1 p r.2:=by
 refine⟨ME s.len s.out,λq a=>?_,λf c=>by unfold cl;rw[s.cells]⟩;by_cases e:p<=q/\(q:Int)<p+r.2
 ·rw[(s.new q e.1 e.2).1]at a;exact absurd a (by decide)
 rw[s.out q e]at a;exact a
def oq(d:aT h E)(b:∀q:Nat,lo<=q->(q:Int)<lo+n->(nth (tbl h).O q).j=0)(a:(ac (tbl h) p).j≠0):¬(lo<=p/\p<lo+n):=λe=>by
 obtain⟨f,-,c⟩:=mR a;rw[c]at a;exact a (b p.toNat ω ω)
def CI.mapped(b:aT h E)(t:CI h)(e:KA h.G h'.G lo n)(g:∀q:Nat,lo<=q->(q:Int)<lo+n->(nth (tbl h).O q).j=0)(i:h'.M=h.M)(u:h'.Z=h.Z)(l:h'.u=h.u)(p:h.u=true->∀d∈h'.K,d.Q=h.Z.Y.a5\/d.Q=h.Z.Y.a4->d∈h.K):CI h'/\Kp h h':=by
 refine CI.kern b t (λo a=>by rw[<-i];exact a) u l (λo a r=>absurd (by rw[i];exact a) r) e.md (λa=>?_) (λo a j w C=>?_) (λf c=>.inl (e.cel f c)) (λa d r y=>⟨d,p a d r y,rfl,rfl,λ_ h=>h⟩)
 ·obtain⟨A,B⟩:=b.jobM a
  exact⟨e.out _ (oq b g A),e.out _ (oq b g B)⟩
 rw[i]at a;exact e.out _ (oq b g (cT b a (k:=j) ⟨w,ω⟩).1)
structure CA(h:ab)(r:ab):Prop where
 ci:CI r
 kp:Kp h r
 ob:r.M=h.M
def CI.slotT{h:ab}(e:CI h){i:Nat}(t:i<h.K.length)(a:fg h (nth h.K i).Q=false):CI (slotT h i):=by
 refine e.keep rfl rfl (λq h=>h) (λ_=>⟨rfl,rfl⟩) (λf c _ _=>.inl rfl) (λo g f c _ b _=>⟨o,g,b⟩) (λ_ c _=>⟨rfl,rfl⟩) λk u d l=>?_
 rcases dH d with rfl|⟨j,n,-,rfl⟩
 ·obtain⟨p,r⟩:=wK a k
  exact(l.elim p r).elim
 exact⟨_,am n,rfl,rfl,λ_ h=>h⟩
def CI.smallA{h:ab}{t c:Nat}(d:aT h [])(a:CI h)(V:t<h.S.length)(G:c<=3)(H:h.G.Calls<=90000):CA h (smallA h t c).1:=by
 unfold Ab.smallA;split
 ·exact⟨⟨a.z,a.jv,a.jd,a.jc,a.jn,a.m1,a.m2⟩,Cb h,rfl⟩
 split
 ·rename_i i D
  have o:=List.find?_some D;have b:=List.mem_range.1 (List.mem_of_find?_eq_some D);unfold tg at o;simp only[I0,C0,Bool.not_eq_true']at o;exact⟨CI.slotT a b o.2.1,Cb h,rfl⟩
 split
 ·exact⟨a,Cb h,rfl⟩
 rename_i J;have f:(au h.q 1).2.2=true:=by simpa using J
 obtain⟨K,L,r,E⟩:=jA d (v5 1) f;have s:=vA.of (p:=(au h.q 1).2.1) d.ker ω ⟨K,by have:(au h.q 1).2.1+1<=(h.G.F.R.O.length:Nat):=L;omega⟩ (r _ ω ω);have F:=KA.newK s;split
 ·obtain⟨g,j⟩:=CI.mapped (h':={h with G:=(newK h.G (au h.q 1).2.1).1}) d a F (λq u w=>r q u w) rfl rfl rfl (λ_ k b _=>b)
  exact⟨g,j,rfl⟩
 rename_i M;have A:(newK h.G (au h.q 1).2.1).2=true:=by simpa using M
 have k:vA h.G (au h.q 1).2.1 ((newK h.G (au h.q 1).2.1).1,true):=by rw[<-A];exact s
 have W:=d.addS (c:=c) ⟨ω,ω⟩ f k;have N:JK h (rr h c):=JK.addS k;have jno:∀l:h.u=true,(au h.q 1).2.1≠h.Z.Y.a5/\(au h.q 1).2.1≠h.Z.Y.a4:=λl=>by
  obtain⟨-,⟨y,O,P⟩,⟨z,Q,R⟩⟩:=d.job l;exact⟨λe=>E _ (v5 _) ω (by rw[e,<-P];exact d7 O),λe=>E _ (v5 _) ω (by rw[e,<-R];exact d7 Q)⟩
 obtain⟨g,j⟩:=CI.mapped (h':=rr h c) d a F (λq u w=>r q u w) rfl rfl rfl (λl k b S=>by
   rcases cM.1 b with rfl|b
   · obtain⟨B,C⟩:=jno l
     exact(S.elim B C).elim
   exact b)
 obtain⟨T,U⟩:=Dk (H5 (au h.q 1).2.1) h.K ⟨(au h.q 1).2.1,c,0⟩;unfold lR;split
 ·exact⟨g,j,rfl⟩
 refine⟨CI.slotT (h:=rr h c) g (i:=qL h) T ?_,j,rfl⟩;show fg (rr h c) (nth (jt (H5 (au h.q 1).2.1) h.K ⟨(au h.q 1).2.1,c,0⟩) (qL h)).Q=false;unfold qL;rw[U,N.pg,<-U5];intro n;unfold fg at n;simp only[I0,O6,C0]at n;obtain⟨B,C⟩:=jno n.1;exact n.2.elim B C
structure RK(h h':ab)(x:aY):Prop where
 mem:∀o,o∈h'.M↔o=x\/o∈h.M
 ze:∀j:Int,0<=j->j<x.o->eU h'.G (x.Addr+j)=0
 ke:∀o∈h.M,∀j:Int,0<=j->j<o.o->eU h'.G (o.Addr+j)=eU h.G (o.Addr+j)
def RK.of{g:ab}{L:List Int}{x:aY}(A:aT g E)(M:CI g)(b:aT h' L)(r:JI h')(B:CI h')(C:∀p:Int,(ac (tbl g) p).j≠0->ac (tbl h') p=ac (tbl g) p)(d:∀f c,cl h'.G f c=cl g.G f c)(l:∀o,o∈h'.M↔o=x\/o∈g.M)(N:x∉g.M)(G:h'.Z=g.Z)(O:h'.u=g.u)(D:g.M=h.M)(P:Kp h g):RK h h' x:=by
 have Q:∀o∈g.M,∀f c:Nat,qr g o f c->qr h' o f c:=λo D f c ⟨j,n,t,a⟩=>by
  have e:=C _ a.m;unfold tbl at e;exact⟨j,n,t,by rw[e];exact a.m,by rw[e];exact a.f,a.c⟩
 refine⟨λo=>by rw[l,D],λj n t=>?_,λo u j n t=>?_⟩
 ·have q:=(l x).2 (.inl rfl)
  have a:=At.mk' b.ker (cT b q (k:=j) ⟨n,ω⟩).1;rw[a.cell];refine Classical.byContradiction λH=>?_
  have w:((x.Addr+j) % 16).toNat<16:=ω
  rw[d]at H;have i:qr h' x _ _:=⟨j,n,t,a⟩
  rcases M.z _ _ w H with⟨o,u,F⟩|⟨J,R,S⟩
  ·have:=Jm b ((l o).2 (.inr u)) q (Q o u _ _ F) i
   subst this;exact N u
  refine sf b r B (by rw[O];exact J) (jC b q i) w (by rw[G];exact List.mem_of_mem_take S) ?_;rw[G,C _ (A.jobM J).1];exact R
 have K:o∈g.M:=by rw[D];exact u
 refine Eq.trans ?_ ((P o K).2 j n t);have a:=At.mk' A.ker (cT A K (k:=j) ⟨n,ω⟩).1;have e:=C _ a.m;have y:At h'.G (o.Addr+j) (co g.G (o.Addr+j)) ((o.Addr+j) % 16).toNat:=by
  unfold tbl at e;exact⟨by rw[e];exact a.m,by rw[e];exact a.f,a.c⟩
 rw[y.cell,a.cell,d]
def CI.addO{h:ab}(e:CI h)(a size t:Int):CI (addO h a size t):=
 e.keep rfl rfl (λq h=>h) (λ_=>⟨rfl,rfl⟩) (λf c _ _=>.inl rfl) (λo g f c _ b _=>⟨o,cM.2 (.inr g),b⟩) (λ_ c _=>⟨rfl,rfl⟩) λ_ i d _=>⟨i,d,rfl,rfl,λ_ h=>h⟩
structure AL(h:ab)(t size:Int)(r:ab × Int × Int):Prop where
 ci:CI r.1
 no:r.2.2≠0->r.1.M=h.M/\Kp h r.1/\r.1.b=h.b/\r.2.1 = -1
 yes:r.2.2=0->RK h r.1 ⟨h.b,r.2.1,size,t⟩/\r.1.b=h.b+1/\1<=size/\size<=1000/\0<=r.2.1
def LS(b:aT h E){t:Int} : (⟨h.b,a,size,t⟩ : aY)∉h.M:=λc=>by
 have:=(b.onu _ c).2.1;simp only at this;omega
def CI.largeA{h:ab}{t size:Int}(b:aT h [])(C:JI h)(y:CI h)(L:9<=size/\size<=1000)(D:h.b<1000000)(E:h.G.Calls<=90000)(U:0<=t/\t<=h.S.length - 1):AL h t size (largeA h t size):=by
 have hl:(gG size:Int)=(size+15) / 16:=by unfold gG;omega
 have a:=AA b L D E U;unfold Ab.largeA at a |-;by_cases F:(au h.q (gG size:Nat)).2.2=false
 ·rw[CC F]
  exact⟨y,λ_=>⟨rfl,Cb h,rfl,rfl⟩,λe=>by cases e⟩
 rw[C9 F]at a |-;have G:(au h.q (gG size:Nat)).2.2=true:=by simpa using F
 obtain⟨M,N,O,u4⟩:=jA b (show(1:Int)<=(gG size:Nat) by omega) G;have s:mc h.G (au h.q (gG size:Nat)).2.1 (gG size) (dO h size):=mc.of (p:=(au h.q (gG size:Nat)).2.1) (n:=gG size) b.ker ω ⟨M,N⟩ O (gG size) (I3 _);have d:=KA.newsK s;have V:=s.le;have i:∀q:Nat,(au h.q (gG size:Nat)).2.1<=q->(q:Int)<(au h.q (gG size:Nat)).2.1+(dO h size).2->(nth (tbl h).O q).j=0:=λq W q2=>O q W ω
 by_cases P:(dO h size).2=gG size
 ·rw[CC P]at a |-
  obtain⟨Q,H⟩:=a;have ji1:=C.keep Q H;have w:∀o,o∈(addL h (dO h size).1 (au h.q (gG size:Nat)).1 (au h.q (gG size:Nat)).2.1 (gG size:Nat) size t).M↔o = ⟨h.b,16*(au h.q (gG size:Nat)).2.1,size,t⟩\/o∈h.M:=λo=>cM
  have X:=CI.mapped (h':={h with G:=(dO h size).1}) b y d i rfl rfl rfl (λ_ A Y _=>Y);have B:CI (addL h (dO h size).1 (au h.q (gG size:Nat)).1 (au h.q (gG size:Nat)).2.1 (gG size:Nat) size t):=
   X.1.keep rfl rfl (λq h=>h) (λ_=>⟨rfl,rfl⟩) (λf c _ _=>.inl rfl) (λo l f c _ J _=>⟨o,cM.2 (.inr l),J⟩) (λ_ c _=>⟨rfl,rfl⟩) λ_ A r _=>⟨A,r,rfl,rfl,λ_ h=>h⟩
  refine⟨B,λe=>absurd rfl e,λ_=>⟨?_,rfl,ω,L.2,by show 0<=16*_;omega⟩⟩;exact RK.of (g:=h) b y Q ji1 B (λp Z=>d.out p (oq b i Z)) d.cel w (LS b) rfl rfl rfl (Cb h)
 rw[C9 P]at a |-;have K:=s.len;have kl:=KL.unmN s.ker M (dO h size).2 (by rw[K];have:(au h.q (gG size:Nat)).2.1+((gG size:Nat):Int)<=(h.G.F.R.O.length:Nat):=N;omega);have u:=((dS (dO h size).1 (au h.q (gG size:Nat)).2.1 (dO h size).2).1)
 obtain⟨B,k1⟩:=CI.kern (h':={h with G:=unmN (dO h size).1 (au h.q (gG size:Nat)).2.1 (dO h size).2}) b y (λo l=>l) rfl rfl (λo l D=>absurd l D) (λq R=>d.md q (by rw[<-kl.md u q (by show(nth (unmN (dO h size).1 _ _).F.R.O q).j≠0;have:(nth (unmN (dO h size).1 (au h.q (gG size:Nat)).2.1 (dO h size).2).F.R.O q).j=1:=R;omega)];exact R)) (λhm=>by
     obtain⟨S,T⟩:=b.jobM hm;exact⟨(kl.out _ (oq b i S)).trans (d.out _ (oq b i S)),(kl.out _ (oq b i T)).trans (d.out _ (oq b i T))⟩) (λo l j H j2=>by
     have:=oq b i (cT b l (k:=j) ⟨H,ω⟩).1;exact(kl.out _ this).trans (d.out _ this)) (λf c=>by
     rcases kl.cel f c with e|e
     · exact .inl (e.trans (d.cel f c))
     exact .inr e) (λ_ A r _=>⟨A,r,rfl,rfl,λ_ h=>h⟩)
 exact⟨B,λ_=>⟨rfl,k1,rfl,rfl⟩,λe=>by cases e⟩
def CI.allocH{h:ab}{t size:Int}(i:aT h [])(f:JI h)(j:CI h):AL h t size (allocH h t size):=by
 have a:=AN (t:=t) (size:=size) i;have no:∀n:Int,n≠0->AL h t size (h,-1,n):=λn B=>⟨j,λ_=>⟨rfl,Cb h,rfl,rfl⟩,λe=>absurd e B⟩
 unfold Ab.allocH at a |-;by_cases k:1000000<=h.b\/90000<h.G.Calls
 ·rw[CC k];exact no 5 (by decide)
 rw[C9 k]at a |-;by_cases l:¬(0<=t/\t<=h.S.length - 1)
 ·rw[CC l];exact no 1 (by decide)
 rw[C9 l]at a |-;by_cases q:¬(1<=size/\size<=1000)
 ·rw[CC q];exact no 2 (by decide)
 rw[C9 q]at a |-;by_cases u:h.c4<tP h+size
 ·rw[CC u];exact no 3 (by decide)
 rw[C9 u]at a |-;by_cases b:0<=aG size
 ·rw[CC b]at a |-
  have C:aG size<=3:=by unfold aG;repeat' split<;>omega
  have s:=ux (t:=t.toNat) (c:=(aG size).toNat) i ω ω ω;have d:=CI.smallA (t:=t.toNat) (c:=(aG size).toNat) i j ω ω ω;generalize Ab.smallA h t.toNat (aG size).toNat=r at s d a |-;by_cases e:r.2<0
  ·rw[CC e]at a |-
   exact⟨d.ci,λ_=>⟨d.ob,d.kp,s.nx,rfl⟩,λe=>by cases e⟩
  rw[C9 e]at a |-;obtain⟨w,D⟩:=a;obtain⟨y,-⟩:=s.yes ω;have A:=CI.addO d.ci r.2 size t;refine⟨A,λe=>absurd rfl e,λ_=>⟨?_,by show r.1.b+1=h.b+1;rw[s.nx],ω,ω,by show 0<=r.2;omega⟩⟩;have:=RK.of (h:=h) (g:=r.1) (x:=⟨r.1.b,r.2,size,t⟩) y d.ci w (f.keep w D) A (λp _=>rfl) (λ_ _=>rfl) (λo=>cM) (LS y) rfl rfl d.ob d.kp;rw[s.nx]at this;exact this
 rw[C9 b];have E:9<=size:=by
  unfold aG at b
  repeat' split at b<;>omega
 exact CI.largeA i f j ⟨E,ω⟩ ω ω ω
def rj(k:ah)(a v:Int)(f c:Nat):cl (dK k a v) f c=cl k f c\/(cl (dK k a v) f c=v/\f=co k a/\c=(a % 16).toNat):=by
 unfold cl dK setCell;simp only[bw];by_cases e:co k a=f/\f<k.F.W.U.length
 ·rw[CC e,bw]
  by_cases b:(a % 16).toNat=c/\c<(nth k.F.W.U (co k a)).length
  ·rw[CC b];exact .inr ⟨rfl,e.1.symm,b.1.symm⟩
  rw[C9 b,e.1];exact .inl rfl
 rw[C9 e];exact .inl rfl
variable{v:Int}
def Aq(c:aA k=true)(e:(ac k.F.R (a / 16)).j≠0):cl (dK k a v) (co k a) (a % 16).toNat=v:=by
 have d:=(gC c e).1;have b:=(tV c (f:=co k a) d).1;unfold cl dK setCell;show nth (nth (List.set _ _ _) _) _=v;rw[bw,CC ⟨rfl,d⟩,bw,CC ⟨rfl,by rw[b];omega⟩]
def HN(d:qr h o f c):qr {h with G:=dK h.G a v} o f c:=by
 obtain⟨j,e,g,b⟩:=d;exact⟨j,e,g,⟨b.m,b.f,b.c⟩⟩
def PE(d:aT h E)(q:o∈h.M){x:Int}(y:0<=x/\x<o.o)(A:0<=j/\j<o.o)(h1:At h.G (o.Addr+x) f c)(g:At h.G (o.Addr+j) f c):x=j:=by
 have B:=h1.c;have C:=g.c;rcases d.oow o q with⟨s,r,t,u⟩|⟨l,k,D,F⟩
 ·have i:=aE (d.L.sok s r)
  have a:=Bm (n:=o.o) ω;rw[<-u]at a;obtain⟨G,H,w,-⟩:=t;rcases bW i.2.2 with e|e|e|e<;>rw[e]at w a<;>omega
 have p:=d.L.lok l k;unfold bH at p;rw[C0]at p;have:=lO d k (b:=o.Addr+x) ω ω h1 g.m g.f;omega
def CI.store(b:aT h E)(A:JI h)(N:CI h)(O:i<h.M.length)(P:0<=j/\j<=(nth h.M i).o - 1)(Y:(ac (tbl h) (((nth h.M i).Addr+j) / 16)).j≠1):CI {h with G:=dK h.G ((nth h.M i).Addr+j) v}/\
  ∀o∈h.M,∀x:Int,0<=x->x<o.o->eU (dK h.G ((nth h.M i).Addr+j) v) (o.Addr+x)=if o=nth h.M i/\x=j then v else eU h.G (o.Addr+x):=by
 have g:=am O;have F:=(cT b g P).1;have G:=At.mk' b.ker F;have d:qr h (nth h.M i) _ _:=⟨j,P.1,ω,G⟩
 have r:=jC b g d;have Z:(((nth h.M i).Addr+j) % 16).toNat<16:=ω
 have key:∀p:Int,(ac (tbl h) p).j≠0->(ac (tbl h) p).e≠(co h.G ((nth h.M i).Addr+j):Nat)->∀c,cl (dK h.G ((nth h.M i).Addr+j) v) (bL h.G p) c=cl h.G (bL h.G p) c:=λp Q B c=>by
  rcases rj h.G ((nth h.M i).Addr+j) v (bL h.G p) c with e|⟨-,e,-⟩
  ·exact e
  refine absurd ?_ B;rw[<-e];exact l7 b.ker Q
 refine⟨N.keep rfl rfl (λq h=>h) (λ_=>⟨rfl,rfl⟩) (λf c _ _=>?_) (λo g f c _ d _=>⟨o,g,HN d⟩) (λH c C=>?_) (λ_ s' R _=>⟨s',R,rfl,rfl,λ_ h=>h⟩),λo g x S W=>?_⟩
 ·rcases rj h.G ((nth h.M i).Addr+j) v f c with e|⟨-,u,w⟩
  ·exact .inl e.symm
  refine .inr ⟨_,g,?_⟩;rw[u,w];exact HN d
 ·obtain⟨jm1,jm2⟩:=b.jobM H
  have J:c<16:=by
   obtain⟨k,lk,e⟩:=aM (List.mem_of_mem_take C);have:=fZ (d4.1 (b.job H).1).1 lk;omega
  constructor
  ·rcases rj h.G ((nth h.M i).Addr+j) v (bL h.G h.Z.Y.a5) c with e|⟨-,u,w⟩
   ·exact e
   exfalso;rw[<-u,<-w]at r;exact sf b A N H r J (List.mem_of_mem_take C) (l7 b.ker jm1)
  rcases rj h.G ((nth h.M i).Addr+j) v (bL h.G h.Z.Y.a4) c with e|⟨-,u,w⟩
  ·exact e
  exfalso;rw[<-u,<-w]at r;refine Ex b A N H r ?_ C (l7 b.ker jm2);rcases b.oow _ g with⟨s,hs,s1,s2⟩|⟨l,X,l1,-⟩
  ·have T:=aE (b.L.sok s hs)
   have K:=Bm (n:=(nth h.M i).o) ω;rw[<-s2]at K;obtain⟨g1,g2,g3,-⟩:=s1;have Q:((nth h.M i).Addr+j) / 16=(nth h.M i).Addr / 16:=by rcases bW T.2.2 with e|e|e|e<;>rw[e]at g3 K<;>omega
   rw[<-Q];exact Y
  intro M;obtain⟨a1,a2,a3⟩:=mR (t:=tbl h) (p:=(nth h.M i).Addr / 16) ω;rw[a3]at M;have h3:=(N.m1 _ M).2.1;obtain⟨-,-,y,hy,-,ey,-⟩:=A.sp H;have hpl:=aK (b.L.lok l X);exact b.L.dis y hy l X 0 ω ω
 have U:=(cT b g (k:=x) ⟨S,ω⟩).1;have a:=At.mk' b.ker U;have D:At (dK h.G ((nth h.M i).Addr+j) v) (o.Addr+x) (co h.G (o.Addr+x)) ((o.Addr+x) % 16).toNat:=⟨a.m,a.f,a.c⟩
 rw[D.cell,a.cell];split
 ·rename_i e
  obtain⟨u,w⟩:=e;subst u w;exact Aq b.ker F
 rename_i B;rcases rj h.G ((nth h.M i).Addr+j) v (co h.G (o.Addr+x)) ((o.Addr+x) % 16).toNat with e|⟨-,u,w⟩
 ·exact e
 exfalso;rw[u,w]at a;have V:qr h o _ _:=⟨x,S,W,a⟩
 have eo:=Jm b g (am O) V d;subst eo;refine B ⟨rfl,?_⟩;exact PE b (am O) ⟨S,W⟩ ⟨P.1,ω⟩ a G
end Go.Proofs.YtiopgblagimpmaaGreat.Ab
