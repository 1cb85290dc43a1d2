/- An object allocated: the program's. No condition. -/
import Derived.Test.YtiopgblagimpmaaGreatKbc
import Derived.Test.YtiopgblagimpmaaGreatKbh
import Derived.Test.YtiopgblagimpmaaGreatKbe
import Derived.Test.YtiopgblagimpmaaGreatKbf
import Derived.Test.YtiopgblagimpmaaGreatKbg
import Derived.ProofKit
import Derived.OpenShut
import Derived.Deep.Slices
import Derived.Deep.Fields
import Derived.ChangeSame
import Derived.WideShapes
set_option linter.unusedVariables false
set_option linter.defProp false
set_option linter.unusedSimpArgs false
set_option linter.constructorNameAsVariable false
namespace Go.Proofs.YtiopgblagimpmaaGreat.Ab
open Go.RowKit
set_option maxRecDepth 20000
set_option maxHeartbeats 4000000
def LD(k:ah)(p:Int):newsK k p 1=((newK k p).1,if(newK k p).2=true then 1 else 0):=by
 show(if(0:Nat)=0 then((newK k (p+((0:Nat):Int))).1,if(newK k (p+((0:Nat):Int))).2=true then 0+1 else 0) else(k,0))=_;rw[CD rfl,show p+((0:Nat):Int)=p by omega]
def LZ(h:ac):yV h 1=if(ax h.o 1).2.2=false then(h,-1,false)
  else if(newK h.G (ax h.o 1).2.1).2=false then({h with G:=(newK h.G (ax h.o 1).2.1).1},-1,false)
  else({h with G:=(newK h.G (ax h.o 1).2.1).1,o:=(ax h.o 1).1},(ax h.o 1).2.1,true):=by
 unfold yV;rw[show((1:Nat):Int)=1 from rfl,LD];cases e:(newK h.G (ax h.o 1).2.1).2
 ·simp[unmN]
 simp
def Ho(h:ac)(a:C):List C:=(gJ h).set 9 a
def qz(h:ac)(a:C):Prop:=fz a=.s .V (h.S.map (aE.enc .V))
variable{h:ac}
def Q9{a:C}(b:qz h a):dE (Ho h a)=ac.enc .V h:=by
 have c:dE (Ho h a)=(dE (gJ h)).set 9 (fz a):=rfl;rw[c,ix,b];rfl
def qz.own(h:ac):qz h (.s .own (h.S.map (aE.enc .own))):=by
 have a:=Z0 (λl:List C=>l[9]?) (ix h);have b:(dE (gJ h))[9]? = some (fz (.s .own (h.S.map (aE.enc .own)))):=rfl;have c:(ac.enc .V h)[9]? = some (.s .V (h.S.map (aE.enc .V))):=rfl;simp only[b,c,C1]at a;exact a
def U4(h:ac)(t c:Nat):C:=.s .own ((h.S.map (aE.enc .own)).set t [.s .own (((nth h.S t).a.map (aH .own)).set c (aH .V ((nth (nth h.S t).a c).take ((nth (nth h.S t).a c).length - 1))))])
def RW(h:ac)(t c:Nat):qz {h with S:=h.S.set t (q7 (nth h.S t) c)} (U4 h t c):=by
 have b:fz (.s .own (h.S.map (aE.enc .own)))=.s .V (h.S.map (aE.enc .V)):=qz.own h;have e:∀a:List (List C),fz (.s .own a)=.s .V (a.map dE):=λa=>by rw[RT];congr 1;apply List.map_congr_left;intro r _;rw[bY]
 unfold qz U4;rw[e]at b |-;simp only[C.s.injEq,true_and]at b |-;rw[Z6,b,Z6]
 congr 1
 have d:=Ce (q7 (nth h.S t) c);rw[Fo]at d;rw[<-d];simp only[dE,e,Z6]
 congr 3
def KX(h:ac){t:Nat}(a:t<h.S.length)(r:List C):gJ h=((gJ h).set 9 (.s .own ((h.S.map (aE.enc .own)).set t r))).set 9 (.s .own (((h.S.map (aE.enc .own)).set t r).set t (aE.enc .own (nth h.S t)))):=by
 have e:(h.S.map (aE.enc .own)).set t (aE.enc .own (nth h.S t))=h.S.map (aE.enc .own):=by
  rw[<-Z6,Kb a]
 rw[List.set_set,List.set_set,e];rfl
def xA(h:ac)(t c:Nat)(o:bc h [])(E:t<h.S.length)(T:c<=3)(r:h.G.Calls<=90000):∃W,qz (smallA h t c).1 W/\zzB 65 false [.ptr (gJ h),.val none [I (t:Nat)],.val none [I (c:Nat)]] [.ptr (Ho (smallA h t c).1 W),.val none [I (t:Nat)],.val none [I (c:Nat)]] (.tup [none,none]) [I (smallA h t c).2,B (decide (0<=(smallA h t c).2))]:=by
 have w:=o.cach _ (ar E);have hl4:=mb w;have d:=au E;have F:=wM (nth h.S t) c w T;have hls:=o.lens.spans;have C:=o;have G:=KX h E;unfold Uv at F;by_cases N:0<(nth (nth h.S t).a c).length
 ·obtain⟨O,H⟩:=o.pop E ω N (JL w c)
  have k:=jo.nn o H;unfold smallA;rw[CD N]at F |-;refine⟨U4 h t c,RW h t c,?_⟩;simp only;rw[O0 k];refine fM 86 [(186,[1,0]),(188,[2,0]),(189,[2,0]),(190,[2,0]),(4000062,[]),(5000077,[])] [(3,6,[31,32,33,34,35,36]),(8,10,[49,50,51,52,53,54,55,56,57,58])] [(0,0),(0,0),(0,0)] Tryz.func65 rfl (λu q=>?_) (.inr ⟨trivial,trivial,trivial⟩)
  repeat'(first|refine gP ?_|(conv=>whnf);first|with_reducible refine CE (aa d) ?_|refine CC ?_|refine CE (eU d) ?_|refine CG rfl (aa d) rfl ?_|refine CG rfl (eU d) rfl ?_|refine Lq.one rfl rfl (aa d) rfl (O1 rfl) rfl rfl ?_|refine CL (F) (.inl rfl) ?_|refine CC ?_|refine CQ rfl rfl (eU d) rfl (O1 rfl) (G _) ?_|refine CQ rfl rfl (aa d) rfl (O1 rfl) rfl ?_)
  refine CH rfl rfl ?_;exact wC
 rw[CB N]at F;refine⟨_,qz.own _,?_⟩;change aP _ _ _ _ [.ptr (gJ (smallA h t c).1),_,_] _ _;have e:smallA h t c=match ox h c with
  | some i=>(slotT h i,oX h i)
  | none=>if(ax h.o 1).2.2=false then(h,-1)
   else if(newK h.G (ax h.o 1).2.1).2=false then({h with G:=(newK h.G (ax h.o 1).2.1).1},-1)
   else iS (lP h c) (lR h):=by unfold smallA;exact CB N
 refine fM 86 [(186,[1,0]),(188,[2,0]),(189,[2,0]),(190,[2,0]),(4000062,[]),(5000077,[])] [(3,6,[31,32,33,34,35,36]),(8,10,[49,50,51,52,53,54,55,56,57,58])] [(0,0),(0,0),(0,0)] Tryz.func65 rfl (λu q=>?_) (.inr ⟨trivial,trivial,trivial⟩)
 repeat'(first|refine gP ?_|(conv=>whnf);first|with_reducible refine CE (aa d) ?_|refine CC ?_|refine CE (eU d) ?_|refine CG rfl (aa d) rfl ?_|refine CG rfl (eU d) rfl ?_|refine Lq.one rfl rfl (aa d) rfl (O1 rfl) rfl rfl ?_|refine CL (F) (.inl rfl) ?_|refine CC ?_|refine CQ rfl rfl (eU d) rfl (O1 rfl) (G _) ?_)
 (conv=>whnf)
 refine CJ (ι:=Nat) (λi=>[(0,.H .box (gJ h)),(2,.H .one [I ((c:Nat):Int)]),(42,.c1 0 6 [] none),(43,.H .one [I (h.J.length)]),(44,.H .one [I ((i:Nat):Int)])]) (λi=>i<=h.J.length/\∀j,j<i->nY h c j=false) (λi=>h.J.length - i) (0) ?_ (⟨X0 _,λj hj=>ω⟩) λi o=>?_
 ·exact wC
 obtain⟨hi1,J⟩:=o;by_cases K:i<h.J.length
 ·have n:=au K
  by_cases X:(nth h.J i).d=c
  ·have L:=Mg h (nth h.J i).Q
   cases P:fD h (nth h.J i).Q with
   | true=>
    rw[P]at L
    repeat'(first|refine gB ?_|(conv=>whnf);first|with_reducible refine CE (aa n) ?_|refine CC ?_|refine CG rfl (aa n) rfl ?_|refine CK (L) ⟨⟨rfl,ix h⟩,⟨rfl,rfl⟩,trivial⟩ ?_|refine CC ?_)
    ((conv=>whnf);refine CF (i+1) ⟨ω,kW (by unfold nY;rw[P];simp) J⟩ ω ?_;(exact wC))
   | false=>
    rw[P]at L;by_cases M:(gM h i).length=0
    ·have y:=zm h [] i C K M
     repeat'(first|refine gB ?_|(conv=>whnf);first|with_reducible refine CE (aa n) ?_|refine CC ?_|refine CG rfl (aa n) rfl ?_|refine CK (L) ⟨⟨rfl,ix h⟩,⟨rfl,rfl⟩,trivial⟩ ?_|refine Ch.pl ?_|refine CK (y) ⟨ix h,⟨rfl,rfl⟩,trivial⟩ ?_|refine CC ?_)
     ((conv=>whnf);refine CF (i+1) ⟨ω,kW (by unfold nY;rw[W0 (by omega:¬0<(gM h i).length)];simp) J⟩ ω ?_;(exact wC))
    have y:=oD h [] i C K;unfold iS at y;rw[CB M,O0 (by omega:0<(gM h i).length)]at y;have U:ox h c=some i:=uY K (by unfold nY;rw[O0 X,P,O0 ω];rfl) J;rw[U]at e;simp only at e;obtain⟨O,H⟩:=C.slotT K (by omega:0<(gM h i).length);have k:=jo.nn O H;rw[e];generalize slotT h i=g at y |-;generalize oX h i=a at y k |-;rw[O0 k]
    repeat'(first|refine gB ?_|(conv=>whnf);first|with_reducible refine CE (aa n) ?_|refine CC ?_|refine CG rfl (aa n) rfl ?_|refine CK (L) ⟨⟨rfl,ix h⟩,⟨rfl,rfl⟩,trivial⟩ ?_|refine Ch.lt ?_|refine CL (y) (.inl rfl) ?_|refine CC ?_)
    refine CH rfl rfl ?_;exact wC
  repeat'(first|refine gB ?_|(conv=>whnf);first|with_reducible refine CE (aa n) ?_|refine CC ?_|refine CG rfl (aa n) rfl ?_|refine CC ?_)
  ((conv=>whnf);refine CF (i+1) ⟨ω,kW (by unfold nY;rw[W0 X];rfl) J⟩ ω ?_;(exact wC))
 obtain rfl:i=h.J.length:=ω
 have U:ox h c=none:=ve J;rw[U]at e;simp only at e;have l:=oY h 1 C r ⟨ω,ω⟩;rw[LZ]at l;rw[e];by_cases Q:(ax h.o 1).2.2=false
 ·rw[CD Q]at l |-
  repeat'(first|refine gE ?_|(conv=>whnf);first|refine CC ?_|refine CL (l) (.inl rfl) ?_)
  refine CH rfl rfl ?_;exact wC
 rw[CB Q]at l |-;by_cases R:(newK h.G (ax h.o 1).2.1).2=false
 ·rw[CD R]at l |-
  repeat'(first|refine gE ?_|(conv=>whnf);first|refine CC ?_|refine CL (l) (.inl rfl) ?_)
  refine CH rfl rfl ?_;exact wC
 rw[CB R]at l |-;obtain⟨Y,Z⟩:=Gu C T r Q R;have D:=we {h with G:=(newK h.G (ax h.o 1).2.1).1,o:=(ax h.o 1).1} (ax h.o 1).2.1 (c:Nat) (by show h.J.length<=4096;omega);have S:=oD (lP h c) [] (lR h) Y Z;have V:=ni C E T r;rw[e,CB Q,CB R]at V;have k:decide (0<(gM (lP h c) (lR h)).length)=decide (0<=(iS (lP h c) (lR h)).2):=by
  unfold iS;by_cases M:(gM (lP h c) (lR h)).length=0
  ·rw[CD M,W0 ω];rfl
  rw[CB M,O0 ω];obtain⟨O,H⟩:=Y.slotT Z ω;exact(O0 (jo.nn O H)).symm
 rw[k]at S;change aP _ _ _ _ [.ptr (gJ (lP h c)),_] _ [I ((lR h:Nat):Int)]at D;generalize (ax h.o 1).2.1=p at l D;generalize lP h c=g at D S |-;generalize lR h=b at D S |-;generalize ({h with G:=(newK h.G p).1,o:=(ax h.o 1).1} : ac)=h1 at l D
 repeat'(first|refine gE ?_|(conv=>whnf);first|refine CC ?_|refine CL (l) (.inl rfl) ?_|refine CL (D) (.inl rfl) ?_|refine CL (S) (.inl rfl) ?_)
 refine CH rfl rfl ?_;exact wC
def yD(h:ac)(size:Int)(e:bc h [])(l:9<=size/\size<=1000)(n:h.G.Calls<=90000):zzB 66 false [.ptr (gJ h),.val none [I size]] [.ptr (gJ (z6 h size).1),.val none [I size]] (.tup [none,none]) [I (z6 h size).2,B (decide (0<=(z6 h size).2))]:=by
 have E:=e.lens.larges;have R:=e;have o:eX size=((gd size:Nat):Int):=by unfold eX gd;split<;>omega
 have F:1<=gd size/\gd size<=63:=by unfold gd;omega
 have g:=rh size;rw[o]at g;have a:=oY h (gd size) e n F;have c:=iu e (show(1:Int)<=(gd size:Nat) by omega);unfold yV at a;unfold z6 dH;generalize gd size=N at *;generalize ax h.o (N:Nat)=r at a c |-;obtain⟨G,p,ok⟩:=r;simp only at a c |-;refine fM 56 [(189,[2,0]),(192,[1,0,1])] [(7,268,[39,40,41,42,43,44,45,46,47,48,49,50,0,1,2,3,4,5,6,7,8,9,10,11,12,1000,13,14,15])] [(0,0),(0,0)] Tryz.func66 rfl (λu q=>?_) (.inr ⟨trivial,trivial,trivial⟩);cases ok with
 | false=>
  rw[CD rfl]at a |-
  repeat'(first|refine gP ?_|(conv=>whnf);first|refine CC ?_|refine C9 (g) ?_|refine CL (a) (.inl rfl) ?_)
  refine CH rfl rfl ?_;exact wC
 | true=>
  rw[CB (by simp)]at a |-;obtain⟨S,H,-,-⟩:=c rfl;have J:h.G.F.R.K.length<=32:=e.lens.ents;have t:p+(N:Nat)<=(h.G.F.R.K.length:Nat):=H;by_cases w:(newsK h.G p N).2=N
  ·rw[CD w]at a |-
   rw[O0 (show(0:Int)<=16*p by omega)];generalize (newsK h.G p N).1=k at a |-
   repeat'(first|refine gP ?_|(conv=>whnf);first|refine CC ?_|refine C9 (g) ?_|refine CL (a) (.inl rfl) ?_)
   (conv=>whnf)
   refine CJ (ι:=Nat) (λm=>[(0,.H .box (gJ {h with G:=k,o:=G})),(1,.H .one [I (size)]),(6,.H .one [I (p)]),(8,.H .one [I ((m:Nat):Int)])]) (λm=>m<=h.M.length/\∀(j:Nat)(z:aC),j<m->h.M[j]? = some z->PW p z=false) (λm=>h.M.length - m) (0) ?_ (⟨X0 _,λj z T=>ω⟩) λm K=>?_
   ·exact wC
   obtain⟨L,C⟩:=K;by_cases M:m<h.M.length/\(nth h.M m).Q<p
   ·have d:=au M.1
    repeat'(first|refine gP ?_|(conv=>whnf);first|refine CC ?_|refine Bf.D (λb=>?_) (λb=>absurd b (by first|omega|(simp only at *;omega)))|refine CE (aa d) ?_|refine CG rfl (aa d) rfl ?_)
    ((conv=>whnf);refine CF (m+1) ⟨ω,dY d (W0 ω) C⟩ ω ?_;(exact wC))
   have i:hC (PW p) h.M=m:=mg ω C λz l=>by
    have O:=(Z2.1 l).1;have:z=nth h.M m:=(bk l).symm;subst this;exact O0 ω
   have d:m<h.M.length->h.M[m]? = some (nth h.M m):=λP=>au P
   have Q:=DN h.M m ⟨p,(N:Nat),size⟩ ω ω;rw[kK i]
   repeat'(first|refine gP ?_|(conv=>whnf);first|refine CC ?_|refine Bf.D (λb=>?_) (λb=>absurd b (by first|omega|(simp only at *;omega)))|refine Bf.D (λb=>absurd b (by first|omega|(simp only at *;omega))) (λb=>?_)|refine Bf.D (λb=>?_) (λb=>?_)|refine CE (aa (d (by first|omega|(simp only at *;omega)))) ?_|refine CG rfl (aa (d (by first|omega|(simp only at *;omega)))) rfl ?_|refine C9 (g) ?_|refine CL (Q) (.inl rfl) ?_|refine CC ?_)
   all_goals
    refine CH rfl ?_ ?_
    ·exact Z0 (λy=>[I y,B true]) (show p*16=16*p by omega)
    exact wC
  rw[CB w]at a |-
  repeat'(first|refine gP ?_|(conv=>whnf);first|refine CC ?_|refine C9 (g) ?_|refine CL (a) (.inl rfl) ?_)
  refine CH rfl rfl ?_;exact wC
def Fe(h:ac)(t size:Int)(hs:ac.sml h)(l:bc h [])(P:jV h=true):∃E,qz (allocH h t size).1 E/\zzA 17 true [.val (some 24) (ac.enc .V h),.val none [I t],.val none [I size]] (.tup [some 24,none,none]) (Ho (allocH h t size).1 E++[I (allocH h t size).2.1,I (allocH h t size).2.2]):=by
 have hl:=l.lens;have hlc:=hl.caches;have Q:=hl.objs;have r:=l.nums;unfold cn at r;rw[C0]at r;have R:=kZ l.objSz h.O.length (W3 _);change 0<=fy h/\fy h<=_ at R;have p:=HN h hs;have o:=pk h hs;rw[P]at o;have q:=aN t 0 ((h.S.length:Int) - 1);have u:=aN size 1 1000;have F:=lG h l.objSz ω;have G:=ta size;unfold allocH;by_cases h1:1000000<=h.b
 ·rw[CD (.inl h1)]
  refine⟨_,qz.own _,?_⟩;change ay _ _ _ _ _ (gJ _++_);refine fP 108 [(65,[2,0,0]),(66,[2,0]),(67,[1,0,1])] [(8,6,[47,48,49,50,51,52])] Tryz.func17 rfl ?_ (.inl rfl)
  repeat'(first|refine gB ?_|(conv=>whnf);first|refine C9 (p) ?_|refine C9 (o) ?_)
  rfl
 by_cases h2:90000<h.G.Calls
 ·rw[CD (.inr h2)]
  refine⟨_,qz.own _,?_⟩;change ay _ _ _ _ _ (gJ _++_);refine fP 108 [(65,[2,0,0]),(66,[2,0]),(67,[1,0,1])] [(8,6,[47,48,49,50,51,52])] Tryz.func17 rfl ?_ (.inl rfl)
  repeat'(first|refine gB ?_|(conv=>whnf);first|with_reducible refine Bf.D (λb=>?_) (λb=>?_)|refine C9 (p) ?_|refine C9 (o) ?_)
  rfl
 rw[CB ω];by_cases B:¬(0<=t/\t<=h.S.length - 1)
 ·rw[CD B]
  rw[W0 B]at q;refine⟨_,qz.own _,?_⟩;change ay _ _ _ _ _ (gJ _++_);refine fP 108 [(65,[2,0,0]),(66,[2,0]),(67,[1,0,1])] [(8,6,[47,48,49,50,51,52])] Tryz.func17 rfl ?_ (.inl rfl)
  repeat'(first|refine gB ?_|(conv=>whnf);first|with_reducible refine Bf.D (λb=>?_) (λb=>?_)|refine C9 (p) ?_|refine C9 (o) ?_|refine C9 (q) ?_)
  rfl
 rw[CB B];replace B:=Decidable.not_not.1 B;rw[O0 B]at q;by_cases y:¬(1<=size/\size<=1000)
 ·rw[CD y]
  rw[W0 y]at u;refine⟨_,qz.own _,?_⟩;change ay _ _ _ _ _ (gJ _++_);refine fP 108 [(65,[2,0,0]),(66,[2,0]),(67,[1,0,1])] [(8,6,[47,48,49,50,51,52])] Tryz.func17 rfl ?_ (.inl rfl)
  repeat'(first|refine gB ?_|(conv=>whnf);first|with_reducible refine Bf.D (λb=>?_) (λb=>?_)|refine C9 (p) ?_|refine C9 (o) ?_|refine C9 (q) ?_|refine C9 (u) ?_)
  rfl
 rw[CB y];replace y:=Decidable.not_not.1 y;rw[O0 y]at u;by_cases h5:h.c0<fy h+size
 ·rw[CD h5]
  refine⟨_,qz.own _,?_⟩;change ay _ _ _ _ _ (gJ _++_);refine fP 108 [(65,[2,0,0]),(66,[2,0]),(67,[1,0,1])] [(8,6,[47,48,49,50,51,52])] Tryz.func17 rfl ?_ (.inl rfl)
  repeat'(first|refine gB ?_|(conv=>whnf);first|with_reducible refine Bf.D (λb=>?_) (λb=>?_)|refine C9 (p) ?_|refine C9 (o) ?_|refine C9 (q) ?_|refine C9 (u) ?_|refine C9 (F) ?_|refine CC ?_)
  rfl
 rw[CB h5];by_cases H:0<=aK size
 ·rw[CD H]
  have hc3:aK size<=3:=by unfold aK;repeat' split<;>omega
  obtain⟨T,rfl⟩:=O3 B.1;obtain⟨K,hK⟩:=O3 H;obtain⟨E,C,d⟩:=xA h T K l ω ω ω;have s:=ni (t:=T) (c:=K) l ω ω ω;rw[hK]at G |-;simp only[I3];generalize smallA h T K=w at d s C |-;obtain⟨g,a⟩:=w;have e:g.b=h.b:=s.nx;simp only at d |-;by_cases J:a<0
  ·rw[CD J]
   rw[W0 ω]at d;refine⟨E,C,?_⟩;refine fP 108 [(65,[2,0,0]),(66,[2,0]),(67,[1,0,1])] [(8,6,[47,48,49,50,51,52])] Tryz.func17 rfl ?_ (.inl rfl)
   repeat'(first|refine gB ?_|(conv=>whnf);first|with_reducible refine Bf.D (λb=>?_) (λb=>?_)|refine C9 (p) ?_|refine C9 (o) ?_|refine C9 (q) ?_|refine C9 (u) ?_|refine C9 (F) ?_|refine CC ?_|refine C9 (G) ?_|refine CL (d) (.inl rfl) ?_)
   rfl
  rw[CB J];rw[O0 ω]at d;obtain⟨k1,k2⟩:=s.yes (show(0:Int)<=a by omega);have S:g.O.length<=512:=k1.lens.objs;have U:1<=g.b/\g.b<=1000000:=ω
  refine⟨E,C,?_⟩;refine fP 108 [(65,[2,0,0]),(66,[2,0]),(67,[1,0,1])] [(8,6,[47,48,49,50,51,52])] Tryz.func17 rfl ?_ (.inl rfl)
  repeat'(first|refine gB ?_|(conv=>whnf);first|with_reducible refine Bf.D (λb=>?_) (λb=>?_)|refine C9 (p) ?_|refine C9 (o) ?_|refine C9 (q) ?_|refine C9 (u) ?_|refine C9 (F) ?_|refine CC ?_|refine C9 (G) ?_|refine CL (d) (.inl rfl) ?_)
  (conv=>whnf)
  refine CJ (ι:=Nat) (λi=>[(1,.H .one [I ((T:Nat):Int)]),(2,.H .one [I (size)]),(3,.H .box (ac.enc .V h)),(6,.H .box (Kq)),(9,.H .box (Ho g E)),(10,.H .one [I (a)]),(13,.H .one [I ((i:Nat):Int)])]) (λi=>i<=g.O.length/\∀(j:Nat)(z:bo),j<i->g.O[j]? = some z->Ku a z=false) (λi=>g.O.length - i) (0) ?_ (⟨X0 _,λj z hj=>ω⟩) λi l=>?_
  ·exact wC
  obtain⟨V,L⟩:=l;by_cases W:i<g.O.length/\(nth g.O i).Addr<a
  ·have k:=au W.1
   repeat'(first|refine gE ?_|(conv=>whnf);first|with_reducible refine CE (aa k) ?_|refine CG rfl (aa k) rfl ?_)
   ((conv=>whnf);refine CF (i+1) ⟨ω,dY k (W0 ω) L⟩ ω ?_;(exact wC))
  have n:hC (Ku a) g.O=i:=mg ω L λz M=>by
   have X:=(Z2.1 M).1;have:z=nth g.O i:=(bk M).symm;subst this;exact O0 ω
  have k:i<g.O.length->g.O[i]? = some (nth g.O i):=λY=>au Y
  have Z:=xR g.O i ⟨h.b,a,size,(T:Nat)⟩ ω ω;rw[show addO g a size (T:Nat) = {g with O:=g.O.take i++⟨g.b,a,size,(T:Nat)⟩::g.O.drop i,b:=g.b+1} by unfold addO;rw[kK n],e]
  repeat'(first|refine gE ?_|(conv=>whnf);first|with_reducible (first|refine CE (aa (k ω)) ?_|refine Bf.D (λb=>?_) (λb=>?_))|refine CG rfl (aa (k ω)) rfl ?_|refine CL (Z) (.inl rfl) ?_|refine CC ?_)
  all_goals
   rw[e];rfl
 rw[CB H];have N:9<=size:=by unfold aK at H;repeat' split at H<;>omega
 have d:=yD h size l ⟨N,y.2⟩ ω;rw[Bb t l ⟨N,y.2⟩];have hg:(z6 h size).1.b=h.b/\(z6 h size).1.O=h.O:=by
  unfold z6;split
  ·exact⟨rfl,rfl⟩
  split<;>exact⟨rfl,rfl⟩
 generalize z6 h size=w at d hg |-;obtain⟨g,a⟩:=w;obtain⟨e,O⟩:=hg;simp only at d e O |-;have S:g.O.length<=512:=by rw[O];exact Q
 have U:1<=g.b/\g.b<=1000000:=ω
 by_cases J:a<0
 ·rw[CD J]
  rw[W0 ω]at d;refine⟨_,qz.own _,?_⟩;change ay _ _ _ _ _ (gJ _++_);refine fP 108 [(65,[2,0,0]),(66,[2,0]),(67,[1,0,1])] [(8,6,[47,48,49,50,51,52])] Tryz.func17 rfl ?_ (.inl rfl)
  repeat'(first|refine gB ?_|(conv=>whnf);first|with_reducible refine Bf.D (λb=>?_) (λb=>?_)|refine C9 (p) ?_|refine C9 (o) ?_|refine C9 (q) ?_|refine C9 (u) ?_|refine C9 (F) ?_|refine CC ?_|refine C9 (G) ?_|refine CL (d) (.inl rfl) ?_)
  rfl
 rw[CB J];rw[O0 ω]at d;refine⟨_,qz.own _,?_⟩;change ay _ _ _ _ _ (gJ _++_);refine fP 108 [(65,[2,0,0]),(66,[2,0]),(67,[1,0,1])] [(8,6,[47,48,49,50,51,52])] Tryz.func17 rfl ?_ (.inl rfl)
 repeat'(first|refine gB ?_|(conv=>whnf);first|with_reducible refine Bf.D (λb=>?_) (λb=>?_)|refine C9 (p) ?_|refine C9 (o) ?_|refine C9 (q) ?_|refine C9 (u) ?_|refine C9 (F) ?_|refine CC ?_|refine C9 (G) ?_|refine CL (d) (.inl rfl) ?_)
 (conv=>whnf)
 refine CJ (ι:=Nat) (λi=>[(1,.H .one [I (t)]),(2,.H .one [I (size)]),(3,.H .box (ac.enc .V h)),(6,.H .box (Kq)),(9,.H .box (gJ g)),(10,.H .one [I (a)]),(13,.H .one [I ((i:Nat):Int)])]) (λi=>i<=g.O.length/\∀(j:Nat)(z:bo),j<i->g.O[j]? = some z->Ku a z=false) (λi=>g.O.length - i) (0) ?_ (⟨X0 _,λj z hj=>ω⟩) λi l=>?_
 ·exact wC
 obtain⟨V,L⟩:=l;by_cases W:i<g.O.length/\(nth g.O i).Addr<a
 ·have k:=au W.1
  repeat'(first|refine gE ?_|(conv=>whnf);first|with_reducible refine CE (aa k) ?_|refine CG rfl (aa k) rfl ?_)
  ((conv=>whnf);refine CF (i+1) ⟨ω,dY k (W0 ω) L⟩ ω ?_;(exact wC))
 have n:hC (Ku a) g.O=i:=mg ω L λz M=>by
  have X:=(Z2.1 M).1;have:z=nth g.O i:=(bk M).symm;subst this;exact O0 ω
 have k:i<g.O.length->g.O[i]? = some (nth g.O i):=λY=>au Y
 have Z:=xR g.O i ⟨h.b,a,size,t⟩ ω ω;rw[show addO g a size t = {g with O:=g.O.take i++⟨g.b,a,size,t⟩::g.O.drop i,b:=g.b+1} by unfold addO;rw[kK n],e]
 repeat'(first|refine gE ?_|(conv=>whnf);first|with_reducible (first|refine CE (aa (k ω)) ?_|refine Bf.D (λb=>?_) (λb=>?_))|refine CG rfl (aa (k ω)) rfl ?_|refine CL (Z) (.inl rfl) ?_|refine CC ?_)
 all_goals
  rw[e];rfl
def cl(k:ah)(f c:Nat):Int:=nth (nth k.F.W.T f) c
structure At(k:ah)(a:Int)(f c:Nat):Prop where
 m:(af k.F.R (a / 16)).e≠0
 f:(af k.F.R (a / 16)).j=f
 c:a % 16=c
variable{f c:Nat}{a:Int}{k:ah}
def At.cell(h:At k a f c):fe k a=cl k f c:=by
 unfold fe cl;rw[h.f,h.c,I3,I3]
def At.mk'(c:aF k=true)(b:(af k.F.R (a / 16)).e≠0):At k a (cW k a) (a % 16).toNat:=by
 obtain⟨-,-,-,d,-⟩:=bW c b;exact⟨b,by unfold cW;omega,ω⟩
def At.uniq{b d:Nat}(h:At k a f c)(h':At k a b d):f=b/\c=d:=by
 have e:=h.f;have g:=h'.f;have i:=h.c;have j:=h'.c;omega
def PQ(h:ac)(a:Int)(f c:Nat):Prop:=
 (∃s∈h.J,eK s a/\(af (tbl h) s.Q).j=f/\(c:Int) / csz s.d=d4 s a/\c<16)\/
 ∃l∈h.M,a=16*l.Q/\∃b:Int,16*l.Q<=b/\b<16*(l.Q+l.a2)/\At h.G b f c
variable{s:aA}{E:List Int}
def bc.pe(a:bc h E)(b:s∈h.J):af (tbl h) s.Q=nth (tbl h).K s.Q.toNat:=by
 obtain⟨c,d,-⟩:=a.mapped b;unfold af;rw[CD ⟨c,d⟩]
variable{b:Int}
def tK{l:aC}(a:bN l=true)(h1:16*l.Q<=b)(c:b<16*(l.Q+l.a2)):∃k:Nat,k<l.a2.toNat/\b / 16=l.Q+(k:Nat):=by
 have:=aS a;exact⟨(b / 16 - l.Q).toNat,ω,ω⟩
def mh(e:bc h E){l:aC}(i:l∈h.M)(h1:16*l.Q<=b)(o:b<16*(l.Q+l.a2))(j:At h.G b f c){q:Int}(n:(af (tbl h) q).e≠0)(g:(af (tbl h) q).j=f):q=b / 16:=by
 obtain⟨k,p,u⟩:=tK (e.L.lok l i) h1 o;obtain⟨w,y,r,-⟩:=bW e.ker j.m;obtain⟨A,B,t,-⟩:=bW e.ker n;have d:=j.f;rw[r]at d;have a:=n;change (af h.G.F.R q).e≠0 at a;change (af h.G.F.R q).j=f at g;rw[t]at a g;have:=e.pg.one l i (b / 16).toNat (dv.2 ⟨k,p,ω⟩) q.toNat (by show q.toNat<h.G.F.R.K.length;omega) a (by show _=(nth h.G.F.R.K _).j;rw[d];exact g);omega
def w5(d:bc h E)(T:PQ h a f c)(U:PQ h b f c):a=b:=by
 have G:∀s∈h.J,(af (tbl h) s.Q).j=f->∀l∈h.M,∀x:Int,16*l.Q<=x->x<16*(l.Q+l.a2)->At h.G x f c->False:=λs g V l o x H J W=>by
  obtain⟨K,t,q⟩:=d.mapped g;obtain⟨k,w,X⟩:=tK (d.L.lok l o) H J;have:=mh d o H J W (by rw[d.pe g];exact q) V;exact d.L.dis s g l o k w ω
 rcases T with⟨s,g,M,N,O,s4⟩|⟨l,o,Y,x,A,B,P⟩<;>rcases U with⟨u,r,Q,R,S,u4⟩|⟨m,p,K,y,t,q,C⟩
 ·by_cases e:s.Q=u.Q
  ·obtain⟨i,D,rfl⟩:=aO g
   obtain⟨j,F,rfl⟩:=aO r;have:=cS (f:=(·.Q)) d.L.nd D F e;subst this;exact y7 (d.L.sok _ g) M.2.2.1 Q.2.2.1 (O.symm.trans S)
  exfalso;have p:=d.pg.mesh s g u r e (by rw[<-d.pe g,<-d.pe r,N,R]);unfold meshable at p;simp only[I0,C0]at p;obtain⟨⟨o1,o2⟩,Z,-,e3⟩:=p;have b1:=(eN _ _).1 M.2.2.2;have b2:=(eN _ _).1 Q.2.2.2;have hn:(a - 16*s.Q) / csz s.d=(b - 16*u.Q) / csz u.d:=by
   have z1:d4 s a=d4 u b:=by rw[<-O,<-S,Z]
   exact z1
  have:=Z0 (λn=>Nat.testBit n ((a - 16*s.Q) / csz s.d).toNat) e3;simp only[Nat.testBit_and,Nat.zero_testBit]at this;rw[b1.2.2.2,hn,b2.2.2.2]at this;cases this
 ·exact(G s g N m p y t q C).elim
 ·exact(G u r R l o x A B P).elim
 have hq:=mh d o A B P C.m C.f;obtain⟨i,D,rfl⟩:=aO o;obtain⟨j,F,rfl⟩:=aO p;obtain⟨k,w,X⟩:=tK (d.L.lok _ o) A B;obtain⟨k',k3,k4⟩:=tK (d.L.lok _ p) t q;have:=d.L.one i j D F k k' w k3 ω;subst this;rw[Y,K]
def qj(h:ac)(o:bo)(f c:Nat):Prop:=∃j:Int,0<=j/\j<o.q/\At h.G (o.Addr+j) f c
variable{o:bo}
def jL(i:bc h E)(B:o∈h.O)(C:qj h o f c):PQ h o.Addr f c:=by
 obtain⟨k,J,K,a⟩:=C;rcases i.oow o B with⟨s,r,t,D⟩|⟨l,u,F,M⟩
 ·have b:=i.L.sok s r
  have j:=aI b;have d:=ce j.2.2;have p:=t;obtain⟨N,O,w,-⟩:=t;have g:o.q<=csz s.d:=by
   have P:=gK (n:=o.q) ω;rw[D];have:o.q=1\/o.q=2\/o.q=3\/o.q=4\/o.q=5\/o.q=6\/o.q=7\/o.q=8:=ω
   rcases this with e|e|e|e|e|e|e|e<;>rw[e]<;>decide
  have G:(o.Addr+k) / 16=s.Q:=by rcases d with e|e|e|e<;>rw[e]at w g<;>omega
  have y:=a.f;have H:=a.c;rw[G]at y;refine .inl ⟨s,r,p,y,?_,ω⟩;unfold d4;rcases d with e|e|e|e<;>rw[e]at w g |-<;>omega
 have q:=i.L.lok l u;have A:=q;unfold bN at A;rw[C0]at A;exact .inr ⟨l,u,F,o.Addr+k,ω,ω,a⟩
def BY(a:bc h E){u:bo}(b:o∈h.O)(d:u∈h.O)(h1:qj h o f c)(g:qj h u f c):o=u:=by
 have e:=w5 a (jL a b h1) (jL a d g);obtain⟨i,k,rfl⟩:=aO b;obtain⟨j,l,rfl⟩:=aO d;rw[cS (f:=(·.Addr)) (dh a.osr) k l e]
def JX(h:ac)(f c:Nat):Prop:=h.u=true/\(af (tbl h) h.Y.X.a3).j=f/\(c:Int)∈h.Y.X.T.take h.Y.b.toNat
structure CI(h:ac):Prop where
 z:∀f c:Nat,c<16->cl h.G f c≠0->(∃o∈h.O,qj h o f c)\/JX h f c
 jv:h.u=true->∀c:Nat,(c:Int)∈h.Y.X.T.take h.Y.b.toNat->cl h.G (bP h.G h.Y.X.a3) c=cl h.G (bP h.G h.Y.X.a1) c
 jd:h.u=true->∀s∈h.J,s.Q=h.Y.X.a3->∀c:Nat,c<16->(c:Int)∈h.Y.X.T->aZ s.a9 ((c:Int) / csz s.d)=false
 jc:h.u=true->∀s∈h.J,s.Q=h.Y.X.a1->∀c:Nat,c<16->aZ s.a9 ((c:Int) / csz s.d)=true->(c:Int)∈h.Y.X.T
 jn:h.u=true->(h.Y.b0=0->h.Y.b=0)/\(h.Y.b0=2->h.Y.b=h.Y.X.T.length)
 m1:∀q:Nat,(nth (tbl h).K q).e=1->h.u=true/\(q:Int)=h.Y.X.a1/\h.Y.b0≠0
 m2:h.u=true->h.Y.b0≠0->(af (tbl h) h.Y.X.a1).e=1
variable{h':ac}
theorem CI.keep(j:CI h)(g:h'.Y=h.Y)(k:h'.u=h.u)(r:∀q:Nat,(nth (tbl h').K q).e=1->(nth (tbl h).K q).e=1)(l:h.u=true->af (tbl h') h.Y.X.a3=af (tbl h) h.Y.X.a3/\af (tbl h') h.Y.X.a1=af (tbl h) h.Y.X.a1)(t:∀f c:Nat,c<16->cl h'.G f c≠0->cl h.G f c=cl h'.G f c\/∃o∈h'.O,qj h' o f c)(n:∀o∈h.O,∀f c:Nat,c<16->qj h o f c->cl h'.G f c≠0->∃F∈h'.O,qj h' F f c)(u:h.u=true->∀c:Nat,(c:Int)∈h.Y.X.T.take h.Y.b.toNat->cl h'.G (bP h.G h.Y.X.a3) c=cl h.G (bP h.G h.Y.X.a3) c/\cl h'.G (bP h.G h.Y.X.a1) c=cl h.G (bP h.G h.Y.X.a1) c)(p:h.u=true->∀d∈h'.J,d.Q=h.Y.X.a3\/d.Q=h.Y.X.a1->∃s∈h.J,s.Q=d.Q/\s.d=d.d/\∀i,aZ d.a9 i=true->aZ s.a9 i=true):CI h' where
 z f c b w:=by
  rcases t f c b w with e|e
  ·rcases j.z f c b (by rw[e];exact w) with⟨o,G,y⟩|⟨E,H,J⟩
   ·exact .inl (n o G f c b y w)
   exact .inr ⟨by rw[k];exact E,by rw[g,(l E).1];exact H,by rw[g];exact J⟩
  exact .inl e
 jv a c h2:=by
  rw[k]at a;rw[g]at h2 |-;obtain⟨K,L⟩:=u a c h2;obtain⟨M,N⟩:=l a;have O:bP h'.G h.Y.X.a3=bP h.G h.Y.X.a3:=Z0 (λe:bm=>e.j.toNat) M;have P:bP h'.G h.Y.X.a1=bP h.G h.Y.X.a1:=Z0 (λe:bm=>e.j.toNat) N;rw[O,P,K,L];exact j.jv a c h2
 jd a d hs' hp c b hcm:=by
  rw[k]at a;rw[g]at hp hcm;obtain⟨s,A,B,C,D⟩:=p a d hs' (.inl hp);have:=j.jd a s A (B.trans hp) c b hcm;rw[<-C];rw[<-C6]at this |-;exact λe=>this (D _ e)
 jc a d hs' hp c b hb:=by
  rw[k]at a;rw[g]at hp |-;obtain⟨s,A,B,C,D⟩:=p a d hs' (.inr hp);exact j.jc a s A (B.trans hp) c b (by rw[C];exact D _ hb)
 jn a:=by rw[k]at a;rw[g];exact j.jn a
 m1 q Q:=by rw[k,g];exact j.m1 q (r q Q)
 m2 a h2:=by
  rw[k]at a;rw[g]at h2 |-;rw[(l a).2];exact j.m2 a h2
def Kp(h h':ac):Prop:=∀o∈h'.O,o∈h.O/\∀j:Int,0<=j->j<o.q->fe h'.G (o.Addr+j)=fe h.G (o.Addr+j)
def Kp.refl(h:ac):Kp h h:=λ_ a=>⟨a,λ_ _ _=>rfl⟩
def CZ:type_of% @Kp.refl:=@Kp.refl
def Kp.trans{h1 c:ac}(a:Kp h h1)(b:Kp h1 c):Kp h c:=λo f=>by
 obtain⟨g,i⟩:=b o f;obtain⟨k,l⟩:=a o g;exact⟨k,λj d e=>(i j d e).trans (l j d e)⟩
def bc.jobM(c:bc h E)(f:h.u=true):(af (tbl h) h.Y.X.a3).e≠0/\(af (tbl h) h.Y.X.a1).e≠0:=by
 obtain⟨-,⟨a,d,g⟩,b,e,i⟩:=c.job f;rw[<-g,<-i,c.pe d,c.pe e];exact⟨(c.mapped d).2.2,(c.mapped e).2.2⟩
variable{p:Int}
def l9(a:aF k=true)(b:(af k.F.R p).e≠0):(af k.F.R p).j=(bP k p:Nat):=by
 obtain⟨-,-,-,c,-⟩:=bW a b;unfold bP;omega
def CI.kern(A:bc h E)(M:CI h)(n:∀o∈h'.O,o∈h.O)(N:h'.Y=h.Y)(B:h'.u=h.u)(b:∀o∈h.O,o∉h'.O->∀f c:Nat,c<16->qj h o f c->cl h'.G f c=0)(F:∀q:Nat,(nth (tbl h').K q).e=1->(nth (tbl h).K q).e=1)(d:h.u=true->af (tbl h') h.Y.X.a3=af (tbl h) h.Y.X.a3/\af (tbl h') h.Y.X.a1=af (tbl h) h.Y.X.a1)(r:∀o∈h'.O,∀j:Int,0<=j->j<o.q->af (tbl h') ((o.Addr+j) / 16)=af (tbl h) ((o.Addr+j) / 16))(t:∀f c:Nat,cl h'.G f c=cl h.G f c\/(cl h'.G f c=0/\∀p:Int,(af (tbl h') p).e≠0->(af (tbl h') p).j≠f))(G:h.u=true->∀u∈h'.J,u.Q=h.Y.X.a3\/u.Q=h.Y.X.a1->∃s∈h.J,s.Q=u.Q/\s.d=u.d/\∀i,aZ u.a9 i=true->aZ s.a9 i=true):CI h'/\Kp h h':=by
 have cov:∀o∈h'.O,∀f c:Nat,qj h o f c->qj h' o f c:=λo O f c ⟨j,w,C,l⟩=>by
  have e:=r o O j w C;unfold tbl at e;exact⟨j,w,C,by rw[e];exact l.m,by rw[e];exact l.f,l.c⟩
 have H:∀{p:Int},af (tbl h') p=af (tbl h) p->(af (tbl h) p).e≠0->∀c,cl h'.G (bP h.G p) c=cl h.G (bP h.G p) c:=fun {p} e B c=>by
  rcases t (bP h.G p) c with g|⟨-,g⟩
  ·exact g
  refine absurd ?_ (g p (by rw[e];exact B));rw[e];exact l9 A.ker B
 refine⟨M.keep N B F d (λf c _ J=>.inl ?_) (λo a f c K y J=>?_) (λD c _=>⟨H (d D).1 (A.jobM D).1 c,H (d D).2 (A.jobM D).2 c⟩) G,λo a=>⟨n o a,λj w C=>?_⟩⟩
 ·rcases t f c with g|g
  ·exact g.symm
  exact absurd g.1 J
 ·by_cases e:o∈h'.O
  ·exact⟨o,e,cov o e f c y⟩
  exact absurd (b o a e f c K y) J
 have e:=r o a j w C;have L:=(cI A (n o a) (k:=j) ⟨w,ω⟩).1;have:=H e L ((o.Addr+j) % 16).toNat;unfold fe;unfold tbl at e;rw[e];exact this
def yd(d:bc h E)(y:PQ h a f c)(n:s∈h.J)(g:oN (tbl h) s.Q)(r:(af (tbl h) s.Q).j=f):eK s a/\(c:Int) / csz s.d=d4 s a/\a / 16=s.Q:=by
 obtain⟨K,M,A⟩:=d.mapped n;rcases y with⟨u,o,p,B,C,N⟩|⟨l,q,-,b,t,w,D⟩
 ·obtain⟨O,P,F⟩:=d.mapped o
  have:=g u.Q.toNat F (by rw[<-d.pe o,<-d.pe n,B,r]);obtain⟨i,G,rfl⟩:=aO n;obtain⟨j,H,rfl⟩:=aO o;have e:=cS (f:=(·.Q)) d.L.nd G H ω;subst e;exact⟨p,C,by have:=p.1;have:=p.2.1;omega⟩
 exfalso;obtain⟨k,J,Q⟩:=tK (d.L.lok l q) t w;have:=mh d q t w D (by rw[d.pe n];exact A) r;exact d.L.dis s n l q k J ω
def sX(n:bc h E)(d:JI h)(o:CI h)(e:h.u=true)(p:PQ h a f c)(g:c<16)(i:(c:Int)∈h.Y.X.T):(af (tbl h) h.Y.X.a3).j≠f:=λq=>by
 obtain⟨s,k,b,-,j,-,-⟩:=d.sp e;obtain⟨r,t,-⟩:=yd n p k (by rw[j];exact d.sk e) (by rw[j];exact q);have:=o.jd e s k j c g i;rw[t]at this;have l:=r.2.2.2;unfold d4 at this;rw[this]at l;cases l
def FH(n:bc h E)(d:JI h)(j:CI h)(g:h.u=true)(o:PQ h a f c)(k:(af (tbl h) (a / 16)).e≠1)(e:(c:Int)∈h.Y.X.T.take h.Y.b.toNat):(af (tbl h) h.Y.X.a1).j≠f:=λp=>by
 obtain⟨-,-,b,q,-,i,-⟩:=d.sp g;obtain⟨-,-,r⟩:=yd n o q (by rw[i];exact d.sm g) (by rw[i];exact p);by_cases l:h.Y.b0=0
 ·rw[(j.jn g).1 l]at e;cases e
 have:=j.m2 g l;rw[r,i]at k;exact k this
def A6(n c:Nat):nth (List.replicate n (0:Int)) c=0:=by
 unfold nth;rw[C3,List.getElem?_replicate];split<;>rfl
structure KL(k k':ah)(lo n:Int):Prop where
 out:∀q:Int,¬(lo<=q/\q<lo+n)->af k'.F.R q=af k.F.R q
 ins:∀q:Int,lo<=q->q<lo+n->(af k'.F.R q).e=0
 cel:∀f c:Nat,cl k' f c=cl k f c\/(cl k' f c=0/\∀p:Int,(af k'.F.R p).e≠0->(af k'.F.R p).j≠f)
def Jy(k:ah)(F:Int)(f c:Nat):cl (ge k F) f c=cl k f c\/(cl (ge k F) f c=0/\F.toNat=f/\(pagesOn k.F.R F).length=0):=by
 unfold ge;split
 ·rename_i e
  unfold cl;simp only[bH];split
  ·rename_i a;exact .inr ⟨A6 _ _,a.1,e⟩
  exact .inl rfl
 exact .inl rfl
def mZ{t:aL}(h:(af t p).e≠0):0<=p/\p<t.K.length/\af t p=nth t.K p.toNat:=by
 unfold af at h |-;split
 ·rename_i e;exact⟨e.1,e.2,rfl⟩
 rename_i e;rw[CB e]at h;exact absurd rfl h
def N3{t:aL}{F:Int}(h:(pagesOn t F).length=0)(a:(af t p).e≠0):(af t p).j≠F:=λe=>by
 obtain⟨c,d,b⟩:=mZ a;rw[b]at a e;have:0<(pagesOn t F).length:=dZ.2 ⟨p.toNat,ω,a,e⟩;omega
def KL.refl(k:ah)(lo:Int):KL k k lo 0:=⟨λ_ _=>rfl,λq a b=>ω,λ_ _=>.inl rfl⟩
def KL.unmap(h:aF k=true)(j:0<=p/\p<k.F.R.K.length):KL k (cN k p) p 1:=by
 have b:=rQ h j;have d:=(lA k p).1;have i:∀q:Int,af (cN k p).F.R q=if q=p then⟨0,0⟩ else af k.F.R q:=λq=>by
  unfold af;rw[d];by_cases e:0<=q/\q<k.F.R.K.length
  ·rw[CD e,CD e,b q.toNat]
   by_cases a:q=p
   ·rw[CD a,CD ω]
   rw[CB a,CB ω]
  rw[CB e,CB e];by_cases a:q=p
  ·rw[CD a]
  rw[CB a]
 refine⟨λq g=>by rw[i,CB ω],λq t u=>by rw[i,CD ω],λf c=>?_⟩;unfold cN;split
 ·exact .inl rfl
 rename_i l;rcases Jy (lh k p) (af k.F.R p).j f c with e|⟨n,a,o⟩
 ·exact .inl e
 refine .inr ⟨n,λq g=>?_⟩;rw[(mP _ _).1]at g |-;have:=N3 o g;have r:=l9 h l;unfold bP at r;rw[<-a];omega
variable{lo n:Int}
def KL.trans{i j:ah}{m:Int}(t:0<=n/\0<=m)(a:KL k i lo n)(b:KL i j (lo+n) m):KL k j lo (n+m):=by
 refine⟨λq u=>(b.out q ω).trans (a.out q ω),λq l w=>?_,λf c=>?_⟩
 ·by_cases e:lo+n<=q
  ·exact b.ins q e ω
  rw[b.out q ω];exact a.ins q l ω
 rcases b.cel f c with e|e
 ·rcases a.cel f c with g|⟨o,r⟩
  ·exact .inl (e.trans g)
  refine .inr ⟨e.trans o,λp d=>?_⟩;by_cases h:lo+n<=p/\p<lo+n+m
  ·exact absurd (b.ins p h.1 h.2) d
  rw[b.out p h]at d |-;exact r p d
 exact .inr e
def KL.unmN{k:ah}(a:aF k=true){p:Int}(b:0<=p):∀n:Nat,p+n<=k.F.R.K.length->KL k (unmN k p n) p n
 | 0,_=>KL.refl k p
 | n+1,h=>by
  have c:=KL.unmN a b n ω;have d:=KL.unmap (gV a p n) (p:=p+n) ⟨ω,by rw[(eP k p n).1];omega⟩;have:=KL.trans ⟨ω,ω⟩ c d;rw[show((n:Nat):Int)+1=((n+1:Nat):Int) by omega]at this;exact this
def KL.md{b:ah}(a:KL k b lo n)(f:b.F.R.K.length=k.F.R.K.length)(q:Nat)(h:(nth b.F.R.K q).e≠0):nth b.F.R.K q=nth k.F.R.K q:=by
 have g:=td h;have c:af b.F.R (q:Nat)=nth b.F.R.K q:=by unfold af;rw[CD ⟨ω,ω⟩];rfl
 have d:af k.F.R (q:Nat)=nth k.F.R.K q:=by unfold af;rw[CD ⟨ω,ω⟩];rfl
 by_cases e:lo<=q/\(q:Int)<lo+n
 ·rw[<-c,a.ins q e.1 e.2]at h;exact absurd rfl h
 rw[<-c,<-d,a.out q e]
def BH(h:0<=aK n):n<=csz (aK n):=by
 have a:=gK h;have:n=1\/n=2\/n=3\/n=4\/n=5\/n=6\/n=7\/n=8:=ω
 rcases this with e|e|e|e|e|e|e|e<;>rw[e]<;>decide
def PH(k:bc h E)(p:o∈h.O)(g:¬aK o.q<0)(i:qj h o f c):f=cW h.G o.Addr/\(o.Addr % 16).toNat<=c/\c<(o.Addr % 16).toNat+(csz (aK o.q)).toNat:=by
 obtain⟨⟨s,q,r,t⟩,-⟩:=(dS k p).2 g;obtain⟨A,B,l,-⟩:=r;have a:=BH (n:=o.q) ω;have b:=ce (aI (k.L.sok s q)).2.2;rw[<-t]at a |-;obtain⟨j,C,D,d⟩:=i;have u:=d.c;have w:=d.f;have y:(o.Addr+j) / 16=o.Addr / 16:=by rcases b with e|e|e|e<;>rw[e]at l a<;>omega
 rw[y]at w;refine⟨by unfold cW;omega,?_⟩;rcases b with e|e|e|e<;>rw[e]at l a |-<;>omega
def CI.clrS{h:ac}{E:List Int}(n:bc h E)(p:CI h){i:Nat}{a:Int}(g:i<h.J.length)(l:eK (nth h.J i) a):CI (clrS h i a):=by
 have b:=n.L.sok _ (ar g);refine p.keep rfl rfl (λq h=>h) (λ_=>⟨rfl,rfl⟩) (λf c _ _=>.inl rfl) (λo r f c _ d _=>⟨o,r,d⟩) (λ_ c _=>⟨rfl,rfl⟩) λ_ w e _=>?_
 rcases ef e with rfl|⟨j,t,-,rfl⟩
 ·refine⟨_,ar g,rfl,rfl,λk u=>((Fn (dO b) (pV b ⟨l.1,l.2.1⟩) k).1 u).1⟩
 exact⟨_,ar t,rfl,rfl,λ_ h=>h⟩
variable{j:Int}
def Pm(a:bc h E)(p:o∈h.O)(h1:0<=j)(J:j<o.q)(r:s∈h.J)(T:(o.Addr+j) / 16=s.Q):eK s o.Addr:=by
 obtain⟨U,V,W⟩:=a.mapped r;have t:=(cI a p (k:=j) ⟨h1,ω⟩).1;have w:=At.mk' a.ker t;rcases jL a p ⟨j,h1,J,w⟩ with⟨u,K,G,-,-,-⟩|⟨l,b,X,-⟩
 ·rcases a.oow o p with⟨v,q,c,M⟩|⟨l,b,N,O⟩
  ·have y:=a.L.sok v q
   have A:=aI y;have B:=ce A.2.2;have C:=c;obtain⟨Y,Z,P,-⟩:=c;have D:o.q<=csz v.d:=by
    have hb:=gK (n:=o.q) ω;rw[M];have:o.q=1\/o.q=2\/o.q=3\/o.q=4\/o.q=5\/o.q=6\/o.q=7\/o.q=8:=ω
    rcases this with e|e|e|e|e|e|e|e<;>rw[e]<;>decide
   have Q:(o.Addr+j) / 16=v.Q:=by rcases B with e|e|e|e<;>rw[e]at P D<;>omega
   obtain⟨i,R,rfl⟩:=aO r;obtain⟨k,S,rfl⟩:=aO q;have:=cS (f:=(·.Q)) a.L.nd R S (by show(nth h.J i).Q=(nth h.J k).Q;omega);subst this;exact C
  exfalso;have:=aS (a.L.lok l b);exact a.L.dis u K l b 0 ω (by have:=G.1;have:=G.2.1;omega)
 exfalso;have H:=a.L.lok l b;unfold bN at H;rw[C0]at H;rcases a.oow o p with⟨v,q,c,-⟩|⟨F,d,N,O⟩
 ·exact a.L.dis v q l b 0 ω (by have:=c.1;have:=c.2.1;omega)
 have g:=a.L.lok F d;unfold bN at g;rw[C0]at g;exact a.L.dis s r F d ((o.Addr+j) / 16 - F.Q).toNat ω ω
def CI.giveP{h:ac}{E:List Int}(b:bc h E)(f:CI h){i:Nat}(e:i<h.J.length)(g:(nth h.J i).a9=0)(c:fD h (nth h.J i).Q=false):CI (giveP h i)/\Kp h (giveP h i):=by
 obtain⟨k,l,A⟩:=b.mapped (ar e);have kl:=KL.unmap b.ker (p:=(nth h.J i).Q) ⟨k,l⟩;refine CI.kern b f (λo a=>a) rfl rfl (λo a n=>absurd a n) (λq r=>?_) (λt=>?_) (λo a j u w=>?_) kl.cel (λ_ B d _=>?_)
 ·have:=kl.md (lA _ _).1 q (by show(nth (tbl (Ab.giveP h i)).K q).e≠0;omega)
  show(nth h.G.F.R.K q).e=1;rw[<-this];exact r
 ·obtain⟨C,D⟩:=xg c t
  exact⟨kl.out _ ω,kl.out _ ω⟩
 ·refine kl.out _ λF=>?_
  exact ww g _ (Pm b a u w (ar e) ω)
 obtain⟨j,y,-,rfl⟩:=di.1 d;exact⟨_,ar y,rfl,rfl,λ_ h=>h⟩
def CI.freeS{h:ac}{E:List Int}{a:Int}{i:Nat}(c:bc h (a::E))(j:CI h)(b:i<h.J.length)(d:eK (nth h.J i) a):CI (freeS h i a)/\Kp h (freeS h i a):=by
 have k:=c.give b d;have f:=CI.clrS c j b d;unfold Ab.freeS;split
 ·rename_i e
  have g:nth (Ab.clrS h i a).J i=mM (nth h.J i) (d4 (nth h.J i) a):=by unfold Ab.clrS;simp only[bH,true_and];rw[CD b]
  obtain⟨l,n⟩:=CI.giveP (h:=Ab.clrS h i a) k f (i:=i) (by unfold Ab.clrS;simp only[Z1];exact b) (by rw[g];exact e.1) (by rw[g];exact e.2);exact⟨l,n⟩
 exact⟨f,CZ h⟩
def CI.freeA{h:ac}{E:List Int}{a:Int}(b:bc h (a::E))(c:CI h):CI (freeA h a)/\Kp h (freeA h a):=by
 obtain⟨d,e,-⟩:=b.at (b.hin a (I2 ..));exact CI.freeS b c d e
def CI.recyc{h:ac}{E:List Int}{a:Int}{t:Nat}(c:bc h (a::E))(b:CI h):CI (recyc t h a)/\Kp h (recyc t h a):=by
 unfold Ab.recyc;split
 ·exact⟨⟨b.z,b.jv,b.jd,b.jc,b.jn,b.m1,b.m2⟩,CZ h⟩
 exact CI.freeA c b
def CI.recycs{t:Nat}{E:List Int} : ∀{az:List Int}{h:ac},bc h (az++E)->t<h.S.length->CI h->CI (recycs t h az)/\Kp h (recycs t h az)
 | [],h,_,_,b=>⟨b,CZ h⟩
 | a::az,h,c,d,b=>by
  obtain⟨e,f⟩:=CI.recyc (t:=t) c b;obtain⟨g,i⟩:=CI.recycs (az:=az) (h:=Ab.recyc t h a) (c.recyc d) (by rw[(nG t h a).1];exact d) e;exact⟨g,f.trans i⟩
def CI.freeAs{E:List Int} : ∀{az:List Int}{h:ac},bc h (az++E)->CI h->CI (freeAs h az)/\Kp h (freeAs h az)
 | [],h,_,b=>⟨b,CZ h⟩
 | a::az,h,c,b=>by
  obtain⟨d,e⟩:=CI.freeA c b;obtain⟨f,g⟩:=CI.freeAs (az:=az) (h:=Ab.freeA h a) c.freeA d;exact⟨f,e.trans g⟩
def CI.flushN{t:Nat}{h:ac}(c:bc h [])(d:t<h.S.length)(e:CI h):∀{k:Nat},k<=4->CI (flushN t h k).1/\Kp h (flushN t h k).1
 | 0,_=>⟨e,CZ h⟩
 | k+1,p=>by
  obtain⟨a,g⟩:=CI.flushN c d e (k:=k) ω;obtain⟨f,q,-⟩:=ju c d (k:=k) ω;have b:t<(Ab.flushN t h k).1.S.length:=ω
  have i:=mb (f.cach _ (ar b));have j:=f.spilt b (k:=k) ω;have l:CI (spilt (Ab.flushN t h k).1 t k):=⟨a.z,a.jv,a.jd,a.jc,a.jn,a.m1,a.m2⟩
  obtain⟨n,o⟩:=CI.freeAs j l;exact⟨n,g.trans o⟩
def CI.tick{h:ac}{n:Int}(c:bc h [])(a:CI h)(d:0<=n)(b:h.b1+n<=1000000):CI (tick h n)/\Kp h (tick h n):=by
 have e:=c.aged d b;have f:CI (aged h n):=⟨a.z,a.jv,a.jd,a.jc,a.jn,a.m1,a.m2⟩
 exact CI.freeAs e f
def CI.collect{h:ac}{t:Nat}(b:bc h [])(a:CI h)(c:t<h.S.length):CI (collect h t)/\Kp h (collect h t):=by
 have g:=(d8.1 b.mail).1;have d:=b.nc;have e:=b.coll (t:=t) ω;have f:CI {h with w:=lI h.w t}:=⟨a.z,a.jv,a.jd,a.jc,a.jn,a.m1,a.m2⟩
 exact CI.recycs e c f
def u5(r:List Int)(o:Nat):∀(n c:Nat),nth (lK r o n) c=if o<=c/\c<o+n then 0 else nth r c
 | 0,c=>by rw[CB ω];rfl
 | n+1,c=>by
  unfold lK;rw[bH,u5 r o n c,mL];by_cases e:o+n=c
  ·rw[CD (show o<=c/\c<o+(n+1) by omega)]
   by_cases a:c<r.length
   ·rw[CD ⟨e,a⟩]
   rw[CB ω,CB ω];unfold nth;rw[C3,z3 ω];rfl
  rw[CB ω];by_cases a:o<=c/\c<o+n
  ·rw[CD a,CD ω]
  rw[CB a,CB ω]
def xu(k:ah)(a:Int)(n f c:Nat):cl (fo k a n) f c=cl k f c\/(cl (fo k a n) f c=0/\f=cW k a/\(a % 16).toNat<=c/\c<(a % 16).toNat+n):=by
 unfold cl fo;simp only[bH];split
 ·rename_i e
  rw[u5];split
  ·rename_i b;exact .inr ⟨rfl,e.1.symm,b.1,b.2⟩
  rw[e.1];exact .inl rfl
 exact .inl rfl
def GH{n:Nat}(h1:(a % 16).toNat<=c)(b:c<(a % 16).toNat+n):cl (fo k a n) (cW k a) c=0:=by
 unfold cl fo;simp only[bH];by_cases e:cW k a<k.F.W.T.length
 ·rw[CD ⟨trivial,e⟩,u5,CD ⟨h1,b⟩]
 rw[CB (λx=>e x.2)];have:nth k.F.W.T (cW k a)=[]:=by
  unfold nth;rw[C3,z3 ω];rfl
 rw[this];rfl
variable{i:Nat}
def CI.clearO(b:bc h E)(u:JI h)(O:CI h)(P:i<h.O.length)(w:¬aK (nth h.O i).q<0)(hw:(af (tbl h) ((nth h.O i).Addr / 16)).e≠1)(y:h'.G=fo h.G (nth h.O i).Addr (csz (aK (nth h.O i).q)).toNat)(e2:h'.O=dele h.O i)(e3:h'.J=h.J)(e4:h'.Y=h.Y)(e5:h'.u=h.u):CI h'/\Kp h h':=by
 obtain⟨⟨s,H,s1,s2⟩,hc3⟩:=(dS b (ar P)).2 w;have Q:=s1;obtain⟨g1,g2,g3,-⟩:=s1;have A:=b.L.sok s H;have B:=ce (aI A).2.2;obtain⟨m1,m2,m3⟩:=b.mapped H;have R:(nth h.O i).Addr / 16=s.Q:=ω
 have J:tbl h'=tbl h:=by unfold tbl;rw[y];rfl
 have S:(af (tbl h) s.Q).j=(cW h.G (nth h.O i).Addr:Nat):=by
  unfold cW;rw[R];exact l9 b.ker (by show(af (tbl h) s.Q).e≠0;rw[b.pe H];exact m3)
 have ex:∀c:Nat,((nth h.O i).Addr % 16).toNat<=c->c<((nth h.O i).Addr % 16).toNat+(csz (aK (nth h.O i).q)).toNat->PQ h (nth h.O i).Addr (cW h.G (nth h.O i).Addr) c/\c<16:=λc h1 T=>by
  rw[<-s2]at T;have r:c<16:=by rcases B with e|e|e|e<;>rw[e]at g3 T<;>omega
  refine⟨.inl ⟨s,H,Q,S,?_,r⟩,r⟩;unfold d4;rcases B with e|e|e|e<;>rw[e]at g3 T |-<;>omega
 have cv:∀o∈h.O,∀f c:Nat,qj h o f c->qj h' o f c:=λo d f c ⟨j,K,U,a⟩=>by
  have e:h'.G.F.R=h.G.F.R:=J;exact⟨j,K,U,by rw[e];exact a.m,by rw[e];exact a.f,a.c⟩
 have same:∀o∈h.O,o≠nth h.O i->∀f c:Nat,qj h o f c->cl h'.G f c=cl h.G f c:=λo d V f c l=>by
  rw[y];rcases xu h.G (nth h.O i).Addr (csz (aK (nth h.O i).q)).toNat f c with g|⟨-,W,X,Y⟩
  ·exact g
  exfalso;have hx:=(ex c X Y).1;rw[<-W]at hx;have ea:=w5 b (jL b d l) hx;obtain⟨k,n,rfl⟩:=aO d;have:=cS (f:=(·.Addr)) (dh b.osr) n P ea;subst this;exact V rfl
 have notO:∀o∈h'.O,o≠nth h.O i/\o∈h.O:=λo d=>by
  rw[e2]at d;obtain⟨k,n,Z,rfl⟩:=di.1 d;refine⟨λe=>Z ?_,ar n⟩;exact cS (f:=(·.Addr)) (dh b.osr) n P (by rw[e])
 refine⟨O.keep e4 e5 (by rw[J];exact λq h=>h) (λ_=>by rw[J];exact⟨rfl,rfl⟩) (λf c _ M=>.inl ?_) (λo d f c r l M=>?_) (λN c C=>?_) (λ_ s' hs' _=>⟨s',by rw[<-e3];exact hs',rfl,rfl,λ_ h=>h⟩),λo d=>⟨(notO o d).2,λj K U=>?_⟩⟩
 ·rw[y]at M |-
  rcases xu h.G (nth h.O i).Addr (csz (aK (nth h.O i).q)).toNat f c with g|g
  ·exact g.symm
  exact absurd g.1 M
 ·by_cases e:o=nth h.O i
  ·exfalso
   subst e;obtain⟨t,D,F⟩:=PH b d w l;exact M (by rw[y,t];exact GH D F)
  refine⟨o,?_,cv o d f c l⟩;rw[e2];obtain⟨k,n,rfl⟩:=aO d;exact di.2 ⟨k,n,λx=>e (by rw[x]),rfl⟩
 ·have hc16:c<16:=by
   have hm2:=List.mem_of_mem_take C;obtain⟨k,n,e⟩:=aO hm2;have:=gn (dw.1 (b.job N).1).1 n;omega
  have key:∀p:Int,(af (tbl h) p).e≠0->(∀c:Nat,PQ h (nth h.O i).Addr (cW h.G (nth h.O i).Addr) c->c<16->(c:Int)∈h.Y.X.T.take h.Y.b.toNat->(af (tbl h) p).j≠(cW h.G (nth h.O i).Addr:Nat))->cl h'.G (bP h.G p) c=cl h.G (bP h.G p) c:=λp hp Z=>by
   rw[y];rcases xu h.G (nth h.O i).Addr (csz (aK (nth h.O i).q)).toNat (bP h.G p) c with g|⟨-,W,X,Y⟩
   ·exact g
   exfalso;obtain⟨t,D⟩:=ex c X Y;refine Z c t D C ?_;rw[<-W];exact l9 b.ker hp
  obtain⟨jm1,jm2⟩:=b.jobM N;exact⟨key _ jm1 λc t D F=>sX b u O N t D (List.mem_of_mem_take F),key _ jm2 λc t _ F=>FH b u O N t hw F⟩
 obtain⟨o1,o2⟩:=notO o d;have a:=At.mk' b.ker (cI b o2 (k:=j) ⟨K,ω⟩).1;have G:At h'.G (o.Addr+j) (cW h.G (o.Addr+j)) ((o.Addr+j) % 16).toNat:=by
  have e:h'.G.F.R=h.G.F.R:=J;exact⟨by rw[e];exact a.m,by rw[e];exact a.f,a.c⟩
 rw[G.cell,a.cell];exact same o o2 o1 _ _ ⟨j,K,U,a⟩
def oW(h:aF k=true)(d:∀p:Int,(af k.F.R p).e≠0->(af k.F.R p).j≠f)(c:Nat):cl k f c=0:=by
 obtain⟨-,i,-,j,-⟩:=aG.1 h;obtain⟨-,-,w,n⟩:=bf.1 i;unfold cl;by_cases o:f<k.F.W.T.length
 ·have r:nth k.F.W.a5 f=false:=by
   rw[j f ω,z5];intro a;obtain⟨q,y,t,u⟩:=dZ.1 a;have e:af k.F.R (q:Nat)=nth k.F.R.K q:=by unfold af;rw[CD ⟨ω,ω⟩];rfl
   exact d (q:Nat) (by rw[e];exact t) (by rw[e];exact u)
  have b:=n f o;unfold gX at b;rw[r]at b;simp only[I0,C0,O4]at b;by_cases g:c<(nth k.F.W.T f).length
  ·have:=b.2 _ (ar g)
   unfold iJ at this;rw[I0,Bool.false_or,C0,C0]at this;exact this.2
  unfold nth;rw[C3 (l:=List.getD _ _ _),z3 (by unfold nth at g;omega)];rfl
 have:nth k.F.W.T f=[]:=by
  unfold nth;rw[C3,z3 ω];rfl
 rw[this];rfl
def CI.freeL{h:ac}{E:List Int}(d:bc h E)(T:CI h){i k:Nat}(O:i<h.O.length)(r:k<h.M.length)(U:(nth h.O i).Addr=16*(nth h.M k).Q):CI (freeL h i k)/\Kp h (freeL h i k):=by
 obtain⟨V,W⟩:=uv d r;have t:=d.L.lok _ (ar r);have X:=aS t;have kl:=KL.unmN d.ker V _ W;have ker:=gV d.ker (nth h.M k).Q (nth h.M k).a2.toNat;have u:=(eP h.G (nth h.M k).Q (nth h.M k).a2.toNat).1;have notO:∀o∈dele h.O i,o≠nth h.O i/\o∈h.O:=λo n=>by
  obtain⟨j,y,Y,rfl⟩:=di.1 n;exact⟨λe=>Y (cS (f:=(·.Addr)) (dh d.osr) y O (by rw[e])),ar y⟩
 have onL:∀b:Int,(nth h.M k).Q<=b / 16->b / 16<(nth h.M k).Q+((nth h.M k).a2.toNat:Nat)->∀f c:Nat,At h.G b f c->PQ h (nth h.O i).Addr f c:=λb h1 h2 f c g=>.inr ⟨_,ar r,U,b,ω,ω,g⟩
 refine CI.kern d T (λo n=>(notO o n).2) rfl rfl (λo n Z f c h16 C=>?_) (λq hq=>?_) (λhm=>?_) (λo n j D P=>?_) kl.cel (λ_ s' F _=>⟨s',F,rfl,rfl,λ_ h=>h⟩)
 ·-- the object itself
  have G:o=nth h.O i:=by
   refine Classical.byContradiction λe=>Z ?_
   obtain⟨j,y,rfl⟩:=aO n;exact di.2 ⟨j,y,λx=>e (by rw[x]),rfl⟩
  subst G;rcases kl.cel f c with e|e
  ·refine oW ker (λp A H=>?_) c
   obtain⟨j,D,P,g⟩:=C;have hsz:(nth h.O i).q<=16*(nth h.M k).a2:=by
    rcases d.oow _ n with⟨s,J,Q,-⟩|⟨l,R,e1,e2⟩
    ·exact absurd (show s.Q=(nth h.M k).Q+((0:Nat):Int) by have:=Q.1;have:=Q.2.1;omega) (d.L.dis s J _ (ar r) 0 ω)
    obtain⟨m,K,rfl⟩:=aO R;have:=d.L.one m k K r 0 0 (by have:=aS (d.L.lok _ R);omega) ω ω;subst this;unfold bN at t;rw[C0]at t;omega
   by_cases B:(nth h.M k).Q<=p/\p<(nth h.M k).Q+((nth h.M k).a2.toNat:Nat)
   ·exact A (kl.ins p B.1 B.2)
   have w:=kl.out p B;change af (unmN h.G (nth h.M k).Q (nth h.M k).a2.toNat).F.R p=_ at w;change (af (unmN h.G (nth h.M k).Q (nth h.M k).a2.toNat).F.R p).e≠0 at A;change (af (unmN h.G (nth h.M k).Q (nth h.M k).a2.toNat).F.R p).j=_ at H;rw[w]at A H;have:=mh d (ar r) (b:=(nth h.O i).Addr+j) ω ω g A H;omega
  exact e.1
 ·have:=kl.md u q (by show(nth (tbl (Ab.freeL h i k)).K q).e≠0;omega)
  show(nth h.G.F.R.K q).e=1;rw[<-this];exact hq
 ·obtain⟨-,⟨a,ha,M⟩,b,hb,eb⟩:=d.job hm
  have no:∀s∈h.J,¬((nth h.M k).Q<=s.Q/\s.Q<(nth h.M k).Q+((nth h.M k).a2.toNat:Nat)):=λs J B=>d.L.dis s J _ (ar r) (s.Q - (nth h.M k).Q).toNat ω ω
  exact⟨by rw[<-M];exact kl.out _ (no a ha),by rw[<-eb];exact kl.out _ (no b hb)⟩
 obtain⟨o1,N⟩:=notO o n;refine kl.out _ λS=>o1 ?_
 have g:=At.mk' d.ker (cI d N (k:=j) ⟨D,ω⟩).1;have e:=w5 d (jL d N ⟨j,D,P,g⟩) (onL _ S.1 S.2 _ _ g);obtain⟨m,K,rfl⟩:=aO N;rw[cS (f:=(·.Addr)) (dh d.osr) K O e]
def CI.freeT{h:ac}{t i:Nat}(b:bc h [])(c:JI h)(d:CI h)(e:i<h.O.length)(n:t<h.S.length):CI (freeT h t i).1/\Kp h (freeT h t i).1:=by
 unfold Ab.freeT;split
 ·rename_i a
  obtain⟨l,o,f,-⟩:=(dS b (ar e)).1 a;obtain⟨g,j,-⟩:=wx o f;exact CI.freeL b d e g j
 rename_i a;split
 ·exact⟨d,CZ h⟩
 rename_i k;split
 ·obtain⟨p,g⟩:=CI.clearO (h':=inQuar h i) b c d e a k rfl rfl rfl rfl rfl
  have f:=b.inQuar e a;obtain⟨q,j⟩:=CI.recycs (t:=t) (E:=[]) (az:=(zO h.a7 (lr h (nth h.O i))).map (·.Addr)) (h:=inQuar h i) (by rw[List.append_nil];exact f) n p;exact⟨q,g.trans j⟩
 split
 ·exact CI.clearO (h':=NE h t i) b c d e a k rfl rfl rfl rfl rfl
 exact⟨d,CZ h⟩
structure KA(k k':ah)(lo n:Int):Prop where
 out:∀q:Int,¬(lo<=q/\q<lo+n)->af k'.F.R q=af k.F.R q
 md:∀q:Nat,(nth k'.F.R.K q).e=1->(nth k.F.R.K q).e=1
 cel:∀f c:Nat,cl k' f c=cl k f c
def Mr{a:ah}(b:a.F.R.K.length=k.F.R.K.length)(h:∀q:Nat,¬(lo<=q/\(q:Int)<lo+n)->nth a.F.R.K q=nth k.F.R.K q)(q:Int)(c:¬(lo<=q/\q<lo+n)):af a.F.R q=af k.F.R q:=by
 unfold af;rw[b];by_cases e:0<=q/\q<k.F.R.K.length
 ·rw[CD e,CD e];exact h q.toNat ω
 rw[CB e,CB e]
def KA.newK{r:ah × Bool}(s:wb k p r):KA k r.1 p 1:=by
 cases e:r.2 with
 | false=>rw[s.no e];exact⟨λ_ _=>rfl,λ_ h=>h,λ_ _=>rfl⟩
 | true=>
  obtain⟨f,-,-,b,-⟩:=s.yes e;refine⟨Mr s.len λq a=>by rw[b,CB ω],λq a=>?_,λf c=>by unfold cl;rw[s.cells]⟩;rw[b]at a;split at a
  ·exact absurd a (by show ¬(2:Int)=1;decide)
  exact a
def KA.newsK{n:Nat}{r:ah × Nat}(s:jm k p n r):KA k r.1 p r.2:=by
 refine⟨Mr s.len s.out,λq a=>?_,λf c=>by unfold cl;rw[s.cells]⟩;by_cases e:p<=q/\(q:Int)<p+r.2
 ·rw[(s.new q e.1 e.2).1]at a;exact absurd a (by decide)
 rw[s.out q e]at a;exact a
def nE(d:bc h E)(b:∀q:Nat,lo<=q->(q:Int)<lo+n->(nth (tbl h).K q).e=0)(a:(af (tbl h) p).e≠0):¬(lo<=p/\p<lo+n):=λe=>by
 obtain⟨f,-,c⟩:=mZ a;rw[c]at a;exact a (b p.toNat ω ω)
def CI.mapped(b:bc h E)(t:CI h)(e:KA h.G h'.G lo n)(g:∀q:Nat,lo<=q->(q:Int)<lo+n->(nth (tbl h).K q).e=0)(i:h'.O=h.O)(u:h'.Y=h.Y)(l:h'.u=h.u)(p:h.u=true->∀d∈h'.J,d.Q=h.Y.X.a3\/d.Q=h.Y.X.a1->d∈h.J):CI h'/\Kp h h':=by
 refine CI.kern b t (λo a=>by rw[<-i];exact a) u l (λo a r=>absurd (by rw[i];exact a) r) e.md (λa=>?_) (λo a j w C=>?_) (λf c=>.inl (e.cel f c)) (λa d r y=>⟨d,p a d r y,rfl,rfl,λ_ h=>h⟩)
 ·obtain⟨A,B⟩:=b.jobM a
  exact⟨e.out _ (nE b g A),e.out _ (nE b g B)⟩
 rw[i]at a;exact e.out _ (nE b g (cI b a (k:=j) ⟨w,ω⟩).1)
structure CA(h:ac)(r:ac):Prop where
 ci:CI r
 kp:Kp h r
 ob:r.O=h.O
def CI.slotT{h:ac}(e:CI h){i:Nat}(t:i<h.J.length)(a:fD h (nth h.J i).Q=false):CI (slotT h i):=by
 refine e.keep rfl rfl (λq h=>h) (λ_=>⟨rfl,rfl⟩) (λf c _ _=>.inl rfl) (λo g f c _ b _=>⟨o,g,b⟩) (λ_ c _=>⟨rfl,rfl⟩) λk u d l=>?_
 rcases ef d with rfl|⟨j,n,-,rfl⟩
 ·obtain⟨p,r⟩:=xg a k
  exact(l.elim p r).elim
 exact⟨_,ar n,rfl,rfl,λ_ h=>h⟩
def CI.smallA{h:ac}{t c:Nat}(d:bc h [])(a:CI h)(V:t<h.S.length)(G:c<=3)(H:h.G.Calls<=90000):CA h (smallA h t c).1:=by
 unfold Ab.smallA;split
 ·exact⟨⟨a.z,a.jv,a.jd,a.jc,a.jn,a.m1,a.m2⟩,CZ h,rfl⟩
 split
 ·rename_i i D
  have o:=List.find?_some D;have b:=List.mem_range.1 (List.mem_of_find?_eq_some D);unfold nY at o;simp only[I0,C0,Bool.not_eq_true']at o;exact⟨CI.slotT a b o.2.1,CZ h,rfl⟩
 split
 ·exact⟨a,CZ h,rfl⟩
 rename_i J;have f:(ax h.o 1).2.2=true:=by simpa using J
 obtain⟨K,L,r,E⟩:=iu d (V5 1) f;have s:=wb.of (p:=(ax h.o 1).2.1) d.ker ω ⟨K,by have:(ax h.o 1).2.1+1<=(h.G.F.R.K.length:Nat):=L;omega⟩ (r _ ω ω);have F:=KA.newK s;split
 ·obtain⟨g,j⟩:=CI.mapped (h':={h with G:=(newK h.G (ax h.o 1).2.1).1}) d a F (λq u w=>r q u w) rfl rfl rfl (λ_ k b _=>b)
  exact⟨g,j,rfl⟩
 rename_i M;have A:(newK h.G (ax h.o 1).2.1).2=true:=by simpa using M
 have k:wb h.G (ax h.o 1).2.1 ((newK h.G (ax h.o 1).2.1).1,true):=by rw[<-A];exact s
 have W:=d.addS (c:=c) ⟨ω,ω⟩ f k;have N:JK h (lP h c):=JK.addS k;have jno:∀l:h.u=true,(ax h.o 1).2.1≠h.Y.X.a3/\(ax h.o 1).2.1≠h.Y.X.a1:=λl=>by
  obtain⟨-,⟨y,O,P⟩,⟨z,Q,R⟩⟩:=d.job l;exact⟨λe=>E _ (V5 _) ω (by rw[e,<-P];exact d7 O),λe=>E _ (V5 _) ω (by rw[e,<-R];exact d7 Q)⟩
 obtain⟨g,j⟩:=CI.mapped (h':=lP h c) d a F (λq u w=>r q u w) rfl rfl rfl (λl k b S=>by
   rcases cK.1 b with rfl|b
   · obtain⟨B,C⟩:=jno l
     exact(S.elim B C).elim
   exact b)
 obtain⟨T,U⟩:=DO (DJ (ax h.o 1).2.1) h.J ⟨(ax h.o 1).2.1,c,0⟩;unfold iS;split
 ·exact⟨g,j,rfl⟩
 refine⟨CI.slotT (h:=lP h c) g (i:=lR h) T ?_,j,rfl⟩;show fD (lP h c) (nth (im (DJ (ax h.o 1).2.1) h.J ⟨(ax h.o 1).2.1,c,0⟩) (lR h)).Q=false;unfold lR;rw[U,N.pg,<-C6];intro n;unfold fD at n;simp only[I0,C7,C0]at n;obtain⟨B,C⟩:=jno n.1;exact n.2.elim B C
structure PS(h h':ac)(x:bo):Prop where
 mem:∀o,o∈h'.O↔o=x\/o∈h.O
 ze:∀j:Int,0<=j->j<x.q->fe h'.G (x.Addr+j)=0
 ke:∀o∈h.O,∀j:Int,0<=j->j<o.q->fe h'.G (o.Addr+j)=fe h.G (o.Addr+j)
variable{x:bo}
def PS.of{g:ac}{L:List Int}(A:bc g E)(M:CI g)(b:bc h' L)(r:JI h')(B:CI h')(C:∀p:Int,(af (tbl g) p).e≠0->af (tbl h') p=af (tbl g) p)(d:∀f c,cl h'.G f c=cl g.G f c)(l:∀o,o∈h'.O↔o=x\/o∈g.O)(N:x∉g.O)(G:h'.Y=g.Y)(O:h'.u=g.u)(D:g.O=h.O)(P:Kp h g):PS h h' x:=by
 have Q:∀o∈g.O,∀f c:Nat,qj g o f c->qj h' o f c:=λo D f c ⟨j,n,t,a⟩=>by
  have e:=C _ a.m;unfold tbl at e;exact⟨j,n,t,by rw[e];exact a.m,by rw[e];exact a.f,a.c⟩
 refine⟨λo=>by rw[l,D],λj n t=>?_,λo u j n t=>?_⟩
 ·have q:=(l x).2 (.inl rfl)
  have a:=At.mk' b.ker (cI b q (k:=j) ⟨n,ω⟩).1;rw[a.cell];refine Classical.byContradiction λH=>?_
  have w:((x.Addr+j) % 16).toNat<16:=ω
  rw[d]at H;have i:qj h' x _ _:=⟨j,n,t,a⟩
  rcases M.z _ _ w H with⟨o,u,F⟩|⟨J,R,S⟩
  ·have:=BY b ((l o).2 (.inr u)) q (Q o u _ _ F) i
   subst this;exact N u
  refine sX b r B (by rw[O];exact J) (jL b q i) w (by rw[G];exact List.mem_of_mem_take S) ?_;rw[G,C _ (A.jobM J).1];exact R
 have K:o∈g.O:=by rw[D];exact u
 refine Eq.trans ?_ ((P o K).2 j n t);have a:=At.mk' A.ker (cI A K (k:=j) ⟨n,ω⟩).1;have e:=C _ a.m;have y:At h'.G (o.Addr+j) (cW g.G (o.Addr+j)) ((o.Addr+j) % 16).toNat:=by
  unfold tbl at e;exact⟨by rw[e];exact a.m,by rw[e];exact a.f,a.c⟩
 rw[y.cell,a.cell,d]
def CI.addO{h:ac}(e:CI h)(a size t:Int):CI (addO h a size t):=
 e.keep rfl rfl (λq h=>h) (λ_=>⟨rfl,rfl⟩) (λf c _ _=>.inl rfl) (λo g f c _ b _=>⟨o,cK.2 (.inr g),b⟩) (λ_ c _=>⟨rfl,rfl⟩) λ_ i d _=>⟨i,d,rfl,rfl,λ_ h=>h⟩
structure AL(h:ac)(t size:Int)(r:ac × Int × Int):Prop where
 ci:CI r.1
 no:r.2.2≠0->r.1.O=h.O/\Kp h r.1/\r.1.b=h.b/\r.2.1 = -1
 yes:r.2.2=0->PS h r.1 ⟨h.b,r.2.1,size,t⟩/\r.1.b=h.b+1/\1<=size/\size<=1000/\0<=r.2.1
variable{size:Int}
def HK(b:bc h E){t:Int} : (⟨h.b,a,size,t⟩ : bo)∉h.O:=λc=>by
 have:=(b.onu _ c).2.1;simp only at this;omega
def CI.largeA{h:ac}{t size:Int}(b:bc h [])(C:JI h)(y:CI h)(L:9<=size/\size<=1000)(D:h.b<1000000)(E:h.G.Calls<=90000)(U:0<=t/\t<=h.S.length - 1):AL h t size (largeA h t size):=by
 have hl:(gd size:Int)=(size+15) / 16:=by unfold gd;omega
 have a:=AR b L D E U;unfold Ab.largeA at a |-;by_cases F:(ax h.o (gd size:Nat)).2.2=false
 ·rw[CD F]
  exact⟨y,λ_=>⟨rfl,CZ h,rfl,rfl⟩,λe=>by cases e⟩
 rw[CB F]at a |-;have G:(ax h.o (gd size:Nat)).2.2=true:=by simpa using F
 obtain⟨M,N,O,u4⟩:=iu b (show(1:Int)<=(gd size:Nat) by omega) G;have s:jm h.G (ax h.o (gd size:Nat)).2.1 (gd size) (dH h size):=jm.of (p:=(ax h.o (gd size:Nat)).2.1) (n:=gd size) b.ker ω ⟨M,N⟩ O (gd size) (W3 _);have d:=KA.newsK s;have V:=s.le;have i:∀q:Nat,(ax h.o (gd size:Nat)).2.1<=q->(q:Int)<(ax h.o (gd size:Nat)).2.1+(dH h size).2->(nth (tbl h).K q).e=0:=λq W q2=>O q W ω
 by_cases P:(dH h size).2=gd size
 ·rw[CD P]at a |-
  obtain⟨Q,H⟩:=a;have ji1:=C.keep Q H;have w:∀o,o∈(addL h (dH h size).1 (ax h.o (gd size:Nat)).1 (ax h.o (gd size:Nat)).2.1 (gd size:Nat) size t).O↔o = ⟨h.b,16*(ax h.o (gd size:Nat)).2.1,size,t⟩\/o∈h.O:=λo=>cK
  have X:=CI.mapped (h':={h with G:=(dH h size).1}) b y d i rfl rfl rfl (λ_ A Y _=>Y);have B:CI (addL h (dH h size).1 (ax h.o (gd size:Nat)).1 (ax h.o (gd size:Nat)).2.1 (gd size:Nat) size t):=
   X.1.keep rfl rfl (λq h=>h) (λ_=>⟨rfl,rfl⟩) (λf c _ _=>.inl rfl) (λo l f c _ J _=>⟨o,cK.2 (.inr l),J⟩) (λ_ c _=>⟨rfl,rfl⟩) λ_ A r _=>⟨A,r,rfl,rfl,λ_ h=>h⟩
  refine⟨B,λe=>absurd rfl e,λ_=>⟨?_,rfl,ω,L.2,by show 0<=16*_;omega⟩⟩;exact PS.of (g:=h) b y Q ji1 B (λp Z=>d.out p (nE b i Z)) d.cel w (HK b) rfl rfl rfl (CZ h)
 rw[CB P]at a |-;have K:=s.len;have kl:=KL.unmN s.ker M (dH h size).2 (by rw[K];have:(ax h.o (gd size:Nat)).2.1+((gd size:Nat):Int)<=(h.G.F.R.K.length:Nat):=N;omega);have u:=((eP (dH h size).1 (ax h.o (gd size:Nat)).2.1 (dH h size).2).1)
 obtain⟨B,k1⟩:=CI.kern (h':={h with G:=unmN (dH h size).1 (ax h.o (gd size:Nat)).2.1 (dH h size).2}) b y (λo l=>l) rfl rfl (λo l D=>absurd l D) (λq R=>d.md q (by rw[<-kl.md u q (by show(nth (unmN (dH h size).1 _ _).F.R.K q).e≠0;have:(nth (unmN (dH h size).1 (ax h.o (gd size:Nat)).2.1 (dH h size).2).F.R.K q).e=1:=R;omega)];exact R)) (λhm=>by
     obtain⟨S,T⟩:=b.jobM hm;exact⟨(kl.out _ (nE b i S)).trans (d.out _ (nE b i S)),(kl.out _ (nE b i T)).trans (d.out _ (nE b i T))⟩) (λo l j H j2=>by
     have:=nE b i (cI b l (k:=j) ⟨H,ω⟩).1;exact(kl.out _ this).trans (d.out _ this)) (λf c=>by
     rcases kl.cel f c with e|e
     · exact .inl (e.trans (d.cel f c))
     exact .inr e) (λ_ A r _=>⟨A,r,rfl,rfl,λ_ h=>h⟩)
 exact⟨B,λ_=>⟨rfl,k1,rfl,rfl⟩,λe=>by cases e⟩
def CI.allocH{h:ac}{t size:Int}(i:bc h [])(f:JI h)(j:CI h):AL h t size (allocH h t size):=by
 have a:=qa (t:=t) (size:=size) i;have no:∀n:Int,n≠0->AL h t size (h,-1,n):=λn B=>⟨j,λ_=>⟨rfl,CZ h,rfl,rfl⟩,λe=>absurd e B⟩
 unfold Ab.allocH at a |-;by_cases k:1000000<=h.b\/90000<h.G.Calls
 ·rw[CD k];exact no 5 (by decide)
 rw[CB k]at a |-;by_cases l:¬(0<=t/\t<=h.S.length - 1)
 ·rw[CD l];exact no 1 (by decide)
 rw[CB l]at a |-;by_cases q:¬(1<=size/\size<=1000)
 ·rw[CD q];exact no 2 (by decide)
 rw[CB q]at a |-;by_cases u:h.c0<fy h+size
 ·rw[CD u];exact no 3 (by decide)
 rw[CB u]at a |-;by_cases b:0<=aK size
 ·rw[CD b]at a |-
  have C:aK size<=3:=by unfold aK;repeat' split<;>omega
  have s:=ni (t:=t.toNat) (c:=(aK size).toNat) i ω ω ω;have d:=CI.smallA (t:=t.toNat) (c:=(aK size).toNat) i j ω ω ω;generalize Ab.smallA h t.toNat (aK size).toNat=r at s d a |-;by_cases e:r.2<0
  ·rw[CD e]at a |-
   exact⟨d.ci,λ_=>⟨d.ob,d.kp,s.nx,rfl⟩,λe=>by cases e⟩
  rw[CB e]at a |-;obtain⟨w,D⟩:=a;obtain⟨y,-⟩:=s.yes ω;have A:=CI.addO d.ci r.2 size t;refine⟨A,λe=>absurd rfl e,λ_=>⟨?_,by show r.1.b+1=h.b+1;rw[s.nx],ω,ω,by show 0<=r.2;omega⟩⟩;have:=PS.of (h:=h) (g:=r.1) (x:=⟨r.1.b,r.2,size,t⟩) y d.ci w (f.keep w D) A (λp _=>rfl) (λ_ _=>rfl) (λo=>cK) (HK y) rfl rfl d.ob d.kp;rw[s.nx]at this;exact this
 rw[CB b];have E:9<=size:=by
  unfold aK at b
  repeat' split at b<;>omega
 exact CI.largeA i f j ⟨E,ω⟩ ω ω ω
def rm(k:ah)(a v:Int)(f c:Nat):cl (dJ k a v) f c=cl k f c\/(cl (dJ k a v) f c=v/\f=cW k a/\c=(a % 16).toNat):=by
 unfold cl dJ setCell;simp only[bH];by_cases e:cW k a=f/\f<k.F.W.T.length
 ·rw[CD e,bH]
  by_cases b:(a % 16).toNat=c/\c<(nth k.F.W.T (cW k a)).length
  ·rw[CD b];exact .inr ⟨rfl,e.1.symm,b.1.symm⟩
  rw[CB b,e.1];exact .inl rfl
 rw[CB e];exact .inl rfl
variable{v:Int}
def A5(c:aF k=true)(e:(af k.F.R (a / 16)).e≠0):cl (dJ k a v) (cW k a) (a % 16).toNat=v:=by
 have d:=(g9 c e).1;have b:=(ul c (f:=cW k a) d).1;unfold cl dJ setCell;show nth (nth (List.set _ _ _) _) _=v;rw[bH,CD ⟨rfl,d⟩,bH,CD ⟨rfl,by rw[b];omega⟩]
def Kv(d:qj h o f c):qj {h with G:=dJ h.G a v} o f c:=by
 obtain⟨j,e,g,b⟩:=d;exact⟨j,e,g,⟨b.m,b.f,b.c⟩⟩
def Q1(d:bc h E)(q:o∈h.O){x:Int}(y:0<=x/\x<o.q)(A:0<=j/\j<o.q)(h1:At h.G (o.Addr+x) f c)(g:At h.G (o.Addr+j) f c):x=j:=by
 have B:=h1.c;have C:=g.c;rcases d.oow o q with⟨s,r,t,u⟩|⟨l,k,D,F⟩
 ·have i:=aI (d.L.sok s r)
  have a:=BH (n:=o.q) ω;rw[<-u]at a;obtain⟨G,H,w,-⟩:=t;rcases ce i.2.2 with e|e|e|e<;>rw[e]at w a<;>omega
 have p:=d.L.lok l k;unfold bN at p;rw[C0]at p;have:=mh d k (b:=o.Addr+x) ω ω h1 g.m g.f;omega
def CI.store(b:bc h E)(A:JI h)(N:CI h)(O:i<h.O.length)(P:0<=j/\j<=(nth h.O i).q - 1)(Y:(af (tbl h) (((nth h.O i).Addr+j) / 16)).e≠1):CI {h with G:=dJ h.G ((nth h.O i).Addr+j) v}/\
  ∀o∈h.O,∀x:Int,0<=x->x<o.q->fe (dJ h.G ((nth h.O i).Addr+j) v) (o.Addr+x)=if o=nth h.O i/\x=j then v else fe h.G (o.Addr+x):=by
 have g:=ar O;have F:=(cI b g P).1;have G:=At.mk' b.ker F;have d:qj h (nth h.O i) _ _:=⟨j,P.1,ω,G⟩
 have r:=jL b g d;have Z:(((nth h.O i).Addr+j) % 16).toNat<16:=ω
 have key:∀p:Int,(af (tbl h) p).e≠0->(af (tbl h) p).j≠(cW h.G ((nth h.O i).Addr+j):Nat)->∀c,cl (dJ h.G ((nth h.O i).Addr+j) v) (bP h.G p) c=cl h.G (bP h.G p) c:=λp Q B c=>by
  rcases rm h.G ((nth h.O i).Addr+j) v (bP h.G p) c with e|⟨-,e,-⟩
  ·exact e
  refine absurd ?_ B;rw[<-e];exact l9 b.ker Q
 refine⟨N.keep rfl rfl (λq h=>h) (λ_=>⟨rfl,rfl⟩) (λf c _ _=>?_) (λo g f c _ d _=>⟨o,g,Kv d⟩) (λH c C=>?_) (λ_ s' R _=>⟨s',R,rfl,rfl,λ_ h=>h⟩),λo g x S W=>?_⟩
 ·rcases rm h.G ((nth h.O i).Addr+j) v f c with e|⟨-,u,w⟩
  ·exact .inl e.symm
  refine .inr ⟨_,g,?_⟩;rw[u,w];exact Kv d
 ·obtain⟨jm1,jm2⟩:=b.jobM H
  have J:c<16:=by
   obtain⟨k,lk,e⟩:=aO (List.mem_of_mem_take C);have:=gn (dw.1 (b.job H).1).1 lk;omega
  constructor
  ·rcases rm h.G ((nth h.O i).Addr+j) v (bP h.G h.Y.X.a3) c with e|⟨-,u,w⟩
   ·exact e
   exfalso;rw[<-u,<-w]at r;exact sX b A N H r J (List.mem_of_mem_take C) (l9 b.ker jm1)
  rcases rm h.G ((nth h.O i).Addr+j) v (bP h.G h.Y.X.a1) c with e|⟨-,u,w⟩
  ·exact e
  exfalso;rw[<-u,<-w]at r;refine FH b A N H r ?_ C (l9 b.ker jm2);rcases b.oow _ g with⟨s,hs,s1,s2⟩|⟨l,X,l1,-⟩
  ·have T:=aI (b.L.sok s hs)
   have K:=BH (n:=(nth h.O i).q) ω;rw[<-s2]at K;obtain⟨g1,g2,g3,-⟩:=s1;have Q:((nth h.O i).Addr+j) / 16=(nth h.O i).Addr / 16:=by rcases ce T.2.2 with e|e|e|e<;>rw[e]at g3 K<;>omega
   rw[<-Q];exact Y
  intro M;obtain⟨a1,a2,a3⟩:=mZ (t:=tbl h) (p:=(nth h.O i).Addr / 16) ω;rw[a3]at M;have h3:=(N.m1 _ M).2.1;obtain⟨-,-,y,hy,-,ey,-⟩:=A.sp H;have hpl:=aS (b.L.lok l X);exact b.L.dis y hy l X 0 ω ω
 have U:=(cI b g (k:=x) ⟨S,ω⟩).1;have a:=At.mk' b.ker U;have D:At (dJ h.G ((nth h.O i).Addr+j) v) (o.Addr+x) (cW h.G (o.Addr+x)) ((o.Addr+x) % 16).toNat:=⟨a.m,a.f,a.c⟩
 rw[D.cell,a.cell];split
 ·rename_i e
  obtain⟨u,w⟩:=e;subst u w;exact A5 b.ker F
 rename_i B;rcases rm h.G ((nth h.O i).Addr+j) v (cW h.G (o.Addr+x)) ((o.Addr+x) % 16).toNat with e|⟨-,u,w⟩
 ·exact e
 exfalso;rw[u,w]at a;have V:qj h o _ _:=⟨x,S,W,a⟩
 have eo:=BY b g (ar O) V d;subst eo;refine B ⟨rfl,?_⟩;exact Q1 b (ar O) ⟨S,W⟩ ⟨P.1,ω⟩ a G
structure JP(h:ac):Prop where
 km:(af (tbl h) h.Y.X.a3).e≠0
 mm:(af (tbl h) h.Y.X.a1).e≠0
 kf:(af (tbl h) h.Y.X.a3).j=(bP h.G h.Y.X.a3:Nat)
 mf:(af (tbl h) h.Y.X.a1).j=(bP h.G h.Y.X.a1:Nat)
 ne:bP h.G h.Y.X.a3≠bP h.G h.Y.X.a1
 pe:h.Y.X.a3≠h.Y.X.a1
 k2:CI h->(af (tbl h) h.Y.X.a3).e≠1
def JP.of(g:bc h E)(i:JI h)(j:h.u=true):JP h:=by
 obtain⟨k,b⟩:=g.jobM j;have a:=(dw.1 (g.job j).1).1;unfold eR at a;simp only[I0,C0]at a;have c:=a.2.2.2.2.2;have l:=l9 g.ker k;have n:=l9 g.ker b;obtain⟨t,u,o⟩:=mZ k;obtain⟨w,y,q⟩:=mZ b;refine⟨k,b,l,n,λe=>c ?_,c,λr p=>?_⟩
 ·have d:(af (tbl h) h.Y.X.a3).j=(bP h.G h.Y.X.a3:Nat):=l
  have f:(af (tbl h) h.Y.X.a1).j=(bP h.G h.Y.X.a1:Nat):=n;rw[o]at d;rw[q]at f b;have:=i.sk j h.Y.X.a1.toNat b (by rw[d,f,e]);omega
 rw[o]at p;have:=(r.m1 _ p).2.1;omega
def hJ(h:ac)(k:ah)(j:cJ):ac:={h with G:=k,u:=true,Y:=j}
def hE(h:ac)(k:ah):ac:={h with G:=k,u:=false,Y:=⟨⟨0,0,[]⟩,0,0⟩}
def MZ(a:h.u=true):mStep h=if over (gY h.G h.Y).2=true then hE h (gY h.G h.Y).1 else hJ h (gY h.G h.Y).1 (gY h.G h.Y).2:=by
 unfold mStep hE hJ;split
 ·rfl
 rw[a]
def w6(g:bc h E)(l:h'.O=h.O)(n:∀p,(af (tbl h) p).e≠0->(af (tbl h') p).e≠0/\(af (tbl h') p).j=(af (tbl h) p).j)(q:∀o∈h.O,∀f c,qj h o f c->cl h'.G f c=cl h.G f c):Kp h h':=λo e=>by
 rw[l]at e;refine⟨e,λj i r=>?_⟩;have b:=(cI g e (k:=j) ⟨i,ω⟩).1;have a:=At.mk' g.ker b;obtain⟨t,u⟩:=n _ b;have d:At h'.G (o.Addr+j) (cW h.G (o.Addr+j)) ((o.Addr+j) % 16).toNat:=⟨t,u.trans a.f,a.c⟩
 rw[d.cell,a.cell];exact q o e _ _ ⟨j,i,r,a⟩
def xP(b:∀p,(af (tbl h) p).e≠0->(af (tbl h') p).e≠0/\(af (tbl h') p).j=(af (tbl h) p).j)(d:qj h o f c):qj h' o f c:=by
 obtain⟨j,e,g,a⟩:=d;obtain⟨i,k⟩:=b _ a.m;exact⟨j,e,g,i,k.trans a.f,a.c⟩
def tj{m:Int}(b:(af k.F.R p).e≠0)(q:Int):af (jr k p m).F.R q=if q=p then {af k.F.R p with e:=m} else af k.F.R q:=by
 obtain⟨c,d,g⟩:=mZ b;have f:(jr k p m).F.R.K.length=k.F.R.K.length:=by unfold jr;simp
 unfold af;rw[f];by_cases e:0<=q/\q<k.F.R.K.length
 ·rw[CD e,CD e]
  unfold jr;simp only[bH];by_cases a:q=p
  ·rw[CD a,CD ⟨ω,ω⟩,CD ⟨c,d⟩]
  rw[CB a,CB ω]
 rw[CB e,CB e,CB ω]
def HI{t:aL}{q:Nat}(h:(nth t.K q).e≠0):af t (q:Int)=nth t.K q:=by
 have:=td h;unfold af;rw[CD ⟨ω,ω⟩];rfl
def CI.ended(l:bc h E)(n:CI h)(u:h.u=true)(r:h.Y.b=0)(g:∀f c,cl k f c=cl h.G f c)(i:∀p,(af (tbl h) p).e≠0->(af k.F.R p).e≠0/\(af k.F.R p).j=(af (tbl h) p).j)(h1:∀q:Nat,(nth k.F.R.K q).e≠1):CI (hE h k)/\Kp h (hE h k):=by
 refine⟨⟨λf c a b=>?_,λe=>(by cases e),λe=>(by cases e),λe=>(by cases e),λe=>(by cases e),λq t=>absurd t (h1 q),λe=>(by cases e)⟩,w6 l rfl i λo j f c _=>g f c⟩;change cl k f c≠0 at b;rw[g]at b;rcases n.z f c a b with⟨o,j,d⟩|⟨-,-,e⟩
 ·exact .inl ⟨o,j,xP i d⟩
 rw[r]at e;cases e
def Kj{p:cA}(h:eR p=true){i:Nat} : ∀{j:Nat},i<j->j<p.T.length->nth p.T i<nth p.T j
 | 0,a,_=>absurd a (Nat.not_lt_zero i)
 | j+1,a,d=>by
  have b:=h;unfold eR at b;simp only[I0]at b;have c:=eZ b.1 d;unfold mF at c;rw[C0]at c;have f:nth p.T j<nth p.T (j+1):=c.2.2.resolve_left ω;by_cases e:i=j
  ·rw[e];exact f
  have:=Kj h (i:=i) (j:=j) ω ω;omega
def r9(k:ah)(a:Nat)(b v:Int)(f c:Nat):cl (setCell k a b v) f c=cl k f c\/(cl (setCell k a b v) f c=v/\f=a/\c=b.toNat):=by
 unfold cl setCell;simp only[bH];by_cases e:a=f/\f<k.F.W.T.length
 ·rw[CD e,bH]
  by_cases d:b.toNat=c/\c<(nth k.F.W.T a).length
  ·rw[CD d];exact .inr ⟨rfl,e.1.symm,d.1.symm⟩
  rw[CB d,e.1];exact .inl rfl
 rw[CB e];exact .inl rfl
def qH(c:aF k=true)(e:(af k.F.R p).e≠0)(g:0<=a/\a<=15):cl (setCell k (bP k p) a v) (bP k p) a.toNat=v:=by
 have d:=(g9 c e).1;have b:=(ul c (f:=bP k p) d).1;unfold cl setCell;show nth (nth (List.set _ _ _) _) _=v;rw[bH];rw[CD ⟨rfl,d⟩,bH,CD ⟨rfl,by rw[b];omega⟩]
def FB{j:cJ}(d:qj h o f c):qj (hJ h (setCell h.G (bP h.G p) b v) j) o f c:=by
 obtain⟨x,e,g,a⟩:=d;exact⟨x,e,g,⟨a.m,a.f,a.c⟩⟩
def J3{j:cJ}(a:bc h [])(b:JI h)(q:CI h)(l:h.u=true)(r:JP h){d:Int}(n:d∈h.Y.X.T)(v:Int):Kp h (hJ h (setCell h.G (bP h.G h.Y.X.a3) d v) j):=by
 obtain⟨k,t,e⟩:=aO n;have u:=gn (dw.1 (a.job l).1).1 t;refine w6 a rfl (λp w=>⟨w,rfl⟩) λo y f c i=>?_
 rcases r9 h.G (bP h.G h.Y.X.a3) d v f c with g|⟨-,A,B⟩
 ·exact g
 exfalso;refine sX a b q l (jL a y i) ω ?_ (by rw[A];exact r.kf);rw[B,Int.toNat_of_nonneg ω];exact n
def CI.copied(r:bc h [])(t:JI h)(b:CI h)(k:h.u=true)(n:JP h)(N:h.Y.b0=1)(O:0<=h.Y.b/\h.Y.b<h.Y.X.T.length):CI (hJ h (sQ h.G h.Y.X.a1 h.Y.X.a3 (nth h.Y.X.T h.Y.b.toNat)) {h.Y with b:=h.Y.b+1})/\Kp h (hJ h (sQ h.G h.Y.X.a1 h.Y.X.a3 (nth h.Y.X.T h.Y.b.toNat)) {h.Y with b:=h.Y.b+1}):=by
 have d:h.Y.b.toNat<h.Y.X.T.length:=ω
 have l:=ar d;have u:=gn (dw.1 (r.job k).1).1 d;have i:h.Y.X.T.take (h.Y.b+1).toNat=h.Y.X.T.take h.Y.b.toNat++[nth h.Y.X.T h.Y.b.toNat]:=by
  rw[show(h.Y.b+1).toNat=h.Y.b.toNat+1 by omega,I6,au d];rfl
 unfold sQ;have w:=qH r.ker (p:=h.Y.X.a3) (v:=nth (nth h.G.F.W.T (bP h.G h.Y.X.a1)) (nth h.Y.X.T h.Y.b.toNat).toNat) n.km u;have j:=r9 h.G (bP h.G h.Y.X.a3) (nth h.Y.X.T h.Y.b.toNat) (nth (nth h.G.F.W.T (bP h.G h.Y.X.a1)) (nth h.Y.X.T h.Y.b.toNat).toNat);refine⟨⟨λf c y H=>?_,λ_ c a=>?_,λ_=>b.jd k,λ_=>b.jc k,λ_=>⟨λe=>absurd e (by show ¬h.Y.b0=0;omega),λe=>absurd e (by show ¬h.Y.b0=2;omega)⟩,λq J=>?_,λ_ _=>b.m2 k ω⟩,J3 r t b k n l _⟩
 ·rcases j f c with g|⟨-,A,B⟩
  ·have C:cl h.G f c≠0:=by rw[<-g];exact H
   rcases b.z f c y C with⟨o,K,L⟩|⟨M,D,E⟩
   ·exact .inl ⟨o,K,FB L⟩
   refine .inr ⟨rfl,D,?_⟩;show(c:Int)∈h.Y.X.T.take (h.Y.b+1).toNat;rw[i];exact V3.2 (.inl E)
  refine .inr ⟨rfl,?_,?_⟩
  ·show(af (tbl h) h.Y.X.a3).j=f;rw[A];exact n.kf
  show(c:Int)∈h.Y.X.T.take (h.Y.b+1).toNat;rw[i,B,Int.toNat_of_nonneg ω];exact V3.2 (.inr (V1.2 rfl))
 ·change (c:Int)∈h.Y.X.T.take (h.Y.b+1).toNat at a
  show cl (setCell h.G (bP h.G h.Y.X.a3) _ _) (bP h.G h.Y.X.a3) c=cl (setCell h.G (bP h.G h.Y.X.a3) _ _) (bP h.G h.Y.X.a1) c;have F:cl (setCell h.G (bP h.G h.Y.X.a3) (nth h.Y.X.T h.Y.b.toNat) (nth (nth h.G.F.W.T (bP h.G h.Y.X.a1)) (nth h.Y.X.T h.Y.b.toNat).toNat)) (bP h.G h.Y.X.a1) c=cl h.G (bP h.G h.Y.X.a1) c:=by
   rcases j (bP h.G h.Y.X.a1) c with g|⟨-,A,-⟩
   ·exact g
   exact absurd A.symm n.ne
  rw[F];by_cases G:(c:Int)=nth h.Y.X.T h.Y.b.toNat
  ·have:c=(nth h.Y.X.T h.Y.b.toNat).toNat:=ω
   rw[this,w];rfl
  rw[i]at a;rcases V3.1 a with a|a
  ·rcases j (bP h.G h.Y.X.a3) c with g|⟨-,-,B⟩
   ·rw[g];exact b.jv k c a
   exact absurd (by rw[B,Int.toNat_of_nonneg ω]) G
  exact absurd (V1.1 a) G
 obtain⟨M,D,E⟩:=b.m1 q J;exact⟨rfl,D,E⟩
def CI.undone(y:bc h [])(A:JI h)(b:CI h)(r:h.u=true)(l:JP h)(p3:h.Y.b0=3)(hp:0<h.Y.b):CI (hJ h {h.G with F:=(iQ h.G.F (h.Y.X.a3*16+nth h.Y.X.T (h.Y.b - 1).toNat) 0).1} {h.Y with b:=h.Y.b - 1})/\Kp h (hJ h {h.G with F:=(iQ h.G.F (h.Y.X.a3*16+nth h.Y.X.T (h.Y.b - 1).toNat) 0).1} {h.Y with b:=h.Y.b - 1}):=by
 obtain⟨t,-,-,n0,n1⟩:=dw.1 (y.job r).1;have a:(h.Y.b - 1).toNat<h.Y.X.T.length:=ω
 have u:=ar a;have B:=gn t a;have O:=(mZ l.km).1;have P:(h.Y.X.a3*16+nth h.Y.X.T (h.Y.b - 1).toNat) / 16=h.Y.X.a3:=ω
 have Q:(h.Y.X.a3*16+nth h.Y.X.T (h.Y.b - 1).toNat) % 16=nth h.Y.X.T (h.Y.b - 1).toNat:=ω
 have C:(af h.G.F.R h.Y.X.a3).e≠0:=l.km;have D:(af h.G.F.R h.Y.X.a3).e≠1:=l.k2 b;have R:({h.G with F:=(iQ h.G.F (h.Y.X.a3*16+nth h.Y.X.T (h.Y.b - 1).toNat) 0).1} : ah)=setCell h.G (bP h.G h.Y.X.a3) (nth h.Y.X.T (h.Y.b - 1).toNat) 0:=by
  unfold iQ;rw[P,Q,CB C,CB D]
  rfl
 rw[R];have n:=r9 h.G (bP h.G h.Y.X.a3) (nth h.Y.X.T (h.Y.b - 1).toNat) 0;have w:h.Y.X.T.take h.Y.b.toNat=h.Y.X.T.take (h.Y.b - 1).toNat++[nth h.Y.X.T (h.Y.b - 1).toNat]:=by
  rw[show h.Y.b.toNat=(h.Y.b - 1).toNat+1 by omega,I6,au a];rfl
 have E:nth h.Y.X.T (h.Y.b - 1).toNat∉h.Y.X.T.take (h.Y.b - 1).toNat:=λF=>by
  obtain⟨k,S,T⟩:=aO F;rw[C2]at S;have G:nth (h.Y.X.T.take (h.Y.b - 1).toNat) k=nth h.Y.X.T k:=by
   refine bk ?_;rw[List.getElem?_take,CD ω];exact au ω
  rw[G]at T;have:=Kj t (i:=k) (j:=(h.Y.b - 1).toNat) ω a;omega
 refine⟨⟨λf c H J=>?_,λ_ c p=>?_,λ_=>b.jd r,λ_=>b.jc r,λ_=>⟨λe=>absurd e (by show ¬h.Y.b0=0;omega),λe=>absurd e (by show ¬h.Y.b0=2;omega)⟩,λq U=>?_,λ_ _=>b.m2 r ω⟩,J3 y A b r l u _⟩
 ·rcases n f c with g|⟨V,-,-⟩
  ·have K:cl h.G f c≠0:=by rw[<-g];exact J
   rcases b.z f c H K with⟨o,W,X⟩|⟨Y,L,d⟩
   ·exact .inl ⟨o,W,FB X⟩
   rw[w]at d;rcases V3.1 d with d|d
   ·exact .inr ⟨rfl,L,d⟩
   exfalso;have ec:=V1.1 d;have M:f=bP h.G h.Y.X.a3:=by have:=l.kf;omega
   refine J ?_;show cl (setCell h.G (bP h.G h.Y.X.a3) _ 0) f c=0;rw[M,show c=(nth h.Y.X.T (h.Y.b - 1).toNat).toNat by omega];exact qH y.ker l.km B
  exact absurd V J
 ·change (c:Int)∈h.Y.X.T.take (h.Y.b - 1).toNat at p
  show cl (setCell h.G (bP h.G h.Y.X.a3) _ 0) (bP h.G h.Y.X.a3) c=cl (setCell h.G (bP h.G h.Y.X.a3) _ 0) (bP h.G h.Y.X.a1) c;have N:cl (setCell h.G (bP h.G h.Y.X.a3) (nth h.Y.X.T (h.Y.b - 1).toNat) 0) (bP h.G h.Y.X.a1) c=cl h.G (bP h.G h.Y.X.a1) c:=by
   rcases n (bP h.G h.Y.X.a1) c with g|⟨-,Z,-⟩
   ·exact g
   exact absurd Z.symm l.ne
  rw[N];rcases n (bP h.G h.Y.X.a3) c with g|⟨-,-,g2⟩
  ·rw[g]
   exact b.jv r c (by rw[w];exact V3.2 (.inl p))
  exact absurd (by rw[show nth h.Y.X.T (h.Y.b - 1).toNat=(c:Int) by omega];exact p) E
 obtain⟨Y,L,d⟩:=b.m1 q U;exact⟨rfl,L,d⟩
def CI.meshed(F:bc h [])(D:JI h)(G:CI h)(H:h.u=true)(d:JP h)(hn:h.Y.b=h.Y.X.T.length)(L:h.G.Calls≠100000)(R:(vV h.G h.Y.X.a1 h.Y.X.a3).2=true):CI (hE h (vV h.G h.Y.X.a1 h.Y.X.a3).1)/\Kp h (hE h (vV h.G h.Y.X.a1 h.Y.X.a3).1):=by
 have A:=Kt F.ker (p:=h.Y.X.a1) (o:=h.Y.X.a3) d.mm R;obtain⟨m1,m2,m3⟩:=mZ d.mm;obtain⟨k1,k2,k3⟩:=mZ d.km;have M:=(A 0).1;generalize N:(vV h.G h.Y.X.a1 h.Y.X.a3).1=K at *;have J:∀q:Int,af K.F.R q=if q=h.Y.X.a1 then⟨2,(af (tbl h) h.Y.X.a3).j⟩ else af (tbl h) q:=λq=>by
  unfold af;rw[M];by_cases e:0<=q/\q<h.G.F.R.K.length
  ·rw[CD e,(A q.toNat).2]
   by_cases B:q=h.Y.X.a1
   ·rw[CD B,CD ω,CD ⟨k1,k2⟩];rfl
   rw[CB B,CB ω,CD (show 0<=q/\q<(tbl h).K.length from e)];rfl
  rw[CB e,CB (show ¬q=h.Y.X.a1 by unfold tbl at m2;omega),CB (show ¬(0<=q/\q<(tbl h).K.length) from e)]
 have l:∀f c,cl K f c=cl h.G f c\/(cl K f c=0/\f=bP h.G h.Y.X.a1):=λf c=>by
  unfold vV at N R;by_cases e:refd h.G=true
  ·rw[CD e]at R;cases R
  rw[CB e]at N;simp only at N;rw[<-N];rcases Jy (vU (cg h.G) h.Y.X.a1.toNat ⟨2,(nth (cg h.G).F.R.K h.Y.X.a3.toNat).j⟩) (nth (cg h.G).F.R.K h.Y.X.a1.toNat).j f c with g|⟨S,T,-⟩
  ·exact .inl g
  refine .inr ⟨S,?_⟩;rw[<-T];have h3:nth (cg h.G).F.R.K h.Y.X.a1.toNat=af h.G.F.R h.Y.X.a1:=m3.symm;rw[h3];rfl
 have n:h.Y.X.T.take h.Y.b.toNat=h.Y.X.T:=Z7 ω;have O:∀p:Int,(af (tbl h) p).e≠0->(af (tbl h) p).j=(bP h.G h.Y.X.a1:Nat)->p=h.Y.X.a1:=λp j C=>by
  obtain⟨p1,p2,p3⟩:=mZ j;have P:=d.mf;rw[p3]at j C;rw[m3]at P;have:=D.sm H p.toNat j (by rw[C,P]);omega
 have U:∀c,cl K (bP h.G h.Y.X.a3) c=cl h.G (bP h.G h.Y.X.a3) c:=λc=>by
  rcases l (bP h.G h.Y.X.a3) c with g|⟨-,g⟩
  ·exact g
  exact absurd g d.ne
 have place:∀o∈h.O,∀x:Int,0<=x->x<o.q->∀f c:Nat,At h.G (o.Addr+x) f c->(f≠bP h.G h.Y.X.a1->At K (o.Addr+x) f c)/\(f=bP h.G h.Y.X.a1->At K (o.Addr+x) (bP h.G h.Y.X.a3) c/\(c:Int)∈h.Y.X.T):=λo r x u w f c a=>by
  constructor
  ·intro hne
   have j:(o.Addr+x) / 16≠h.Y.X.a1:=λe=>by
    have:=a.f;rw[e]at this;have h3:(af h.G.F.R h.Y.X.a1).j=_:=d.mf;omega
   exact⟨by rw[J,CB j];exact a.m,by rw[J,CB j];exact a.f,a.c⟩
  intro he;have j:=O _ a.m (by rw[<-he];exact a.f);refine⟨⟨by rw[J,CD j];show(2:Int)≠0;decide,by rw[J,CD j];exact d.kf,a.c⟩,?_⟩;obtain⟨-,-,b,hb,-,V,-⟩:=D.sp H;have y:c<16:=by have:=a.c;omega
  obtain⟨e1,B,-⟩:=yd F (jL F r ⟨x,u,w,a⟩) hb (by rw[V];exact D.sm H) (by rw[V,he];exact d.mf);refine G.jc H b hb V c y ?_;rw[B];exact e1.2.2.2
 refine⟨⟨λf c y E=>?_,λe=>(by cases e),λe=>(by cases e),λe=>(by cases e),λe=>(by cases e),λq hq=>?_,λe=>(by cases e)⟩,λo r=>⟨r,λx u w=>?_⟩⟩
 ·change cl K f c≠0 at E
  rcases l f c with g|⟨g,-⟩
  rotate_left
  ·exact absurd g E
  rw[g]at E;have W:f≠bP h.G h.Y.X.a1:=λe=>by
   refine E ?_;rw[<-g,e];have X:aF K=true:=by
    rw[<-N];exact N1 F.ker L d.mm d.km (Ne.symm d.pe)
   refine oW X (λp j C=>?_) c;rw[J]at j C;by_cases B:p=h.Y.X.a1
   ·rw[CD B]at C
    have h1:(af (tbl h) h.Y.X.a3).j=(bP h.G h.Y.X.a1:Nat):=C;have h2:=d.kf;exact d.ne ω
   rw[CB B]at j C;exact B (O p j C)
  rcases G.z f c y E with⟨o,r,x,u,w,a⟩|⟨-,q2,q3⟩
  ·exact .inl ⟨o,r,x,u,w,(place o r x u w f c a).1 W⟩
  rw[n]at q3;have Q:f=bP h.G h.Y.X.a3:=by have:=d.kf;omega
  rw[Q,G.jv H c (by rw[n];exact q3)]at E;rcases G.z _ c y E with⟨o,r,x,u,w,a⟩|⟨-,r2,-⟩
  ·exact .inl ⟨o,r,x,u,w,by rw[Q];exact((place o r x u w _ c a).2 rfl).1⟩
  exact absurd (by have:=d.kf;omega) d.ne
 ·have i:(nth K.F.R.K q).e=1:=hq
  have:=HI (t:=K.F.R) (q:=q) (by rw[i];decide);rw[J]at this;by_cases e:(q:Int)=h.Y.X.a1
  ·rw[CD e]at this
   rw[<-this]at i;exact absurd i (by show ¬(2:Int)=1;decide)
  rw[CB e]at this;rw[<-this]at i;obtain⟨a1,a2,a3⟩:=mZ (t:=tbl h) (p:=(q:Int)) (by rw[i];decide);rw[a3]at i;exact absurd (by have:=(G.m1 _ i).2.1;omega) e
 have Y:=(cI F r (k:=x) ⟨u,ω⟩).1;have a:=At.mk' F.ker Y;obtain⟨S,T⟩:=place o r x u w _ _ a;show fe K (o.Addr+x)=fe h.G (o.Addr+x);by_cases e:cW h.G (o.Addr+x)=bP h.G h.Y.X.a1
 ·obtain⟨Z,g4⟩:=T e
  rw[Z.cell,a.cell,U,e];exact G.jv H _ (by rw[n];exact g4)
 have Z:=S e;rw[Z.cell,a.cell];rcases l (cW h.G (o.Addr+x)) ((o.Addr+x) % 16).toNat with g|⟨-,g⟩
 ·exact g
 exact absurd g e
def CI.mStep{h:ac}(w:bc h [])(l:JI h)(a:CI h)(d:h.u=true):CI (mStep h)/\Kp h (mStep h):=by
 have C:=JP.of w l d;have Z:=l.ph d;obtain⟨jn0,jn2⟩:=a.jn d;obtain⟨-,-,-,n0,n1⟩:=dw.1 (w.job d).1;rw[MZ d];have stay:∀(k:ah)(j:cJ),k.F=h.G.F->j.X=h.Y.X->j.b=h.Y.b->(j.b0=0↔h.Y.b0=0)->(j.b0=2->j.b=j.X.T.length)->CI (hJ h k j)/\Kp h (hJ h k j):=λk j M u N O e5=>by
  have J:tbl (hJ h k j)=tbl h:=by unfold tbl hJ;rw[M]
  have L:∀f c,cl k f c=cl h.G f c:=λf c=>by unfold cl;rw[M]
  have D:∀o f c,qj h o f c->qj (hJ h k j) o f c:=λo f c=>xP (λp E=>by rw[J];exact⟨E,rfl⟩)
  refine⟨⟨λf c F K=>?_,λ_ c g=>?_,λ_=>?_,λ_=>?_,λ_=>⟨λe=>?_,e5⟩,λq i=>?_,λ_ e=>?_⟩,w6 w rfl (λp E=>by rw[J];exact⟨E,rfl⟩) λo _ f c _=>L f c⟩
  ·change cl k f c≠0 at K
   rw[L]at K;rcases a.z f c F K with⟨o,P,Q⟩|⟨q1,R,G⟩
   ·exact .inl ⟨o,P,D o f c Q⟩
   refine .inr ⟨rfl,?_,?_⟩
   ·rw[J];show(af (tbl h) j.X.a3).j=f;rw[u];exact R
   show(c:Int)∈j.X.T.take j.b.toNat;rw[u,N];exact G
  ·change (c:Int)∈j.X.T.take j.b.toNat at g
   show cl k (bP k j.X.a3) c=cl k (bP k j.X.a1) c;rw[u,N]at g;rw[u,L,L];unfold bP;rw[M];exact a.jv d c g
  ·show ∀s∈h.J,s.Q=j.X.a3->_
   rw[show(hJ h k j).Y.X=h.Y.X from u,u];exact a.jd d
  ·show ∀s∈h.J,s.Q=j.X.a1->_
   rw[show(hJ h k j).Y.X=h.Y.X from u,u];exact a.jc d
  ·exact(show j.b=h.Y.b from N).trans (jn0 (O.1 e))
  ·rw[J]at i
   obtain⟨q1,R,G⟩:=a.m1 q i;exact⟨rfl,by show(q:Int)=j.X.a1;rw[u];exact R,λe=>G (O.1 e)⟩
  rw[J];show(af (tbl h) j.X.a1).e=1;rw[u];exact a.m2 d λx=>e (O.2 x)
 have prot:∀H:Int,H=1\/H=2->∀p,(af (tbl h) p).e≠0->(af (jr (cg h.G) h.Y.X.a1 H).F.R p).e≠0/\(af (jr (cg h.G) h.Y.X.a1 H).F.R p).j=(af (tbl h) p).j:=λH hmo p E=>by
  rw[tj (k:=cg h.G) C.mm];by_cases e:p=h.Y.X.a1
  ·rw[CD e,e]
   exact⟨by show H≠0;omega,rfl⟩
  rw[CB e];exact⟨E,rfl⟩
 unfold gY;by_cases b:jmay h.G h.Y=true;rotate_left
 ·rw[CB b]
  rw[CB (by rw[show over (h.G,h.Y).2=over h.Y from rfl,show over h.Y=false from W0 ω];decide)];exact stay h.G h.Y rfl rfl rfl Iff.rfl jn2
 rw[CD b];unfold jstep;by_cases A:h.Y.b0=0
 ·rw[CD A]
  have n:=jn0 A;simp only;unfold jW;by_cases B:refd h.G=true
  ·rw[CD B]
   simp only[Bool.false_eq_true,if_false];rw[CD (show over {h.Y with b0:=5} = true from O0 (.inr rfl))];refine CI.ended w a d n (λ_ _=>rfl) (λp E=>⟨E,rfl⟩) λq i=>(a.m1 q i).2.2 A
  rw[CB B];simp only[if_true];rw[CB (by rw[show over {h.Y with b0:=1} = false from W0 (by show ¬((1:Int)=4\/(1:Int)=5);decide)];decide)];have D:∀o f c,qj h o f c->qj (hJ h (jr (cg h.G) h.Y.X.a1 1) {h.Y with b0:=1}) o f c:=λo f c=>xP (prot 1 (.inl rfl))
  refine⟨⟨λf c F K=>?_,λ_ c g=>?_,λ_=>a.jd d,λ_=>a.jc d,λ_=>⟨λe=>absurd e (by show ¬(1:Int)=0;decide),λe=>absurd e (by show ¬(1:Int)=2;decide)⟩,λq i=>?_,λ_ _=>?_⟩,w6 w rfl (prot 1 (.inl rfl)) λ_ _ _ _ _=>rfl⟩
  ·rcases a.z f c F K with⟨o,P,Q⟩|⟨-,-,G⟩
   ·exact .inl ⟨o,P,D o f c Q⟩
   rw[n]at G;cases G
  ·change (c:Int)∈h.Y.X.T.take h.Y.b.toNat at g
   rw[n]at g;cases g
  ·refine⟨rfl,?_,by show ¬(1:Int)=0;decide⟩
   show(q:Int)=h.Y.X.a1;refine Classical.byContradiction λS=>?_
   have y:(nth (jr (cg h.G) h.Y.X.a1 1).F.R.K q).e=1:=i;have:=HI (t:=(jr (cg h.G) h.Y.X.a1 1).F.R) (q:=q) (by rw[y];decide);rw[tj (k:=cg h.G) C.mm,CB S]at this;rw[<-this]at y;obtain⟨a1,a2,T⟩:=mZ (t:=tbl h) (p:=(q:Int)) (by show(af h.G.F.R q).e≠0;have:(af h.G.F.R q).e=1:=y;rw[this];decide);have r:(af (tbl h) q).e=1:=y;rw[T]at r;exact(a.m1 _ r).2.2 A
  show(af (jr (cg h.G) h.Y.X.a1 1).F.R h.Y.X.a1).e=1;rw[tj (k:=cg h.G) C.mm,CD rfl]
 rw[CB A];by_cases U:h.Y.b0=1
 ·rw[CD U]
  by_cases V:h.Y.b=h.Y.X.T.length
  ·rw[CD V]
   simp only;rw[CB (by rw[show over {h.Y with b0:=2} = false from W0 (by show ¬((2:Int)=4\/(2:Int)=5);decide)];decide)];exact stay h.G {h.Y with b0:=2} rfl rfl rfl ⟨λe=>absurd e (by show ¬(2:Int)=0;decide),λe=>absurd e A⟩ λ_=>V
  rw[CB V];simp only;rw[CB (by rw[show over {h.Y with b:=h.Y.b+1} = false from W0 (by show ¬(h.Y.b0=4\/h.Y.b0=5);omega)];decide)];exact CI.copied w l a d C U ω
 rw[CB U];by_cases W:h.Y.b0=2
 ·rw[CD W]
  simp only;cases B:(vV h.G h.Y.X.a1 h.Y.X.a3).2 with
  | false=>
   simp only[Bool.false_eq_true,if_false];rw[CB (by rw[show over {h.Y with b0:=3} = false from W0 (by show ¬((3:Int)=4\/(3:Int)=5);decide)];decide)];rw[NM B];exact stay (cg h.G) {h.Y with b0:=3} rfl rfl rfl ⟨λe=>absurd e (by show ¬(3:Int)=0;decide),λe=>absurd e A⟩ λe=>absurd e (by show ¬(3:Int)=2;decide)
  | true=>
   rw[CD rfl];rw[CD (show over {h.Y with b0:=4} = true from O0 (.inl rfl))];exact CI.meshed w l a d C (jn2 W) (by unfold jmay at b;simp only[I0,C0]at b;exact b.1.2) B
 rw[CB W];have Y:h.Y.b0=3:=ω
 rw[CD Y];by_cases X:0<h.Y.b
 ·rw[CD X]
  simp only;rw[CB (by rw[show over {h.Y with b:=h.Y.b - 1} = false from W0 (by show ¬(h.Y.b0=4\/h.Y.b0=5);omega)];decide)];exact CI.undone w l a d C Y X
 rw[CB X];have n:h.Y.b=0:=ω
 simp only;unfold jW;by_cases B:refd h.G=true
 ·rw[CD B]
  simp only[Bool.false_eq_true,if_false];rw[CB (by rw[show over {h.Y with b0:=3} = false from W0 (by show ¬((3:Int)=4\/(3:Int)=5);decide)];decide)];exact stay (cg h.G) {h.Y with b0:=3} rfl rfl rfl ⟨λe=>absurd e (by show ¬(3:Int)=0;decide),λe=>absurd e A⟩ λe=>absurd e (by show ¬(3:Int)=2;decide)
 rw[CB B];simp only[if_true];rw[CD (show over {h.Y with b0:=5} = true from O0 (.inr rfl))];refine CI.ended w a d n (λ_ _=>rfl) (prot 2 (.inr rfl)) λq i=>?_
 have:=HI (t:=(jr (cg h.G) h.Y.X.a1 2).F.R) (q:=q) (by rw[i];decide);rw[tj (k:=cg h.G) C.mm]at this;by_cases e:(q:Int)=h.Y.X.a1
 ·rw[CD e]at this
  rw[<-this]at i;exact absurd i (by show ¬(2:Int)=1;decide)
 rw[CB e]at this;rw[<-this]at i;obtain⟨a1,a2,T⟩:=mZ (t:=tbl h) (p:=(q:Int)) (by have:(af (tbl h) q).e=1:=i;rw[this];decide);have r:(af (tbl h) q).e=1:=i;rw[T]at r;exact e (by have:=(a.m1 _ r).2.1;omega)
def B6{n:Nat} : (c:Int)∈uN s n↔c<n/\tX s c=true:=by
 unfold uN;simp only[Y4,Z4,List.mem_range];constructor
 ·rintro⟨a,⟨b,d⟩,e⟩
  have:a=c:=ω
  subst this;exact⟨b,d⟩
 rintro⟨b,d⟩;exact⟨c,⟨b,d⟩,rfl⟩
def Rd{a b:aA}(c:meshable a b=true){i:Int}(h:aZ a.a9 i=true):aZ b.a9 i=false:=by
 unfold meshable at c;simp only[I0,C0]at c;obtain⟨-,-,-,d⟩:=c;rw[<-C6];intro e;have f:=(eN _ _).1 h;have g:=(eN _ _).1 e;have:=Z0 (λn=>Nat.testBit n i.toNat) d;simp only[Nat.testBit_and,Nat.zero_testBit]at this;rw[f.2.2.2,g.2.2.2]at this;cases this
def Jv(a:bc h E){u:aA}(b:s∈h.J)(c:u∈h.J)(e:s.Q=u.Q):s=u:=by
 obtain⟨i,d,rfl⟩:=aO b;obtain⟨j,g,rfl⟩:=aO c;rw[cS (f:=(·.Q)) a.L.nd d g e]
def CI.begun(B:bc h E)(C:CI h)(D:h.u=false){a b:aA}(F:a∈h.J)(G:b∈h.J)(l:meshable a b=true)(sd:Int):CI {h with b5:=sd,u:=true,Y:=uB (dn a b)}:=by
 have n:∃x∈h.J,∃y∈h.J,(dn a b).a3=x.Q/\(dn a b).a1=y.Q/\(dn a b).T=uN y 16/\meshable x y=true:=by
  unfold dn;split
  ·exact⟨b,G,a,F,rfl,rfl,rfl,by rw[gT];exact l⟩
  exact⟨a,F,b,G,rfl,rfl,rfl,l⟩
 obtain⟨x,M,y,N,H,J,r,d⟩:=n;generalize dn a b=p at H J r;have ecl:x.d=y.d:=by
  unfold meshable at d;simp only[I0,C0]at d;exact d.2.1
 refine⟨λf c g O=>?_,λ_ c j=>absurd j (by show ¬(c:Int)∈p.T.take (0:Int).toNat;simp),λ_ s t n c g j=>?_,λ_ s t n c g u=>?_,λ_=>⟨λ_=>rfl,λe=>absurd e (by show ¬(0:Int)=2;decide)⟩,λq P=>?_,λ_ e=>absurd rfl e⟩
 ·rcases C.z f c g O with⟨o,Q,w⟩|⟨K,-⟩
  ·exact .inl ⟨o,Q,w⟩
  rw[D]at K;cases K
 ·have k:=Jv B t M (n.trans H)
  subst k;have i:(c:Int)∈p.T:=j;rw[r]at i;have A:=(B6.1 i).2;unfold tX at A;rw[<-ecl]at A;rw[gT]at d;exact Rd d A
 ·have k:=Jv B t N (n.trans J)
  subst k;show(c:Int)∈p.T;rw[r];exact B6.2 ⟨g,u⟩
 have L:=(C.m1 q P).1;rw[D]at L;cases L
def CI.started{h:ac}(f:bc h [])(a:CI h)(j:h.u=false):CI (started h).1/\Kp h (started h).1:=by
 have g:=f.nums;unfold cn at g;rw[C0]at g;have d:=nO (bI h) (show 0<=h.b5/\h.b5<=1073741823 by omega);cases e:mi (bI h) h.b5 with
 | nil=>
  have c:Ab.started h=({h with b5:=(shuf (bI h).length h.b5).2},false):=by unfold Ab.started;rw[e]
  rw[c];exact⟨⟨a.z,a.jv,a.jd,a.jc,a.jn,a.m1,a.m2⟩,CZ h⟩
 | cons q n=>
  obtain⟨o,p,k⟩:=d q (by rw[e];exact I2 ..);have c:Ab.started h=({h with b5:=(shuf (bI h).length h.b5).2,u:=true,Y:=uB (dn (nth (bI h) q.A.toNat) (nth (bI h) q.B.toNat))},true):=by unfold Ab.started;rw[e]
  rw[c];have b:∀s∈bI h,s∈h.J:=λs l=>mX h (W3 _) s (List.mem_of_mem_take l)
  exact⟨CI.begun f a j (b _ (ar (xs:=bI h) (i:=q.A.toNat) ω)) (b _ (ar (xs:=bI h) (i:=q.B.toNat) ω)) k _,CZ h⟩
def R8(k:ah)(a:Int)(f c:Nat):∀m,cl (zK k a m) f c=cl k f c\/(cl (zK k a m) f c=0/\∃j:Nat,j<m/\f=cW k (a+j)/\c=((a+j) % 16).toNat)
 | 0=>.inl rfl
 | m+1=>by
  have e:cW (zK k a m) (a+m)=cW k (a+m):=by unfold cW;rw[(nr k a m).1]
  rcases rm (zK k a m) (a+m) 0 f c with g|⟨b,h,d⟩
  ·rcases R8 k a f c m with i|⟨b,j,h,d⟩
   ·exact .inl (g.trans i)
   exact .inr ⟨g.trans b,j,ω,d⟩
  exact .inr ⟨b,m,ω,by rw[<-e];exact h,d⟩
def Fu{k:ah}(h:aF k=true){a:Int} : ∀{m:Nat},(∀j:Nat,j<m->(af k.F.R ((a+j) / 16)).e≠0)->∀j:Nat,j<m->cl (zK k a m) (cW k (a+j)) ((a+j) % 16).toNat=0
 | 0,_,_,c=>absurd c (Nat.not_lt_zero _)
 | m+1,d,j,c=>by
  have f:=NX h (a:=a) (m:=m) λj c=>d j ω
  have i:=(nr k a m).1;have e:∀b,cW (zK k a m) b=cW k b:=λb=>by unfold cW;rw[i]
  rcases rm (zK k a m) (a+m) 0 (cW k (a+j)) ((a+j) % 16).toNat with g|⟨l,-⟩
  ·by_cases n:j=m
   ·subst n
    have:=A5 f (a:=a+j) (v:=0) (by rw[i];exact d j ω);rw[e]at this;exact this
   exact g.trans (Fu h (λj c=>d j ω) j ω)
  exact l
def Bz(a:bc h E)(e:o∈h.O){k:Nat}(b:k<h.M.length)(n:o.Addr=16*(nth h.M k).Q):o.q=(nth h.M k).q:=by
 have f:=aS (a.L.lok _ (ar b));rcases a.oow _ e with⟨s,g,c,-⟩|⟨l,d,p,i⟩
 ·exact absurd (show s.Q=(nth h.M k).Q+((0:Nat):Int) by have:=c.1;have:=c.2.1;omega) (a.L.dis s g _ (ar b) 0 ω)
 obtain⟨m,j,rfl⟩:=aO d;have:=a.L.one m k j b 0 0 (by have:=aS (a.L.lok _ d);omega) ω ω;subst this;exact i.symm
variable{α:Type}
def th[Inhabited α]{xs:List α}{y z:α}(c:i<xs.length):z∈xs.set i y↔z=y\/∃j,j<xs.length/\j≠i/\nth xs j=z:=by
 refine⟨ef,?_⟩
 rintro(rfl|⟨j,d,b,rfl⟩)
 ·have a:=ar (xs:=xs.set i z) (i:=i) (by rw[Z1];exact c)
  rw[bH,CD ⟨rfl,c⟩]at a;exact a
 have a:=ar (xs:=xs.set i y) (i:=j) (by rw[Z1];exact d);rw[bH,CB (λx=>b x.1.symm)]at a;exact a
def CI.trimH{h:ac}{i k:Nat}{size:Int}(l:bc h [])(hc:CI h)(V:i<h.O.length)(r:k<h.M.length)(W:(nth h.O i).Addr=16*(nth h.M k).Q)(hz:9<=size/\size<=(nth h.M k).q):CI (trimH h i k size)/\∀o∈h.O,∀j:Int,0<=j->j<o.q->(o=nth h.O i->j<size)->fe (trimH h i k size).G (o.Addr+j)=fe h.G (o.Addr+j):=by
 obtain⟨b1,b2⟩:=uv l r;have M:=l.L.lok _ (ar r);have hlp:=aS M;have hsz:=Bz l (ar V) r W;have h8:=M;unfold bN at h8;rw[C0]at h8;have N:aF (kD h k size)=true:=xC l r hz (W3 _);have D:(kD h k size).F.R=h.G.F.R:=(nr h.G _ _).1;have hN:((d9 (nth h.M k) size:Nat):Int)=(nth h.M k).a2 - (size+15) / 16:=by unfold d9;omega
 have hte:((tbl h).K.length:Int)=(h.G.F.R.K.length:Int):=rfl;have kl:=KL.unmN N (p:=(nth h.M k).Q+(size+15) / 16) ω (d9 (nth h.M k) size) (by rw[D];omega);have ker:=gV N ((nth h.M k).Q+(size+15) / 16) (d9 (nth h.M k) size);have A:=(eP (kD h k size) ((nth h.M k).Q+(size+15) / 16) (d9 (nth h.M k) size)).1;have hcz:=R8 h.G (16*(nth h.M k).Q+size);have hca:=Fu l.ker (a:=16*(nth h.M k).Q+size) (m:=(16*((size+15) / 16) - size).toNat) λj O=>jM l r ⟨ω,ω⟩
 have E:(Ab.trimH h i k size).G=unmN (kD h k size) ((nth h.M k).Q+(size+15) / 16) (d9 (nth h.M k) size):=rfl;have F:(Ab.trimH h i k size).O=h.O.set i {nth h.O i with q:=size}:=rfl;have P:(Ab.trimH h i k size).J=h.J:=rfl;have Q:(Ab.trimH h i k size).Y=h.Y:=rfl;have R:(Ab.trimH h i k size).u=h.u:=rfl;generalize Ab.trimH h i k size=h' at E F P Q R |-;have G:∀f c,cl (kD h k size) f c=cl h.G f c\/(cl (kD h k size) f c=0/\∃b:Int,16*(nth h.M k).Q+size<=b/\b<16*((nth h.M k).Q+(size+15) / 16)/\At h.G b f c):=λf c=>by
  rcases hcz f c (16*((size+15) / 16) - size).toNat with g|⟨g,j,w,B,j3⟩
  ·exact .inl g
  refine .inr ⟨g,16*(nth h.M k).Q+size+j,ω,ω,?_⟩;have:=At.mk' l.ker (jM l r (a:=16*(nth h.M k).Q+size+j) ⟨ω,ω⟩);rw[B,j3];exact this
 have hzv:∀(f c:Nat)(b:Int),16*(nth h.M k).Q+size<=b->b<16*((nth h.M k).Q+(size+15) / 16)->At h.G b f c->cl (kD h k size) f c=0:=λf c b H X d=>by
  have:=hca (b - (16*(nth h.M k).Q+size)).toNat ω;rw[show 16*(nth h.M k).Q+size+((b - (16*(nth h.M k).Q+size)).toNat:Nat)=b by omega]at this;have e:=At.mk' l.ker d.m;obtain⟨u1,u2⟩:=e.uniq d;rw[u1,u2]at this;exact this
 have pout:∀q:Int,¬((nth h.M k).Q+(size+15) / 16<=q/\q<(nth h.M k).Q+(nth h.M k).a2)->af h'.G.F.R q=af h.G.F.R q:=λq Y=>by
  rw[E,kl.out q ω,D]
 rw[<-E]at kl ker A;generalize kD h k size=kz at *;have onL:∀b:Int,16*(nth h.M k).Q<=b->b<16*((nth h.M k).Q+(nth h.M k).a2)->∀f c:Nat,At h.G b f c->PQ h (nth h.O i).Addr f c:=λb H X f c d=>.inr ⟨_,ar r,W,b,H,X,d⟩
 have only:∀o∈h.O,∀f c:Nat,qj h o f c->PQ h (nth h.O i).Addr f c->o=nth h.O i:=λo t f c H X=>by
  have e:=w5 l (jL l t H) X;obtain⟨m,lm,rfl⟩:=aO t;rw[cS (f:=(·.Addr)) (dh l.osr) lm V e]
 have noS:∀s∈h.J,¬((nth h.M k).Q<=s.Q/\s.Q<(nth h.M k).Q+(nth h.M k).a2):=λs J hr=>l.L.dis s J _ (ar r) (s.Q - (nth h.M k).Q).toNat ω ω
 have same:∀f c:Nat,cl h'.G f c≠0->cl h.G f c=cl h'.G f c:=λf c C=>by
  rcases kl.cel f c with e|e
  ·rcases G f c with g|⟨g,-⟩
   ·rw[e,g]
   exact absurd (e.trans g) C
  exact absurd e.1 C
 have stay:∀o∈h.O,∀j:Int,0<=j->j<o.q->(o=nth h.O i->j<size)->∀f c:Nat,At h.G (o.Addr+j) f c->At h'.G (o.Addr+j) f c/\cl h'.G f c=cl h.G f c:=λo t j w B O f c d=>by
  have y:qj h o f c:=⟨j,w,B,d⟩
  have n:af h'.G.F.R ((o.Addr+j) / 16)=af h.G.F.R ((o.Addr+j) / 16):=by
   refine pout _ λZ=>?_
   have e:=only o t f c y (onL _ ω ω f c d);have:=O e;rw[e,W]at Z;omega
  have u:At h'.G (o.Addr+j) f c:=⟨by rw[n];exact d.m,by rw[n];exact d.f,d.c⟩
  refine⟨u,?_⟩;rcases kl.cel f c with e|⟨-,e⟩
  ·rcases G f c with g|⟨-,b,g1,g2,S⟩
   ·rw[e,g]
   exfalso;have eo:=only o t f c y (onL b ω ω f c S);have hjs:=O eo;have Y:=mh l (ar r) (b:=b) ω ω S d.m d.f;have c1:=d.c;have c2:=S.c;rw[eo,W]at Y c1;omega
  exact absurd u.f (e _ u.m)
 refine⟨hc.keep Q R (λq Y=>?_) (λhm=>?_) (λf c _ C=>.inl (same f c C)) (λo t f c h16 y C=>?_) (λhm c _=>?_) (λ_ s' hs' _=>⟨s',by rw[<-P];exact hs',rfl,rfl,λ_ h=>h⟩),λo t j w B O=>?_⟩
 ·have hq':(nth h'.G.F.R.K q).e=1:=Y
  have:=kl.md A q ω;rw[D]at this;show(nth h.G.F.R.K q).e=1;rw[<-this];exact hq'
 ·obtain⟨-,⟨a,ha,T⟩,b,hb,eb⟩:=l.job hm
  exact⟨pout _ λZ=>noS a ha ω,pout _ λZ=>noS b hb ω⟩
 ·obtain⟨j,w,B,d⟩:=y
  by_cases e:o=nth h.O i/\size<=j
  ·exfalso
   obtain⟨e,ej⟩:=e;subst e;by_cases ej2:j<16*((size+15) / 16)
   ·have:=hzv f c ((nth h.O i).Addr+j) ω ω d
    rcases kl.cel f c with g|g
    ·exact C (g.trans this)
    exact C g.1
   refine C (oW ker (λp K hf=>?_) c);by_cases er:(nth h.M k).Q+(size+15) / 16<=p/\p<(nth h.M k).Q+(nth h.M k).a2
   ·exact K (kl.ins p er.1 ω)
   rw[pout p er]at K hf;have:=mh l (ar r) (b:=(nth h.O i).Addr+j) ω ω d K hf;omega
  have st:=stay o t j w B (λU=>by have:¬size<=j:=λx=>e ⟨U,x⟩;omega) f c d;by_cases U:o=nth h.O i
  ·refine⟨{nth h.O i with q:=size},by rw[F];exact(th V).2 (.inl rfl),j,w,?_,?_⟩
   ·have:¬size<=j:=λx=>e ⟨U,x⟩
    show j<size;omega
   have H:=st.1;rw[U]at H;exact H
  refine⟨o,?_,j,w,B,st.1⟩;rw[F];obtain⟨m,lm,rfl⟩:=aO t;exact(th V).2 (.inr ⟨m,lm,λx=>U (by rw[x]),rfl⟩)
 ·have key:∀s∈h.J,cl h'.G (bP h.G s.Q) c=cl h.G (bP h.G s.Q) c:=λs J=>by
   have n:(af (tbl h) s.Q).e≠0:=by rw[l.pe J];exact(l.mapped J).2.2
   rcases kl.cel (bP h.G s.Q) c with e|⟨-,e⟩
   ·rcases G (bP h.G s.Q) c with g|⟨-,b,g1,g2,S⟩
    ·rw[e,g]
    have:=mh l (ar r) (b:=b) ω ω S (q:=s.Q) n (l9 l.ker n);exact absurd (show(nth h.M k).Q<=s.Q/\s.Q<(nth h.M k).Q+(nth h.M k).a2 by omega) (noS s J)
   have K:=pout s.Q λZ=>noS s J ω
   refine absurd ?_ (e s.Q (by rw[K];exact n));rw[K];exact l9 l.ker n
  obtain⟨-,⟨a,ha,T⟩,b,hb,eb⟩:=l.job hm;rw[<-T,<-eb];exact⟨key a ha,key b hb⟩
 have d:=At.mk' l.ker (cI l t (k:=j) ⟨w,ω⟩).1;obtain⟨s1,s2⟩:=stay o t j w B O _ _ d;rw[s1.cell,d.cell,s2]
def GL[Inhabited α](n j:Nat)(y:α):nth (List.replicate n y) j=y\/nth (List.replicate n y) j=default:=by
 by_cases h:j<n
 ·exact .inl (d5 h)
 right
 unfold nth;rw[C3,z3 (by rw[z4];omega)];rfl
def CI.newHeap(p f t:Nat)(lim:Int)(a:List Int):CI (newHeap p f t lim a):=by
 refine⟨λg c b d=>absurd ?_ d,λe=>(by cases e),λe=>(by cases e),λe=>(by cases e),λe=>(by cases e),λq h=>absurd h ?_,λe=>(by cases e)⟩
 ·show nth (nth (List.replicate f (List.replicate 16 (0:Int))) g) c=0
  rcases GL f g (List.replicate 16 (0:Int)) with e|e<;>rw[e]
  ·exact A6 _ _
  rfl
 show ¬(nth (List.replicate p (⟨0,0⟩ : bm)) q).e=1;rcases GL p q (⟨0,0⟩ : bm) with e|e<;>rw[e]
 ·decide
 decide
def ia(k:ah)(o:bo):bD:=⟨o.Id,cellsOf k o.Addr o.q.toNat⟩
structure RS(w:bn):Prop where
 nx:w.b2.b=w.Z.b
 asc:w.b2.O.Pairwise λa b=>a.Id<b.Id
 mem:∀y,y∈w.b2.O↔∃o∈w.Z.O,y=ia w.Z.G o
def qG{b:ah}{n:Nat}(h:∀j:Int,0<=j->j<n->fe b (a+j)=fe k (a+j)):cellsOf b a n=cellsOf k a n:=by
 unfold cellsOf;refine List.map_congr_left λj c=>?_
 have:=List.mem_range.1 c;exact h j ω ω
def fU{a:ah}(h:∀j:Int,0<=j->j<o.q->fe a (o.Addr+j)=fe k (o.Addr+j)):ia a o=ia k o:=by
 unfold ia;rw[qG λj b c=>h j b ω]
def RY[Inhabited α]{R:α->α->Prop}{xs:List α}(h:xs.Pairwise R){j:Nat}(a:i<j)(b:j<xs.length):R (nth xs i) (nth xs j):=by
 have:=List.pairwise_iff_getElem.1 h i j ω b a;rw[show nth xs i=xs[i] from bk (X2 ω),show nth xs j=xs[j] from bk (X2 b)];exact this
def RS.at{w:bn}(b:RS w){o:bo}(c:o∈w.Z.O):∃j:Nat,j<w.b2.O.length/\oS w.b2 o.Id=(j:Nat)/\nth w.b2.O j=ia w.Z.G o:=by
 obtain⟨j,a,e⟩:=aO ((b.mem _).2 ⟨o,c,rfl⟩);refine⟨j,a,dD (au a) (O0 (by rw[e];rfl)) λm z d f=>W0 ?_,e⟩;have g:=RY b.asc d a;rw[bk f,e]at g;have h:(ia w.Z.G o).Id=o.Id:=rfl;omega
variable{w:bn}
def RS.lt(a:RS w)(b:bc w.Z []):∀y∈w.b2.O,1<=y.Id/\y.Id<w.b2.b:=λy c=>by
 obtain⟨o,d,rfl⟩:=(a.mem y).1 c;have:=b.onu o d;rw[a.nx];show 1<=o.Id/\o.Id<w.Z.b;omega
def RS.keep(b:RS w)(d:h'.O=w.Z.O)(c:Kp w.Z h')(e:h'.b=w.Z.b):RS ⟨h',w.b2⟩:=by
 refine⟨b.nx.trans e.symm,b.asc,λy=>(b.mem y).trans ?_⟩;show _↔∃o∈h'.O,y=ia h'.G o
 constructor
 ·rintro⟨o,f,rfl⟩
  have a:o∈h'.O:=by rw[d];exact f
  exact⟨o,a,(fU (c o a).2).symm⟩
 rintro⟨o,a,rfl⟩
 exact⟨o,(c o a).1,fU (c o a).2⟩
def RS.alloc(e:RS w)(i:bc w.Z [])(d:PS w.Z h' x)(k:x.Id=w.Z.b)(g:h'.b=w.Z.b+1)(l:1<=x.q/\x.q<=1000):RS ⟨h',iR w.b2 x.q⟩:=by
 unfold iR;rw[CD l];have h:ia h'.G x = ⟨w.b2.b,List.replicate x.q.toNat 0⟩:=by
  unfold ia;rw[k,e.nx]
  congr 1
  refine List.eq_replicate_iff.2 ⟨iE ..,λb f=>?_⟩;unfold cellsOf at f;obtain⟨j,n,rfl⟩:=Y4.1 f;have:=List.mem_range.1 n;exact d.ze j ω ω
 refine⟨by show w.b2.b+1=h'.b;rw[g,e.nx],?_,λy=>?_⟩
 ·refine List.pairwise_append.2 ⟨e.asc,List.pairwise_singleton _ _,λa p b f=>?_⟩
  rw[V1.1 f];exact(e.lt i a p).2
 show y∈w.b2.O++[_]↔∃o∈h'.O,y=ia h'.G o
 rw[V3,V1,e.mem];constructor
 ·rintro(⟨o,c,rfl⟩|rfl)
  ·exact⟨o,(d.mem o).2 (.inr c),(fU (d.ke o c)).symm⟩
  exact⟨x,(d.mem x).2 (.inl rfl),h.symm⟩
 rintro⟨o,c,rfl⟩
 rcases(d.mem o).1 c with rfl|c
 ·exact .inr h
 exact .inl ⟨o,c,fU (d.ke o c)⟩
def RS.free(a:RS w)(p:bc w.Z [])(h:i<w.Z.O.length)(k:h'.O=dele w.Z.O i)(l:Kp w.Z h')(r:h'.b=w.Z.b):RS ⟨h',jI w.b2 (nth w.Z.O i).Id⟩:=by
 obtain⟨j,t,u,n⟩:=a.at (ar h);unfold jI;rw[u,CB ω];simp only[I3];refine⟨a.nx.trans r.symm,a.asc.sublist (eY _ _),λy=>?_⟩;show y∈dele w.b2.O j↔∃o∈h'.O,y=ia h'.G o
 rw[di];constructor
 ·rintro⟨m,c,A,rfl⟩
  obtain⟨o,d,e⟩:=(a.mem _).1 (ar c);have b:o∈h'.O:=by
   rw[k];obtain⟨q,g,rfl⟩:=aO d;refine di.2 ⟨q,g,λx=>A ?_,rfl⟩;subst x;exact cS (f:=(·.Id)) (dh a.asc) c t (by rw[e,n])
  exact⟨o,b,e.trans (fU (l o b).2).symm⟩
 rintro⟨o,b,rfl⟩
 obtain⟨d,B⟩:=l o b;rw[fU B];obtain⟨m,c,e⟩:=aO ((a.mem _).2 ⟨o,d,rfl⟩);refine⟨m,c,λx=>?_,e⟩;subst x;rw[k]at b;obtain⟨q,g,C,rfl⟩:=di.1 b;exact C (cS (f:=(·.Id)) p.oid g h (Z0 bD.Id (e.symm.trans n)))
def RS.upd(d:RS w)(A:bc w.Z [])(B:i<w.Z.O.length){x':bo}(C:x'.Id=(nth w.Z.O i).Id)(k:∀o,o∈h'.O↔o=x'\/∃m,m<w.Z.O.length/\m≠i/\nth w.Z.O m=o)(t:∀m,m<w.Z.O.length->m≠i->ia h'.G (nth w.Z.O m)=ia w.Z.G (nth w.Z.O m))(D:h'.b=w.Z.b){j:Nat}(l:j<w.b2.O.length)(n:nth w.b2.O j=ia w.Z.G (nth w.Z.O i)):RS ⟨h',{w.b2 with O:=w.b2.O.set j (ia h'.G x')}⟩:=by
 refine⟨d.nx.trans D.symm,?_,λy=>?_⟩
 ·have u:(w.b2.O.map (·.Id)).Pairwise (λa b=>a<b):=List.pairwise_map.2 d.asc
  rw[<-kO (f:=(·.Id)) (y:=ia h'.G x') l (by rw[n];exact C)]at u;exact List.pairwise_map.1 u
 show y∈w.b2.O.set j _↔∃o∈h'.O,y=ia h'.G o
 rw[th l];constructor
 ·rintro(rfl|⟨m,h,p,rfl⟩)
  ·exact⟨x',(k x').2 (.inl rfl),rfl⟩
  obtain⟨o,r,e⟩:=(d.mem _).1 (ar h);obtain⟨q,c,rfl⟩:=aO r;have g:q≠i:=λx=>p (by subst x;exact cS (f:=(·.Id)) (dh d.asc) h l (by rw[e,n]))
  exact⟨_,(k _).2 (.inr ⟨q,c,g,rfl⟩),e.trans (t q c g).symm⟩
 rintro⟨o,r,rfl⟩
 rcases(k o).1 r with rfl|⟨q,c,g,rfl⟩
 ·exact .inl rfl
 rw[t q c g];obtain⟨m,h,e⟩:=aO ((d.mem _).2 ⟨_,ar c,rfl⟩);refine .inr ⟨m,h,λx=>g ?_,e⟩;subst x;exact cS (f:=(·.Id)) A.oid c B (Z0 bD.Id (e.symm.trans n))
def Em(a:bc h E)(c:o∈h.O):1<=o.q/\o.q<=1000:=by
 rcases a.oow _ c with⟨s,d,e,f⟩|⟨l,b,g,i⟩
 ·have j:=aI (a.L.sok s d)
  have:=gK (n:=o.q) ω;omega
 have k:=cF (a.L.lok l b);omega
def RS.store(l:RS w)(g:bc w.Z [])(h:JI w.Z)(n:CI w.Z)(a:i<w.Z.O.length)(p:0<=j/\j<=(nth w.Z.O i).q - 1)(r:0<=v/\v<=999)(t:(af (tbl w.Z) (((nth w.Z.O i).Addr+j) / 16)).e≠1):RS ⟨{w.Z with G:=dJ w.Z.G ((nth w.Z.O i).Addr+j) v},eH w.b2 (nth w.Z.O i).Id j v⟩:=by
 obtain⟨-,d⟩:=CI.store (v:=v) g h n a p t;obtain⟨b,u,A,k⟩:=l.at (ar a);have B:(nth w.b2.O b).T.length=(nth w.Z.O i).q.toNat:=by rw[k];exact iE ..
 have C:eH w.b2 (nth w.Z.O i).Id j v = {w.b2 with O:=w.b2.O.set b ⟨(nth w.b2.O b).Id,(nth w.b2.O b).T.set j.toNat v⟩}:=by
  unfold eH;rw[A];simp only[I3];rw[CD ⟨ω,ω,r⟩]
 have D:(⟨(nth w.b2.O b).Id,(nth w.b2.O b).T.set j.toNat v⟩ : bD)=ia (dJ w.Z.G ((nth w.Z.O i).Addr+j) v) (nth w.Z.O i):=by
  rw[k];unfold ia;simp only
  congr 1
  refine List.ext_getElem (by simp[cellsOf]) λq K E=>?_
  rw[iE]at E;rw[List.getElem_set];simp only[cellsOf,List.getElem_map,List.getElem_range];have:=d _ (ar a) q ω ω;rw[this];by_cases e:j.toNat=q
  ·rw[CD e,CD ⟨rfl,ω⟩]
  rw[CB e,CB (λx=>e ω)]
 rw[C,D];refine RS.upd l g a (h':={w.Z with G:=dJ w.Z.G ((nth w.Z.O i).Addr+j) v}) rfl (λo=>?_) (λm c F=>?_) rfl u k
 ·show o∈w.Z.O↔_
  constructor
  ·intro G
   obtain⟨m,c,rfl⟩:=aO G;by_cases e:m=i
   ·subst e;exact .inl rfl
   exact .inr ⟨m,c,e,rfl⟩
  rintro(rfl|⟨m,c,-,rfl⟩)
  ·exact ar a
  exact ar c
 refine fU λx H J=>?_
 show fe (dJ w.Z.G _ v) _=_;rw[d _ (ar c) x H J,CB (λy=>F (cS (f:=(·.Addr)) (dh g.osr) c a (by rw[y.1])))]
variable{m:Nat}
def D2(k:ah)(a:Int){n:Nat}(h:m<=n):(cellsOf k a n).take m=cellsOf k a m:=by
 unfold cellsOf;rw[<-W4,List.take_range,Nat.min_eq_left h]
def RS.trim(g:RS w)(d:bc w.Z [])(p:CI w.Z){k:Nat}(a:i<w.Z.O.length)(h:k<w.Z.M.length)(l:(nth w.Z.O i).Addr=16*(nth w.Z.M k).Q)(q:9<=size/\size<=(nth w.Z.M k).q):RS ⟨trimH w.Z i k size,fE w.b2 (nth w.Z.O i).Id size⟩:=by
 obtain⟨-,c⟩:=CI.trimH d p a h l q;have r:=Bz d (ar a) h l;obtain⟨b,t,u,e⟩:=g.at (ar a);have A:(nth w.b2.O b).T.length=(nth w.Z.O i).q.toNat:=by rw[e];exact iE ..
 have B:fE w.b2 (nth w.Z.O i).Id size = {w.b2 with O:=w.b2.O.set b ⟨(nth w.b2.O b).Id,(nth w.b2.O b).T.take size.toNat⟩}:=by
  unfold fE;rw[u];simp only[I3];rw[CD ⟨ω,ω,ω⟩]
 have C:(⟨(nth w.b2.O b).Id,(nth w.b2.O b).T.take size.toNat⟩ : bD)=ia (trimH w.Z i k size).G {nth w.Z.O i with q:=size}:=by
  rw[e];unfold ia;simp only;rw[D2 _ _ ω]
  congr 1
  refine(qG λj D H=>?_).symm;exact c _ (ar a) j D ω λ_=>ω
 rw[B,C];refine RS.upd g d a (h':=trimH w.Z i k size) (x':={nth w.Z.O i with q:=size}) rfl (λo=>th a) (λm n E=>?_) rfl t e;refine fU λx F G=>c _ (ar n) x F G λy=>absurd (cS (f:=(·.Addr)) (dh d.osr) n a (by rw[y])) E
def EM(h:ac)(i:Nat)(a:Int):(freeS h i a).b=h.b:=by unfold freeS;split<;>rfl
def NR(t:Nat)(h:ac)(a:Int):(recyc t h a).b=h.b:=by
 unfold recyc;split
 ·rfl
 exact EM h (wn h a) a
def um(t:Nat):∀(az:List Int)(h:ac),(recycs t h az).b=h.b
 | [],_=>rfl
 | a::az,h=>(um t az (recyc t h a)).trans (NR t h a)
def uU:∀(az:List Int)(h:ac),(freeAs h az).b=h.b
 | [],_=>rfl
 | a::az,h=>(uU az (freeA h a)).trans (EM h (wn h a) a)
def AY(t:Nat)(h:ac):∀k,(flushN t h k).1.b=h.b/\(flushN t h k).1.O=h.O
 | 0=>⟨rfl,rfl⟩
 | k+1=>by
  obtain⟨a,b⟩:=AY t h k;exact⟨(uU _ _).trans a,(fS _ _).2.1.trans b⟩
def EH(h:ac)(t i:Nat):(FU h t i).b=h.b/\(FU h t i).O=dele h.O i:=⟨um _ _ _,(fw _ _ _).2.1⟩
def GZ(h:ac)(t i:Nat):(freeT h t i).1.b=h.b/\(((freeT h t i).2=0/\(freeT h t i).1.O=dele h.O i)\/((freeT h t i).2=5/\(freeT h t i).1=h)):=by
 unfold freeT
 repeat' split
 ·exact⟨rfl,.inl ⟨rfl,rfl⟩⟩
 ·exact⟨rfl,.inr ⟨rfl,rfl⟩⟩
 ·exact⟨(EH h t i).1,.inl ⟨rfl,(EH h t i).2⟩⟩
 ·exact⟨rfl,.inl ⟨rfl,rfl⟩⟩
 exact⟨rfl,.inr ⟨rfl,rfl⟩⟩
def Hn(h:ac):∀n,(stN h n).1.b=h.b/\(stN h n).1.O=h.O
 | 0=>⟨rfl,rfl⟩
 | n+1=>by
  obtain⟨a,b⟩:=Hn h n;unfold stN;split
  ·exact⟨a,b⟩
  exact⟨a,b⟩
def CI.stN{h:ac}(a:bc h [])(b:JI h)(c:CI h):∀n,CI (stN h n).1/\Kp h (stN h n).1
 | 0=>⟨c,CZ h⟩
 | n+1=>by
  obtain⟨g,i⟩:=uj a b n;obtain⟨d,f⟩:=CI.stN a b c n;unfold Ab.stN;split
  ·rename_i e
   unfold sL at e;rw[I0]at e;obtain⟨j,k⟩:=CI.mStep g i d e.1;exact⟨j,f.trans k⟩
  exact⟨d,f⟩
def yh(h:ac):(started h).1.b=h.b/\(started h).1.O=h.O:=by
 unfold started;split<;>exact⟨rfl,rfl⟩
structure CW(w:bn):Prop where
 ci:CI w.Z
 rs:RS w
def CW.keep(h:CW w){g:ac}(a:CI g/\Kp w.Z g)(b:g.O=w.Z.O)(c:g.b=w.Z.b):CW ⟨g,w.b2⟩:=⟨a.1,h.rs.keep b a.2 c⟩
def CW.obj(h:rZ w m)(c:CW w)(a:eL)(b:i<w.Z.O.length):CW (m9 w a i).1:=by
 unfold m9;split
 ·unfold qq
  split
  ·exact c
  split
  ·rename_i q
   unfold nX at q;have l:=CI.freeT (t:=a.a4.toNat) h.inv h.ji c.ci b ω;obtain⟨r,u⟩:=GZ w.Z a.a4.toNat i;refine⟨l.1,?_⟩;show RS ⟨(freeT w.Z a.a4.toNat i).1,if _ then _ else _⟩;rcases u with⟨f,d⟩|⟨f,d⟩
   ·rw[CD f];exact c.rs.free h.inv b d l.2 r
   rw[CB (by rw[f];decide),d];exact c.rs
  exact c
 split
 ·unfold mV
  split
  ·exact c
  rename_i g;split
  ·exact c
  rename_i n;split
  ·exact c
  rename_i j;have g:=Classical.not_not.1 g;have j:=Classical.not_not.1 j;exact⟨(CI.store h.inv h.ji c.ci b g n).1,RS.store c.rs h.inv h.ji c.ci b g j n⟩
 unfold pY;split
 ·rename_i e
  obtain⟨-,f,d⟩:=e;obtain⟨o,y,A⟩:=fR _ _ f;have k:=of_decide_eq_true y;have p:=k.symm.trans (Int.mul_comm _ _);exact⟨(CI.trimH h.inv c.ci b o p d).1,RS.trim c.rs h.inv c.ci b o p d⟩
 exact c
def CW.thread(h:rZ w m)(c:CW w)(a:eL):CW ⟨(fK w.Z a).1,w.b2⟩:=by
 have b:=c.ci;unfold fK;split
 ·split
  ·exact CW.keep (g:={w.Z with w:=fX w.Z.w a.a4.toNat}) c ⟨⟨b.z,b.jv,b.jd,b.jc,b.jn,b.m1,b.m2⟩,CZ w.Z⟩ rfl rfl
  exact c
 split
 ·exact c
 rename_i e;have e:=Classical.not_not.1 e;obtain⟨-,i⟩:=e;unfold nX at i;split
 ·exact c.keep (CI.collect (t:=a.a4.toNat) h.inv b ω) (fw _ _ _).2.1 (um _ _ _)
 have j:a.a4.toNat<w.Z.S.length:=ω
 have f:=CI.flushN h.inv j b (W3 4);have d:=AY a.a4.toNat w.Z 4;generalize flushN a.a4.toNat w.Z 4=r at f d |-;exact CW.keep (g:=r.1) c f d.2 d.1
def CW.act(h:rZ w m)(c:CW w)(a:eL):CW (ma w a).1:=by
 unfold ma;split
 ·have b:=CI.allocH (t:=a.a4) (size:=a.N) h.inv h.ji c.ci
  refine⟨b.ci,?_⟩;show RS ⟨(allocH w.Z a.a4 a.N).1,if _ then _ else _⟩;split
  ·rename_i e
   obtain⟨d,f,g,i,-⟩:=b.yes e;exact RS.alloc (x:=⟨w.Z.b,(allocH w.Z a.a4 a.N).2.1,a.N,a.a4⟩) c.rs h.inv d rfl f ⟨g,i⟩
  rename_i e;obtain⟨j,k,l,-⟩:=b.no e;exact c.rs.keep j k l
 split
 ·split
  ·exact c
  rename_i e;exact c.obj h a (fR _ _ (by unfold qJ at e;omega)).1
 split
 ·exact c.thread h a
 split
 ·unfold ov
  split
  ·rename_i e
   exact c.keep (CI.tick h.inv c.ci e.2.1.1 e.2.2) (fS _ _).2.1 (uU _ _)
  exact c
 split
 ·unfold oe
  split
  ·exact c
  rename_i e;exact c.keep (CI.started h.inv c.ci (by simpa using e)) (yh _).2 (yh _).1
 split
 ·exact c.keep (CI.stN h.inv h.ji c.ci _) (Hn _ _).2 (Hn _ _).1
 exact c
def L9(c:cM):CW (world0 c):=⟨CI.newHeap ..,rfl,List.Pairwise.nil,λy=>⟨λh=>(by cases h),λ⟨_,h,_⟩=>(by cases h)⟩⟩
def Pw{c:cM}(h:GM c)(acts:List eL):∀n,CW (zi c acts n).1
 | 0=>L9 c
 | n+1=>(Pw h acts n).act (uD h acts n) _
def FW(zs:List Int):CW (drawn zs):=Pw (pM (X0 _)).1 _ _
def cells1(xs:List Int)(i:Nat)(h:i<xs.length):[rI .V (nth xs i)]=((xs.map (rI .V)).take (i+1)).drop i:=by
 rw[List.drop_take,<-X4,jl h,show i+1 - i=1 by omega]
 rfl
def Hg(h:ac)(t n:Int):cls (allocH h t n).1<=cls h+63:=by
 have a:cls h<=cls h+63:=ω
 unfold allocH;split
 ·exact a
 split
 ·exact a
 split
 ·exact a
 rename_i c;split
 ·exact a
 split
 ·have:=L0 h t.toNat (aK n).toNat
  split
  ·show cls (smallA h t.toNat (aK n).toNat).1<=_;omega
  show cls (smallA h t.toNat (aK n).toNat).1<=_;omega
 have d:(gd n:Int)<=63:=by unfold gd;omega
 unfold largeA;split
 ·exact a
 have b:=GG h.G (ax h.o (gd n:Nat)).2.1 (gd n);unfold cls;split
 ·exact O5 b ω
 exact O5 (W5 (lc _ _ _).1) (O5 b ω)
def J6{h:ac}(a:bc h [])(b:JI h):∀n:Nat,cls (stN h n).1<=cls h+n
 | 0=>by show cls h<=cls h+((0:Nat):Int);omega
 | n+1=>by
  obtain⟨c,f⟩:=uj a b n;have d:=J6 a b n;unfold stN;split
  ·rename_i e
   unfold sL at e;rw[I0,C0]at e;have:=(x6 c e.1).2.1;unfold cls at d |-;simp only;omega
  omega
def KZ(h:rZ w m)(a:eL):cls (ma w a).1.Z<=cls w.Z+63:=by
 have b:cls w.Z<=cls w.Z+63:=ω
 unfold ma;split
 ·exact Hg _ _ _
 split
 ·split
  ·exact b
  unfold m9;split
  ·unfold qq
   split
   ·exact b
   split
   ·exact O5 (W5 (MO _ _ _)) b
   exact b
  split
  ·unfold mV
   split
   ·exact b
   split
   ·exact b
   split<;>exact b
  unfold pY;split
  ·exact O5 (W5 (((lc _ _ _).1).trans (nr _ _ _).2.1)) b
  exact b
 split
 ·unfold fK
  split
  ·split<;>exact b
  split
  ·exact b
  split
  ·exact O5 (W5 (fw _ _ _).2.2.1) b
  exact O5 (W5 (AS _ _ _)) b
 split
 ·unfold ov
  split
  ·exact O5 (W5 (fS _ _).2.2.1) b
  exact b
 split
 ·unfold oe
  split
  ·exact b
  show cls (started w.Z).1<=_;unfold cls;rw[(vf h.inv).2.1];exact b
 split
 ·rename_i e
  have:=J6 h.inv h.ji a.N.toNat;show cls (stN w.Z a.N.toNat).1<=_;omega
 exact b
def Km{c:cM}(h:GM c)(acts:List eL):∀n:Nat,cls (zi c acts n).1.Z<=63*n
 | 0=>by show(0:Int)<=63*((0:Nat):Int);decide
 | n+1=>by
  have a:=Km h acts n;have b:=KZ (uD h acts n) (nth acts n);show cls (ma (zi c acts n).1 (nth acts n)).1.Z<=_;omega
def LN(zs:List Int):(drawn zs).Z.G.Calls<=2520/\(drawn zs).Z.b<=41:=by
 have a:(sI zs).i<=zs.length:=X0 _;obtain⟨b,d⟩:=pM a;have g:=bL zs (eA zs) (n:=41) (by decide);obtain⟨e,-,-⟩:=pD (zs:=zs) (c:=eA zs) d (n:=(bw zs (eA zs) 41).1.toNat) ω;have f:=Km b (l8 zs (eA zs)).1 (l8 zs (eA zs)).1.length;have h:(l8 zs (eA zs)).1.length<=40:=by
  show(lL zs (eA zs) _).1.length<=40;rw[e];omega
 have j:=(xB zs).ref.nx.2;have k:=(FW zs).rs.nx;refine⟨?_,ω⟩;show cls (zi _ _ _).1.Z<=_;exact O5 f ω
def vh(xs:List bo):∀n,n<=xs.length->nt xs n=((xs.take n).map (·.q)).sum
 | 0,_=>rfl
 | n+1,h=>by
  rw[I6,au (by omega:n<xs.length),V6,List.sum_append,<-vh xs n ω];simp[nt]
def y9(h:ac):fy h=(h.O.map (·.q)).sum:=by
 unfold fy;rw[vh _ _ (W3 _),X5]
def EU{p:bo->Bool}{xs:List bo}{y:bo} : ((im p xs y).map (·.q)).sum=(xs.map (·.q)).sum+y.q:=by
 have e:im p xs y=xs.take (hC p xs)++y::xs.drop (hC p xs):=kK rfl;rw[e,V6,List.sum_append,X6,List.sum_cons];have a:(xs.map (·.q)).sum=((xs.take (hC p xs)).map (·.q)).sum+((xs.drop (hC p xs)).map (·.q)).sum:=by
  rw[<-List.sum_append,<-V6,List.take_append_drop]
 rw[a];omega
def EV{t:Int}(j:bc h [])(k:JI h)(l:CI h)(e:(allocH h t size).2.2=0):fy (allocH h t size).1=fy h+size/\fy h+size<=h.c0:=by
 unfold allocH at e |-;by_cases d:1000000<=h.b\/90000<h.G.Calls
 ·rw[CD d]at e;exact absurd (show(5:Int)=0 from e) (by decide)
 rw[CB d]at e |-;by_cases f:¬(0<=t/\t<=h.S.length - 1)
 ·rw[CD f]at e;exact absurd (show(1:Int)=0 from e) (by decide)
 rw[CB f]at e |-;by_cases g:¬(1<=size/\size<=1000)
 ·rw[CD g]at e;exact absurd (show(2:Int)=0 from e) (by decide)
 rw[CB g]at e |-;by_cases i:h.c0<fy h+size
 ·rw[CD i]at e;exact absurd (show(3:Int)=0 from e) (by decide)
 rw[CB i]at e |-;refine⟨?_,ω⟩;rw[y9,y9];split at e
 ·rename_i a
  rw[CD a];have n:aK size<=3:=by unfold aK;repeat' split<;>omega
  have o:=CI.smallA (t:=t.toNat) (c:=(aK size).toNat) j l ω ω ω;split at e
  ·exact absurd (show(4:Int)=0 from e) (by decide)
  rename_i b;rw[CB b];show((im _ (smallA h t.toNat (aK size).toNat).1.O _).map (·.q)).sum=_;rw[EU,o.ob]
 rename_i a;rw[CB a];unfold largeA at e |-;split at e
 ·exact absurd (show(4:Int)=0 from e) (by decide)
 rename_i b;rw[CB b];split at e
 ·rename_i p
  rw[CD p];show((im _ h.O _).map (·.q)).sum=_;rw[EU]
 exact absurd (show(4:Int)=0 from e) (by decide)
def PS.apart(g:PS h h' x)(a:bc h' [])(l:x∉h.O)(i:o∈h.O):¬(x.Addr<o.Addr+o.q/\o.Addr<x.Addr+x.q):=λ⟨n,p⟩=>by
 have c:=(g.mem x).2 (.inl rfl);have f:=(g.mem o).2 (.inr i);have t:=Em a c;have u:=Em a f;obtain⟨b,w,y,A,B⟩ : ∃b:Int,x.Addr<=b/\b<x.Addr+x.q/\o.Addr<=b/\b<o.Addr+o.q:=by
  by_cases e:x.Addr<=o.Addr
  ·exact⟨o.Addr,e,p,V5 _,ω⟩
  exact⟨x.Addr,V5 _,ω,ω,n⟩
 have d:=At.mk' a.ker (cI a c (k:=b - x.Addr) ⟨ω,ω⟩).1;have j:x.Addr+(b - x.Addr)=b:=ω
 rw[j]at d;have q:qj h' x _ _:=⟨b - x.Addr,ω,ω,by rw[j];exact d⟩
 have r:qj h' o _ _:=⟨b - o.Addr,ω,ω,by rw[show o.Addr+(b - o.Addr)=b by omega];exact d⟩
 have:=BY a c f q r;subst this;exact l i
def PS.cells(c:PS h h' x)(f:1<=x.q){k:Nat}(e:nth h'.O k=x):xa h' k=List.replicate x.q.toNat 0:=by
 unfold xa;rw[e];refine List.eq_replicate_iff.2 ⟨iE ..,λb a=>?_⟩;unfold cellsOf at a;obtain⟨j,d,rfl⟩:=Y4.1 a;have:=List.mem_range.1 d;exact c.ze j ω ω
def pO(h:ac)(t size:Int):ac × Int × Int:=if dU h=true then allocH h t size else(h,-1,5)
def HP(d:ac.sml h)(b:ac.wf h)(t size:Int):ac.sml (pO h t size).1/\ac.wf (pO h t size).1:=by
 unfold pO;split
 ·rename_i e
  have f:=bc.of e;have a:=(qa (t:=t) (size:=size) f).1;have c:jh (allocH h t size).1.G.a0:=by
   have:=tY h t size;unfold rfs at this;rw[this];exact b.1.2.2
  exact⟨(a.fit c (kG.of a.mail).sml).sml,a.wf c⟩
 exact⟨d,b⟩
def wQ(h:ac)(t size:Int)(b:ac.sml h)(d:ac.wf h):zzA 22 false [.val (some 24) (ac.enc .V h),.val none [I t],.val none [I size]] (.tup [some 24,none,none]) (ac.enc .own (pO h t size).1++[I (pO h t size).2.1,I (pO h t size).2.2]):=by
 have a:=v7 h b d;have g:=oy h b;have c:=(HP b d t size).1;unfold pO at c |-;cases e:dU h with
 | false=>
  rw[e]at a;rw[CB (by simp)];refine fP 28 [(2000004,[9,21]),(74,[2,0,0])] [] Tryz.func22 rfl ?_ (.inr (aU (ac.enc_fr _) ⟨trivial,trivial,trivial⟩))
  repeat'(first|refine gP ?_|(conv=>whnf);first|refine C9 (a) ?_|refine C9 (g) ?_|refine CC ?_)
  rfl
 | true=>
  rw[e]at a;rw[CD e]at c;rw[CD rfl];have i:=qC h t size (bc.of e);have j:=oy _ c;generalize allocH h t size=r at i j |-;refine fP 28 [(2000004,[9,21]),(74,[2,0,0])] [] Tryz.func22 rfl ?_ (.inr (aU (ac.enc_fr _) ⟨trivial,trivial,trivial⟩))
  repeat'(first|refine gP ?_|(conv=>whnf);first|refine C9 (a) ?_|refine C9 (g) ?_|refine CL (i) (.inl rfl) ?_|refine CK (j) ⟨⟨rfl,bK _⟩,trivial⟩ ?_|refine GQ.mk rfl (List.cons.inj (dA _)).1 rfl ?_|refine CC ?_)
  rfl
def sO(zs:List Int):Nat->List Int × iD
 | 0=>([],sI zs)
 | n+1=>((sO zs n).1++[(bw zs (sO zs n).2 10000).1],(bw zs (sO zs n).2 10000).2)
def Eg(zs:List Int):∀n,(sO zs n).2.i<=zs.length/\(sO zs n).1.length=n/\∀x∈(sO zs n).1,0<=x/\x<10000
 | 0=>⟨X0 _,rfl,λx a=>by cases a⟩
 | n+1=>by
  obtain⟨b,c,d⟩:=Eg zs n;refine⟨bV b _,by show((sO zs n).1++[_]).length=_;rw[Y3,c];rfl,λx a=>?_⟩;rcases V3.1 a with a|a
  ·exact d x a
  rw[V1.1 a];exact bL zs (sO zs n).2 (n:=10000) (by decide)
def wd(zs:List Int)(a:jz zs):zzA 16 false [.val none (RQ zs)] .one (aH .own (sO zs 12).1):=by
 have b:=vF zs a;refine fP 19 [(61,[2,0]),(3000003,[])] [] Tryz.func16 rfl ?_ (.inr (bO _))
 repeat'(first|refine gP ?_|(conv=>whnf);first|refine Cl.g b (.inr rfl) ?_)
 (conv=>whnf)
 refine CJ (ι:=Nat) (λi=>[(0,.H .one (RQ zs)),(3,.H .box (i9 zs (sO zs i).2)),(4,.H .one (aH .own (sO zs i).1)),(5,.H .one [I ((i:Nat):Int)])]) (λi=>i<=12) (λi=>12 - i) (0) ?_ (X0 _) λi j=>?_
 ·repeat'(first|exact trivial|rfl |exact o6 c|exact dL _|refine CM ?_ ?_|(exact B9 (by first|omega|(simp only;omega)|(simp;omega))))
 obtain⟨d,k,-⟩:=Eg zs i;by_cases l:i<12
 ·have e:=bT zs (sO zs i).2 10000 a d (by decide)
  repeat'(first|refine gE ?_|(conv=>whnf);first|refine CL (e) (.inl rfl) ?_|refine CV cB (λr h=>by rw[V1.1 h];rfl) (by simp[bj,ed]) (by simp;omega) (by simp only[I1];exact zh (by simp;omega) (by decide)) rfl ?_)
  ((conv=>whnf);refine CF (i+1) ω ω ?_)
  repeat'(first|exact trivial|rfl| exact dL _ |exact o6 (Z0 (C.s dR.own) (by simp[sO,rI]))|refine CM ?_ ?_|(exact B9 (by first|omega|(simp only;omega)|(simp;omega))))
 obtain rfl:i=12:=ω
 repeat'(first|refine gE ?_|fail)
 rfl
def Allocated_law(zs:List Int)(hw:zs.length<=9223372036854775807/\∀y∈zs,0<=y/\y<=255):zzA 6 false [.val none (RQ zs)] .one [B true]:=by
 have F:=Tq zs hw.1;by_cases hb:(zs.length:Int) > 1048576
 ·rw[O0 hb]at F
  refine fO 151 [(7,271,[32,33,34,35,36,37,38,39,40,41,31,42,43,44,7,0,1,2,3,4,5,6,7,8,9,10,11,12,13,14,15,1012,1013,16,1013,17]),(9,271,[48,49,50,51,52,53,54,55,56,57,47,58,59,60,10,0,1,2,3,4,5,6,7,8,9,10,11,12,13,14,15,1012,1013,16,1013,17]),(10,11,[61,62,63,64,65,66,67,68,69,70,71]),(23,25,[124,125,126,127,128,129,130,131,132,133,134,135,136,137,138,139,140,141,142,143,144,145,146,147,148])] Tryz.func6 rfl ?_
  repeat'(first|refine gP ?_|(conv=>whnf);first|refine CC ?_|refine C9 (F) ?_)
  rfl
 rw[W0 hb]at F;have hz:jz zs:=⟨ω,hw.2⟩
 have cD:=(xO zs hz).fzR;rw[bn.enc_fz]at cD;have cP:=wd zs hz;obtain⟨-,pl,pb⟩:=Eg zs 12;have u:=xB zs;have G:=FW zs;obtain⟨hcl,hnx⟩:=LN zs;have T:=Gs zs;obtain⟨hs,U⟩:=LP zs;generalize drawn zs=w at *;generalize (sO zs 12).1=E at *;have h:=au (xs:=E) (i:=0) ω;have l:=au (xs:=E) (i:=1) ω;have V:=pb _ (ar (xs:=E) (i:=0) ω);have W:=pb _ (ar (xs:=E) (i:=1) ω);generalize nth E 0=p at *;generalize nth E 1=q at *;have b:=u.inv;have hh:=b.to;have hlo:=b.lens.objs;have hlc:=b.lens.caches;have hc1:0<w.Z.S.length:=by
  obtain⟨⟨m1,-,-⟩,-⟩:=d8.1 b.mail;have:=b.nc;omega
 have wm:=eE (y:=20) V.1;have hpm:=Int.emod_nonneg p (show(20:Int)≠0 by decide);have hpn:=Int.emod_lt_of_pos p (show(0:Int)<20 by decide);generalize p % 20=m at *;have Y:=eE (y:=(w.Z.S.length:Nat)) W.1;obtain⟨t,ht⟩:=O3 (Int.emod_nonneg q (show((w.Z.S.length:Nat):Int)≠0 by omega));have Z:=Int.emod_lt_of_pos q (show(0:Int)<(w.Z.S.length:Nat) by omega);rw[ht]at Y Z;have hso:=kZ b.objSz w.Z.O.length (W3 _);change 0<=fy w.Z/\fy w.Z<=_ at hso;obtain⟨cc,hcc,M⟩:=Fe w.Z (t:Nat) (1+m) hs b (by rw[tV];exact hh);have c2:=lG w.Z b.objSz ω;have N:=wQ w.Z (t:Nat) (1+m) hs U;unfold pO at N;rw[CD hh]at N;have al:=CI.allocH (t:=(t:Nat)) (size:=1+m) b u.ji G.ci;obtain⟨g,-⟩:=qa (t:=(t:Nat)) (size:=1+m) b;have C:=tY w.Z (t:Nat) (1+m);unfold rfs at C;have H:=EV (t:=(t:Nat)) (size:=1+m) b u.ji G.ci;have d:=Q9 hcc;generalize hr:allocH w.Z (t:Nat) (1+m)=r at *;clear hr;obtain⟨X,a,c⟩:=r;simp only at M N g C H d;have fs:=(g.fit (by rw[C];exact T) (kG.of g.mail).sml).sml;have hxl:=g.lens.objs;have O:=lG X g.objSz ω;have c5:=pk X fs;rw[tV,g.to]at c5;by_cases e:c=0;rotate_left
 ·obtain⟨o1,o2,o3,o4⟩:=al.no e
  simp only at o1 o4;subst o4;have hll:fy X=fy w.Z:=by unfold fy;rw[o1]
  rw[hll]at O;refine fO 151 [(7,271,[32,33,34,35,36,37,38,39,40,41,31,42,43,44,7,0,1,2,3,4,5,6,7,8,9,10,11,12,13,14,15,1012,1013,16,1013,17]),(9,271,[48,49,50,51,52,53,54,55,56,57,47,58,59,60,10,0,1,2,3,4,5,6,7,8,9,10,11,12,13,14,15,1012,1013,16,1013,17]),(10,11,[61,62,63,64,65,66,67,68,69,70,71]),(23,25,[124,125,126,127,128,129,130,131,132,133,134,135,136,137,138,139,140,141,142,143,144,145,146,147,148])] Tryz.func6 rfl ?_
  repeat'(first|refine gB ?_|(conv=>whnf);first|refine CC ?_|refine CE (aa h) ?_|refine CE (aa l) ?_|refine CG rfl (aa h) rfl ?_|refine CG rfl (aa l) rfl ?_|refine CP ω ?_|refine CT wm ?_|refine CT Y ?_|refine C9 (F) ?_|refine C9 (cD) ?_|refine C9 (cP) ?_|refine Cl.sh M rfl ?_|refine C9 (N) ?_|refine C9 (c2) ?_|refine CK (O) ⟨⟨rfl,d⟩,trivial⟩ ?_|refine CK (c5) ⟨⟨rfl,d⟩,trivial⟩ ?_|refine CC ?_)
  all_goals rfl
 subst e;obtain⟨P,nx,z1,z2,za⟩:=al.yes rfl
 try simp only at P nx za
 obtain⟨l1,l2⟩:=H rfl
 try simp only at l1
 rw[l1]at O;have hnn:=HK b (a:=a) (size:=1+m) (t:=(t:Nat));have hap:∀o∈w.Z.O,¬(a<o.Addr+o.q/\o.Addr<a+(1+m)):=λo Q=>P.apart g hnn Q
 obtain⟨k,lk,ek⟩:=aO ((P.mem _).2 (.inl rfl));have S:=Gp X w.Z.b k fs g.to lk ((Tb g.to lk).1 (by rw[ek]));rw[P.cells (by show 1<=1+m;omega) ek]at S;have J:∀o∈w.Z.O,0<=o.Addr/\o.Addr<512/\1<=o.q/\o.q<=1000:=λo Q=>by
  have h1:=pH b Q;have h2:=Em b Q;omega
 have hab:a<512:=by
  have:=pH g (ar lk);rw[ek]at this;exact this.2
 change ay _ _ _ _ _ [.s .own ((List.replicate (1+m).toNat 0).map (rI .own)),B true]at S;generalize hn:1+m=sz at *;obtain⟨n,rfl⟩ : ∃n:Nat,sz=n:=⟨sz.toNat,ω⟩
 try simp only[I3]at S
 have K:∀i,i<n->(List.replicate n (0:Int))[i]? = some 0:=λi b=>by rw[List.getElem?_replicate,CD b]
 have hlr:(List.replicate n (0:Int)).length=n:=z4 ..;generalize List.replicate n (0:Int)=R at *;rw[<-hn]at M;refine fO 151 [(7,271,[32,33,34,35,36,37,38,39,40,41,31,42,43,44,7,0,1,2,3,4,5,6,7,8,9,10,11,12,13,14,15,1012,1013,16,1013,17]),(9,271,[48,49,50,51,52,53,54,55,56,57,47,58,59,60,10,0,1,2,3,4,5,6,7,8,9,10,11,12,13,14,15,1012,1013,16,1013,17]),(10,11,[61,62,63,64,65,66,67,68,69,70,71]),(23,25,[124,125,126,127,128,129,130,131,132,133,134,135,136,137,138,139,140,141,142,143,144,145,146,147,148])] Tryz.func6 rfl ?_
 repeat'(first|refine gB ?_|(conv=>whnf);first|refine CC ?_|refine CE (aa h) ?_|refine CE (aa l) ?_|refine CG rfl (aa h) rfl ?_|refine CG rfl (aa l) rfl ?_|refine CP ω ?_|refine CT wm ?_|refine CT Y ?_|refine C9 (F) ?_|refine C9 (cD) ?_|refine C9 (cP) ?_|refine Cl.sh M rfl ?_|refine CC ?_)
 (conv=>whnf)
 refine CJ (ι:=Nat) (λi=>[(4,.H .box (ac.enc .V w.Z)),(6,.H .one [I ((n:Nat):Int)]),(7,.H .box (Ho X cc)),(8,.H .one [I (a)]),(13,.H .one [I ((i:Nat):Int)])]) (λi=>i<=w.Z.O.length) (λi=>w.Z.O.length - i) (0) ?_ (X0 _) λi b=>?_
 ·exact wC
 by_cases li:i<w.Z.O.length
 ·have L:=au li
  have h1:=hap _ (ar li);have h2:=J _ (ar li)
  repeat'(first|refine gE ?_|(conv=>whnf);first|with_reducible (first|refine CE (aa L) ?_|refine Bf.D (λhq=>?_) (λhq=>?_))|refine CC ?_|refine CG rfl (aa L) rfl ?_)
  all_goals((conv=>whnf);refine CF (i+1) ω ω ?_;(exact wC))
 obtain rfl:i=w.Z.O.length:=ω
 repeat'(first|refine gE ?_|(conv=>whnf);first|refine CC ?_|refine CK (S) ⟨⟨rfl,d⟩,⟨rfl,rfl⟩,trivial⟩ ?_)
 (conv=>whnf)
 refine CJ (ι:=Nat) (λj=>[(4,.H .box (ac.enc .V w.Z)),(6,.H .one [I ((n:Nat):Int)]),(7,.H .box (Ho X cc)),(15,.H .one (aH .own R)),(16,.H .one [B (true)]),(17,.H .one [I ((j:Nat):Int)])]) (λj=>j<=n) (λj=>n - j) (0) ?_ (X0 _) λj hj=>?_
 ·exact wC
 by_cases lj:j<n
 ·have L:=K j lj
  repeat'(first|refine gB ?_|(conv=>whnf);first|with_reducible refine CE (aa L) ?_|refine CC ?_|refine CG rfl (aa L) rfl ?_)
  ((conv=>whnf);refine CF (j+1) ω ω ?_;(exact wC))
 obtain rfl:j=n:=ω
 repeat'(first|refine gB ?_|(conv=>whnf);first|refine CC ?_|refine C9 (c2) ?_|refine CK (O) ⟨⟨rfl,d⟩,trivial⟩ ?_|refine CK (c5) ⟨⟨rfl,d⟩,trivial⟩ ?_|refine CC ?_)
 all_goals first|rfl|exact Z0 (λz=>[B z]) (O0 ω)
open Go.RowKit Go.ChangeShapes Go.WideShapes Go.Deep
def ALL(w:World):am:=λb _=>b<w.heap.size
def Ui{H:Type}(e:TypeId × Value->H)(P:Program)(w:World)(t n:Nat)(enc:α->List C)(c:α->Prop):Prop:=
 ∀(fuel:Nat)(b:List Value)(x:DataW H × List MemPlace),DataW.trod e P w 0 (λ_=>true) true fuel t b=some x->b.length=n/\∃a,c a/\(enc a).length=n/\cR w (ALL w) NO (enc a) (λj=>b.getD j undef)
section
variable{H:Type}{e:TypeId × Value->H}{P:Program}{w:World}
variable{u:Nat->Value}
def BG{S F:am}{c:C}(h:dM w S F c (u 0)):cR w S F [c] u:=
 ⟨λ_=>F,λj e a=>by cases j with
   | zero=>simp at a;subst a;exact h
   | succ j=>simp at a,λ_ _ _ _ h=>h,λj f a b d=>by simp at a b;omega⟩
def pick{α β:Type}(n:Nat){Q:Nat->β->Prop}(h:∀i,i<n->∃b,Q i b):∃l:List β,l.length=n/\∀i b,l[i]? = some b->Q i b:=by
 induction n with
 | zero=>exact⟨[],rfl,λi b h=>by simp at h⟩
 | succ n c=>
  obtain⟨l,d,e⟩:=c λi a=>h i ω
  obtain⟨b,f⟩:=h n ω;refine⟨l++[b],by simp[d],λi g a=>?_⟩;by_cases j:i<n
  ·rw[t5 ω]at a;exact e i g a
  rw[v5 ω]at a;have:i - l.length=0:=by
   have:=(Z2.1 a).1;simp at this;omega
  rw[this]at a;simp at a;subst a;rw[show i=n by omega];exact f
theorem MV{t T n:Nat}{α:Type}{enc:α->List C}{U:α->Prop}(V:Ui e P w T n enc U)(ht:P.underlying t=some (.slice T))(hn:P.cellsOf T=n)(p:0<n) :
  Ui e P w t 1 (λxs:List α=>[.s .V (xs.map enc)]) (λxs=>xs.length<=9223372036854775807/\∀y∈xs,U y):=by
 intro fuel cs x h;rcases open_slice ht h with⟨rfl,-⟩|⟨k,len,cap,m,n',D,Pl,rfl,-,hl,hm,K,-,u⟩
 ·exact⟨rfl,[],⟨by simp,by simp⟩,rfl,BG (.nil _ _ _ trivial)⟩
 simp only[if_true]at K;subst K;have L:0<m->k.spot=none:=λW=>by
  obtain⟨E,M,N⟩:=u 0 W;rw[hn]at M;obtain⟨_,X,F⟩:=World.cells?_some M;have:=F 0 p;rw[X2 ω]at this;have:=World.cell?_spot this;simpa[Addr.add] using this
 have key:∀i,i<len->∃a,U a/\(enc a).length=n/\(∀d,d<n->∃z,cel w k.block (k.off+(i*n+d))=some z)/\k.spot=none/\cR w (ALL w) NO (enc a) (λd=>(cel w k.block (k.off+(i*n+d))).getD undef):=λi hil=>by
  have g:=L ω;obtain⟨E,M,N⟩:=u i ω;rw[hn]at M;obtain⟨h1,a,h3,h4,h5⟩:=V _ _ _ N;obtain⟨_,X,F⟩:=World.cells?_some M;have O:∀d,k.add d = ⟨k.block,k.off+d,none⟩:=λd=>by
   obtain⟨b,o,sp⟩:=k;simp only at g;subst g;unfold Addr.add;split<;>simp_all
  have A:∀d,d<n->cel w k.block (k.off+(i*n+d))=E[d]?:=λd J=>by
   have:=F d J;rw[Go.Deep.add_add,O]at this;exact this
  refine⟨a,h3,h4,λd J=>⟨_,by rw[A d J,X2 ω]⟩,g,h5.congr λd J=>?_⟩;show(cel w k.block (k.off+(i*n+d))).getD undef=E.getD d undef;rw[A d ω,List.getD]
 obtain⟨l,Q,B⟩:=pick (α:=α) len key;refine⟨rfl,l,⟨by simp only[maxLen]at hm;omega,λy R=>?_⟩,rfl,BG ?_⟩
 ·obtain⟨i,G⟩:=List.mem_iff_getElem?.1 R
  exact(B i y G).1
 show dM w (ALL w) NO (.s .V (l.map enc)) (.slice (some k) len m);by_cases h0:len=0
 ·subst h0
  have:l=[]:=I8 Q;subst this;by_cases Y:m=0
  ·subst Y;exact .nil _ _ _ trivial
  have g:=L ω;obtain⟨b,o,sp⟩:=k;simp only at g;subst g;exact .V _ b o n 0 m [] (λ_=>undef) rfl (λr Z=>by simp at Z) hl (λq hq=>by simp at hq) (λi j r c u=>by simp at u)
 obtain⟨y0,hy0⟩ : ∃y,l[0]? = some y:=⟨_,X2 ω⟩
 have g:=(B 0 y0 hy0).2.2.2.1;obtain⟨b,o,sp⟩:=k;simp only at g;subst g;refine .V _ b o n len m (l.map enc) (λq=>(cel w b (o+q)).getD undef) (by simpa using Q) (λr Z=>?_) hl (λq hq=>?_) (λi j r c u hj=>?_)
 ·obtain⟨y,R,rfl⟩:=Y4.1 Z
  obtain⟨i,G⟩:=List.mem_iff_getElem?.1 R;exact(B i y G).2.1
 ·have hqd:q / n<len:=(Nat.div_lt_iff_lt_mul p).2 hq
  obtain⟨y,R⟩ : ∃y,l[q / n]? = some y:=⟨_,X2 ω⟩
  obtain⟨z,S⟩:=(B _ y R).2.2.1 (q % n) (Nat.mod_lt _ p);have J:q / n*n+q % n=q:=by rw[Nat.mul_comm];exact Nat.div_add_mod q n
  rw[J]at S;exact⟨T0 S,by simp only at S |-;rw[S];rfl⟩
 rw[X3]at u;cases H:l[i]? with
 | none=>rw[H]at u;cases u
 | some y=>
  rw[H]at u;simp only[Y5,C1]at u;subst u;obtain⟨f,h1,h2,-⟩:=(B i y H).2.2.2.2;have hjl:=(Z2.1 hj).1;exact(h1 j c hj).mono (λ_ _ h=>h) (h2 j hjl)
def row_val{S F:am}{x:Value}(h:cR w S F [.v x] u):u 0=x:=by
 obtain⟨f,a,-⟩:=h;have:=a 0 _ rfl;cases this
 rfl
end
open Go.RowKit Go.ChangeShapes Go.WideShapes
section
variable{H:Type}{e:TypeId × Value->H}{P:Program}{w:World}
def Qb{t:Nat}(b:P.underlying t=some (.int .u8)):Ui e P w t 1 rU (λz=>0<=z/\z<=255):=by
 intro fuel c x h;obtain⟨n,rfl,-,a⟩:=DataW.trod_int b h;refine⟨rfl,n,?_,rfl,BG (.v _ _ rfl)⟩;simp only[Lit.wf,I0,C0]at a;exact a
def op_ByteS:Ui e Tryz.prog w 22 1 (λzs:List Int=>[.s .V (zs.map rU)]) (λzs=>zs.length<=9223372036854775807/\∀y∈zs,0<=y/\y<=255):=MV (Qb Tryz.underlying5) Tryz.underlying22 (by kernel_rfl) (by decide)
end
end Go.Proofs.YtiopgblagimpmaaGreat.Ab
